/-
  No cell of these rows narrows 'for every input' (looked for: loops, veiled, ifaces, maps, wideKeys, modest, calm, conditions, laid).
  DERIVED. THE GIVEN ROWS OF THIS SEAT. 5 by the template 'for every input the law returns true; each argument reads behind the call as it read before'; 0 by the template 'total and deterministic' (their statements: YtbgabipngdillaaTotals.lean).
  GIVEN WITH THE SEED: the statements are not yours to turn. If you find one false, say at which input.
  Laid BY PROGRAM, IN A SANDBOX (cutbox-rows.mjs): the forced cells as the released guide's own fill.sh prints them over the translation 0c29724bfe314ea2… (all of the seat's roots in one cut). By AI agents, Wed Nov 11 2026. No macro, syntax, notation, axiom, sorry.
-/
import Derived.Test.YtbgabipngdillaaChecked
import GoSem.Claim
import GoSem.ClaimJoined
import GoSem.ClaimMapViews
import Derived.JoinedTies
import Derived.KernelRfl
namespace Go.Proofs.Ytbgabipngdillaa
/- THE CELL 'sum', in the pinned program and in every row, IS THE sha256 OF THE DUMP (.gsa) THAT YtbgabipngdillaaProg.lean LOADS. Nothing in Lean hashes anything: it is a label: what it is worth is what the hold of that sum in a sandbox is worth. -/
noncomputable def Try.pinned : Pinned := { name := "ytbgabipngdillaa", sum := "0c29724bfe314ea2e987f733c0ca884149ebc3933bd82236f1a791d3c1169ed4", checked := Try.checked }
namespace Rows
def none {H : Type} : Left H := { results := [], args := [] }

/-- 'privatefetchlaw10.ListUnique': WHATEVER THE INPUT: true; the input reads as it did. -/
def listUniqueSpec : ChangeSpec := { name := "listUnique", fn := fun _ => fun
  | [d1, d2] => { results := [.lit (.bool true)], args := [d1, d2] }
  | _ => none }
def listUniqueRow : OpenClaim := { program := "ytbgabipngdillaa", sum := "0c29724bfe314ea2e987f733c0ca884149ebc3933bd82236f1a791d3c1169ed4", func := "privatefetch/privatefetchlaw10.ListUnique", spec := "listUnique", unfollowed := true, recurses := true, apart := false }
def ListUniqueSaid : Prop := listUniqueRow.holds Try.pinned (OpenSpec.ofChange listUniqueSpec)

/-- ITS FALSE NEIGHBOUR: 'it returns false'. Refute it at one input. -/
def listUniqueWrong : ChangeSpec := { name := "listUnique", fn := fun _ => fun
  | [d1, d2] => { results := [.lit (.bool false)], args := [d1, d2] }
  | _ => none }
def ListUniqueWrongFalsely : Prop := listUniqueRow.holds Try.pinned (OpenSpec.ofChange listUniqueWrong)

/-- 'privatefetchlaw10.ListNearest': WHATEVER THE INPUT: true; the input reads as it did. -/
def listNearestSpec : ChangeSpec := { name := "listNearest", fn := fun _ => fun
  | [d1, d2] => { results := [.lit (.bool true)], args := [d1, d2] }
  | _ => none }
def listNearestRow : OpenClaim := { program := "ytbgabipngdillaa", sum := "0c29724bfe314ea2e987f733c0ca884149ebc3933bd82236f1a791d3c1169ed4", func := "privatefetch/privatefetchlaw10.ListNearest", spec := "listNearest", unfollowed := true, recurses := true, apart := false }
def ListNearestSaid : Prop := listNearestRow.holds Try.pinned (OpenSpec.ofChange listNearestSpec)

/-- ITS FALSE NEIGHBOUR: 'it returns false'. Refute it at one input. -/
def listNearestWrong : ChangeSpec := { name := "listNearest", fn := fun _ => fun
  | [d1, d2] => { results := [.lit (.bool false)], args := [d1, d2] }
  | _ => none }
def ListNearestWrongFalsely : Prop := listNearestRow.holds Try.pinned (OpenSpec.ofChange listNearestWrong)

/-- 'privatefetchlaw10.ListOrder': WHATEVER THE INPUT: true; the input reads as it did. -/
def listOrderSpec : ChangeSpec := { name := "listOrder", fn := fun _ => fun
  | [d1, d2, d3, d4] => { results := [.lit (.bool true)], args := [d1, d2, d3, d4] }
  | _ => none }
def listOrderRow : OpenClaim := { program := "ytbgabipngdillaa", sum := "0c29724bfe314ea2e987f733c0ca884149ebc3933bd82236f1a791d3c1169ed4", func := "privatefetch/privatefetchlaw10.ListOrder", spec := "listOrder", unfollowed := true, recurses := true, apart := false }
def ListOrderSaid : Prop := listOrderRow.holds Try.pinned (OpenSpec.ofChange listOrderSpec)

/-- ITS FALSE NEIGHBOUR: 'it returns false'. Refute it at one input. -/
def listOrderWrong : ChangeSpec := { name := "listOrder", fn := fun _ => fun
  | [d1, d2, d3, d4] => { results := [.lit (.bool false)], args := [d1, d2, d3, d4] }
  | _ => none }
def ListOrderWrongFalsely : Prop := listOrderRow.holds Try.pinned (OpenSpec.ofChange listOrderWrong)

/-- 'privatefetchlaw10.ListDoes': WHATEVER THE INPUT: true; the input reads as it did. -/
def listDoesSpec : ChangeSpec := { name := "listDoes", fn := fun _ => fun
  | [d1, d2, d3, d4, d5, d6] => { results := [.lit (.bool true)], args := [d1, d2, d3, d4, d5, d6] }
  | _ => none }
def listDoesRow : OpenClaim := { program := "ytbgabipngdillaa", sum := "0c29724bfe314ea2e987f733c0ca884149ebc3933bd82236f1a791d3c1169ed4", func := "privatefetch/privatefetchlaw10.ListDoes", spec := "listDoes", unfollowed := true, recurses := true, apart := false }
def ListDoesSaid : Prop := listDoesRow.holds Try.pinned (OpenSpec.ofChange listDoesSpec)

/-- ITS FALSE NEIGHBOUR: 'it returns false'. Refute it at one input. -/
def listDoesWrong : ChangeSpec := { name := "listDoes", fn := fun _ => fun
  | [d1, d2, d3, d4, d5, d6] => { results := [.lit (.bool false)], args := [d1, d2, d3, d4, d5, d6] }
  | _ => none }
def ListDoesWrongFalsely : Prop := listDoesRow.holds Try.pinned (OpenSpec.ofChange listDoesWrong)

/-- 'privatefetchlaw10.ListFinds': WHATEVER THE INPUT: true; the input reads as it did. -/
def listFindsSpec : ChangeSpec := { name := "listFinds", fn := fun _ => fun
  | [d1, d2, d3] => { results := [.lit (.bool true)], args := [d1, d2, d3] }
  | _ => none }
def listFindsRow : OpenClaim := { program := "ytbgabipngdillaa", sum := "0c29724bfe314ea2e987f733c0ca884149ebc3933bd82236f1a791d3c1169ed4", func := "privatefetch/privatefetchlaw10.ListFinds", spec := "listFinds", unfollowed := true, recurses := true, apart := false }
def ListFindsSaid : Prop := listFindsRow.holds Try.pinned (OpenSpec.ofChange listFindsSpec)

/-- ITS FALSE NEIGHBOUR: 'it returns false'. Refute it at one input. -/
def listFindsWrong : ChangeSpec := { name := "listFinds", fn := fun _ => fun
  | [d1, d2, d3] => { results := [.lit (.bool false)], args := [d1, d2, d3] }
  | _ => none }
def ListFindsWrongFalsely : Prop := listFindsRow.holds Try.pinned (OpenSpec.ofChange listFindsWrong)

/- THE SECOND FORM. 'bulk': how many values and letters a reading holds, each counted each time it is reached (what is shared counts as often as it is met; a slice's spare places count too). A statement '..UptoSaid' is the law's where the arguments, and the package variables that the reading takes, are together of bulk at most 1048576: NARROWER than '..Said'. Prove '..Said' where nothing that the law and all that it calls make is longer than what came in: it says more and counts as full. Else prove '..UptoSaid'. A law counts once. -/
mutual
def uptoBulk {H : Type} : DataW H → Nat
  | .lit (.string bytes) => bytes.length + 1
  | .lit _ => 1
  | .nil => 1
  | .ptr d => uptoBulk d + 1
  | .slice elems spare => uptoBulkAll elems + uptoBulkAll spare + 1
  | .agg parts => uptoBulkAll parts + 1
  | .iface _ d => uptoBulk d + 1
  | .map entries => uptoBulkEntries entries + 1
  | .held _ => 1
def uptoBulkAll {H : Type} : List (DataW H) → Nat
  | [] => 0
  | d :: r => uptoBulk d + uptoBulkAll r
def uptoBulkEntries {H : Type} : List (Lit × DataW H) → Nat
  | [] => 0
  | x :: r => uptoBulkEntry x + uptoBulkEntries r
def uptoBulkEntry {H : Type} : Lit × DataW H → Nat
  | (.string bytes, d) => bytes.length + uptoBulk d + 1
  | (_, d) => uptoBulk d + 1
 end
def uptoSmall : (H : Type) → List (DataW H) → Bool := fun _ ds => decide (uptoBulkAll ds ≤ 1048576)
def OpenSpec.upto (s : _root_.Go.ChangeSpec) : _root_.Go.OpenSpec := { _root_.Go.OpenSpec.ofChange s with cond := some uptoSmall }

/-- 'privatefetchlaw10.ListUnique', WHERE WHAT IT READS IS OF BULK AT MOST 1048576: true; the input reads as it did. -/
def listUniqueUptoRow : OpenClaim := { program := "ytbgabipngdillaa", sum := "0c29724bfe314ea2e987f733c0ca884149ebc3933bd82236f1a791d3c1169ed4", func := "privatefetch/privatefetchlaw10.ListUnique", spec := "listUnique", unfollowed := true, recurses := true, apart := false, narrowed := true }
def ListUniqueUptoSaid : Prop := listUniqueUptoRow.holds Try.pinned (OpenSpec.upto listUniqueSpec)

/-- 'privatefetchlaw10.ListNearest', WHERE WHAT IT READS IS OF BULK AT MOST 1048576: true; the input reads as it did. -/
def listNearestUptoRow : OpenClaim := { program := "ytbgabipngdillaa", sum := "0c29724bfe314ea2e987f733c0ca884149ebc3933bd82236f1a791d3c1169ed4", func := "privatefetch/privatefetchlaw10.ListNearest", spec := "listNearest", unfollowed := true, recurses := true, apart := false, narrowed := true }
def ListNearestUptoSaid : Prop := listNearestUptoRow.holds Try.pinned (OpenSpec.upto listNearestSpec)

/-- 'privatefetchlaw10.ListOrder', WHERE WHAT IT READS IS OF BULK AT MOST 1048576: true; the input reads as it did. -/
def listOrderUptoRow : OpenClaim := { program := "ytbgabipngdillaa", sum := "0c29724bfe314ea2e987f733c0ca884149ebc3933bd82236f1a791d3c1169ed4", func := "privatefetch/privatefetchlaw10.ListOrder", spec := "listOrder", unfollowed := true, recurses := true, apart := false, narrowed := true }
def ListOrderUptoSaid : Prop := listOrderUptoRow.holds Try.pinned (OpenSpec.upto listOrderSpec)

/-- 'privatefetchlaw10.ListDoes', WHERE WHAT IT READS IS OF BULK AT MOST 1048576: true; the input reads as it did. -/
def listDoesUptoRow : OpenClaim := { program := "ytbgabipngdillaa", sum := "0c29724bfe314ea2e987f733c0ca884149ebc3933bd82236f1a791d3c1169ed4", func := "privatefetch/privatefetchlaw10.ListDoes", spec := "listDoes", unfollowed := true, recurses := true, apart := false, narrowed := true }
def ListDoesUptoSaid : Prop := listDoesUptoRow.holds Try.pinned (OpenSpec.upto listDoesSpec)

/-- 'privatefetchlaw10.ListFinds', WHERE WHAT IT READS IS OF BULK AT MOST 1048576: true; the input reads as it did. -/
def listFindsUptoRow : OpenClaim := { program := "ytbgabipngdillaa", sum := "0c29724bfe314ea2e987f733c0ca884149ebc3933bd82236f1a791d3c1169ed4", func := "privatefetch/privatefetchlaw10.ListFinds", spec := "listFinds", unfollowed := true, recurses := true, apart := false, narrowed := true }
def ListFindsUptoSaid : Prop := listFindsUptoRow.holds Try.pinned (OpenSpec.upto listFindsSpec)

end Rows
end Go.Proofs.Ytbgabipngdillaa
