/-
  No cell of these rows narrows 'for every input' (looked for: loops, veiled, ifaces, maps, wideKeys, modest, calm, conditions, laid).
  DERIVED. THE GIVEN ROWS OF THIS SEAT. 6 by the template 'for every input the law returns true; each argument reads behind the call as it read before'; 0 by the template 'total and deterministic' (their statements: YtllnomembakboaaTotals.lean).
  GIVEN WITH THE SEED: the statements are not yours to turn. If you find one false, say at which input.
  Laid BY PROGRAM, IN A SANDBOX (cutbox-rows.mjs): the forced cells as the released guide's own fill.sh prints them over the translation 26c5afbb1e4d56da… (all of the seat's roots in one cut). By AI agents, Wed Nov 11 2026. No macro, syntax, notation, axiom, sorry.
-/
import Derived.Test.YtllnomembakboaaChecked
import GoSem.Claim
import GoSem.ClaimJoined
import GoSem.ClaimMapViews
import Derived.JoinedTies
import Derived.KernelRfl
namespace Go.Proofs.Ytllnomembakboaa
/- THE CELL 'sum', in the pinned program and in every row, IS THE sha256 OF THE DUMP (.gsa) THAT YtllnomembakboaaProg.lean LOADS. Nothing in Lean hashes anything: it is a label: what it is worth is what the hold of that sum in a sandbox is worth. -/
noncomputable def Try.pinned : Pinned := { name := "ytllnomembakboaa", sum := "26c5afbb1e4d56da21608825ca30fabe99bb11fe888a23207ace4851872cac44", checked := Try.checked }
namespace Rows
def none {H : Type} : Left H := { results := [], args := [] }

/-- 'privatefetchlaw20.KeywordBuilds': WHATEVER THE INPUT: true; the input reads as it did. -/
def keywordBuildsSpec : ChangeSpec := { name := "keywordBuilds", fn := fun _ => fun
  | [d1, d2, d3, d4, d5] => { results := [.lit (.bool true)], args := [d1, d2, d3, d4, d5] }
  | _ => none }
def keywordBuildsRow : OpenClaim := { program := "ytllnomembakboaa", sum := "26c5afbb1e4d56da21608825ca30fabe99bb11fe888a23207ace4851872cac44", func := "privatefetch/privatefetchlaw20.KeywordBuilds", spec := "keywordBuilds", unfollowed := true, recurses := true, apart := false }
def KeywordBuildsSaid : Prop := keywordBuildsRow.holds Try.pinned (OpenSpec.ofChange keywordBuildsSpec)

/-- ITS FALSE NEIGHBOUR: 'it returns false'. Refute it at one input. -/
def keywordBuildsWrong : ChangeSpec := { name := "keywordBuilds", fn := fun _ => fun
  | [d1, d2, d3, d4, d5] => { results := [.lit (.bool false)], args := [d1, d2, d3, d4, d5] }
  | _ => none }
def KeywordBuildsWrongFalsely : Prop := keywordBuildsRow.holds Try.pinned (OpenSpec.ofChange keywordBuildsWrong)

/-- 'privatefetchlaw20.KeywordFinds': WHATEVER THE INPUT: true; the input reads as it did. -/
def keywordFindsSpec : ChangeSpec := { name := "keywordFinds", fn := fun _ => fun
  | [d] => { results := [.lit (.bool true)], args := [d] }
  | _ => none }
def keywordFindsRow : OpenClaim := { program := "ytllnomembakboaa", sum := "26c5afbb1e4d56da21608825ca30fabe99bb11fe888a23207ace4851872cac44", func := "privatefetch/privatefetchlaw20.KeywordFinds", spec := "keywordFinds", unfollowed := true, recurses := true, apart := false }
def KeywordFindsSaid : Prop := keywordFindsRow.holds Try.pinned (OpenSpec.ofChange keywordFindsSpec)

/-- ITS FALSE NEIGHBOUR: 'it returns false'. Refute it at one input. -/
def keywordFindsWrong : ChangeSpec := { name := "keywordFinds", fn := fun _ => fun
  | [d] => { results := [.lit (.bool false)], args := [d] }
  | _ => none }
def KeywordFindsWrongFalsely : Prop := keywordFindsRow.holds Try.pinned (OpenSpec.ofChange keywordFindsWrong)

/-- 'privatefetchlaw20.KeywordOrder': WHATEVER THE INPUT: true; the input reads as it did. -/
def keywordOrderSpec : ChangeSpec := { name := "keywordOrder", fn := fun _ => fun
  | [d1, d2] => { results := [.lit (.bool true)], args := [d1, d2] }
  | _ => none }
def keywordOrderRow : OpenClaim := { program := "ytllnomembakboaa", sum := "26c5afbb1e4d56da21608825ca30fabe99bb11fe888a23207ace4851872cac44", func := "privatefetch/privatefetchlaw20.KeywordOrder", spec := "keywordOrder", unfollowed := true, recurses := true, apart := false }
def KeywordOrderSaid : Prop := keywordOrderRow.holds Try.pinned (OpenSpec.ofChange keywordOrderSpec)

/-- ITS FALSE NEIGHBOUR: 'it returns false'. Refute it at one input. -/
def keywordOrderWrong : ChangeSpec := { name := "keywordOrder", fn := fun _ => fun
  | [d1, d2] => { results := [.lit (.bool false)], args := [d1, d2] }
  | _ => none }
def KeywordOrderWrongFalsely : Prop := keywordOrderRow.holds Try.pinned (OpenSpec.ofChange keywordOrderWrong)

/-- 'privatefetchlaw20.KeywordPads': WHATEVER THE INPUT: true; the input reads as it did. -/
def keywordPadsSpec : ChangeSpec := { name := "keywordPads", fn := fun _ => fun
  | [d1, d2] => { results := [.lit (.bool true)], args := [d1, d2] }
  | _ => none }
def keywordPadsRow : OpenClaim := { program := "ytllnomembakboaa", sum := "26c5afbb1e4d56da21608825ca30fabe99bb11fe888a23207ace4851872cac44", func := "privatefetch/privatefetchlaw20.KeywordPads", spec := "keywordPads", unfollowed := true, recurses := true, apart := false }
def KeywordPadsSaid : Prop := keywordPadsRow.holds Try.pinned (OpenSpec.ofChange keywordPadsSpec)

/-- ITS FALSE NEIGHBOUR: 'it returns false'. Refute it at one input. -/
def keywordPadsWrong : ChangeSpec := { name := "keywordPads", fn := fun _ => fun
  | [d1, d2] => { results := [.lit (.bool false)], args := [d1, d2] }
  | _ => none }
def KeywordPadsWrongFalsely : Prop := keywordPadsRow.holds Try.pinned (OpenSpec.ofChange keywordPadsWrong)

/-- 'privatefetchlaw20.KeywordBytes': WHATEVER THE INPUT: true; the input reads as it did. -/
def keywordBytesSpec : ChangeSpec := { name := "keywordBytes", fn := fun _ => fun
  | [d1, d2, d3, d4, d5, d6] => { results := [.lit (.bool true)], args := [d1, d2, d3, d4, d5, d6] }
  | _ => none }
def keywordBytesRow : OpenClaim := { program := "ytllnomembakboaa", sum := "26c5afbb1e4d56da21608825ca30fabe99bb11fe888a23207ace4851872cac44", func := "privatefetch/privatefetchlaw20.KeywordBytes", spec := "keywordBytes", unfollowed := true, recurses := true, apart := false }
def KeywordBytesSaid : Prop := keywordBytesRow.holds Try.pinned (OpenSpec.ofChange keywordBytesSpec)

/-- ITS FALSE NEIGHBOUR: 'it returns false'. Refute it at one input. -/
def keywordBytesWrong : ChangeSpec := { name := "keywordBytes", fn := fun _ => fun
  | [d1, d2, d3, d4, d5, d6] => { results := [.lit (.bool false)], args := [d1, d2, d3, d4, d5, d6] }
  | _ => none }
def KeywordBytesWrongFalsely : Prop := keywordBytesRow.holds Try.pinned (OpenSpec.ofChange keywordBytesWrong)

/-- 'privatefetchlaw20.KeywordAlike': WHATEVER THE INPUT: true; the input reads as it did. -/
def keywordAlikeSpec : ChangeSpec := { name := "keywordAlike", fn := fun _ => fun
  | [d1, d2] => { results := [.lit (.bool true)], args := [d1, d2] }
  | _ => none }
def keywordAlikeRow : OpenClaim := { program := "ytllnomembakboaa", sum := "26c5afbb1e4d56da21608825ca30fabe99bb11fe888a23207ace4851872cac44", func := "privatefetch/privatefetchlaw20.KeywordAlike", spec := "keywordAlike", unfollowed := true, recurses := true, apart := false }
def KeywordAlikeSaid : Prop := keywordAlikeRow.holds Try.pinned (OpenSpec.ofChange keywordAlikeSpec)

/-- ITS FALSE NEIGHBOUR: 'it returns false'. Refute it at one input. -/
def keywordAlikeWrong : ChangeSpec := { name := "keywordAlike", fn := fun _ => fun
  | [d1, d2] => { results := [.lit (.bool false)], args := [d1, d2] }
  | _ => none }
def KeywordAlikeWrongFalsely : Prop := keywordAlikeRow.holds Try.pinned (OpenSpec.ofChange keywordAlikeWrong)

/- THE SECOND FORM. 'bulk': how many values and letters a reading holds, each counted each time it is reached (what is shared counts as often as it is met; a slice's spare places count too). A statement '..UptoSaid' is the law's where the arguments, and the package variables that the reading takes, are together of bulk at most 1048576: NARROWER than '..Said'. Prove '..Said' where nothing that the law and all that it calls make is longer than what came in: it says more and counts as full. Else prove '..UptoSaid'. A law counts once. -/
mutual
def uptoBulk {H : Type} : DataW H → Nat
  | .lit (.string bytes) => bytes.length + 1
  | .lit _ => 1
  | .nil => 1
  | .ptr d => uptoBulk d + 1
  | .slice elems spare => uptoBulkAll elems + uptoBulkAll spare + 1
  | .agg parts => uptoBulkAll parts + 1
  | .iface _ d => uptoBulk d + 1
  | .map entries => uptoBulkEntries entries + 1
  | .held _ => 1
def uptoBulkAll {H : Type} : List (DataW H) → Nat
  | [] => 0
  | d :: r => uptoBulk d + uptoBulkAll r
def uptoBulkEntries {H : Type} : List (Lit × DataW H) → Nat
  | [] => 0
  | x :: r => uptoBulkEntry x + uptoBulkEntries r
def uptoBulkEntry {H : Type} : Lit × DataW H → Nat
  | (.string bytes, d) => bytes.length + uptoBulk d + 1
  | (_, d) => uptoBulk d + 1
 end
def uptoSmall : (H : Type) → List (DataW H) → Bool := fun _ ds => decide (uptoBulkAll ds ≤ 1048576)
def OpenSpec.upto (s : _root_.Go.ChangeSpec) : _root_.Go.OpenSpec := { _root_.Go.OpenSpec.ofChange s with cond := some uptoSmall }

/-- 'privatefetchlaw20.KeywordBuilds', WHERE WHAT IT READS IS OF BULK AT MOST 1048576: true; the input reads as it did. -/
def keywordBuildsUptoRow : OpenClaim := { program := "ytllnomembakboaa", sum := "26c5afbb1e4d56da21608825ca30fabe99bb11fe888a23207ace4851872cac44", func := "privatefetch/privatefetchlaw20.KeywordBuilds", spec := "keywordBuilds", unfollowed := true, recurses := true, apart := false, narrowed := true }
def KeywordBuildsUptoSaid : Prop := keywordBuildsUptoRow.holds Try.pinned (OpenSpec.upto keywordBuildsSpec)

/-- 'privatefetchlaw20.KeywordFinds', WHERE WHAT IT READS IS OF BULK AT MOST 1048576: true; the input reads as it did. -/
def keywordFindsUptoRow : OpenClaim := { program := "ytllnomembakboaa", sum := "26c5afbb1e4d56da21608825ca30fabe99bb11fe888a23207ace4851872cac44", func := "privatefetch/privatefetchlaw20.KeywordFinds", spec := "keywordFinds", unfollowed := true, recurses := true, apart := false, narrowed := true }
def KeywordFindsUptoSaid : Prop := keywordFindsUptoRow.holds Try.pinned (OpenSpec.upto keywordFindsSpec)

/-- 'privatefetchlaw20.KeywordOrder', WHERE WHAT IT READS IS OF BULK AT MOST 1048576: true; the input reads as it did. -/
def keywordOrderUptoRow : OpenClaim := { program := "ytllnomembakboaa", sum := "26c5afbb1e4d56da21608825ca30fabe99bb11fe888a23207ace4851872cac44", func := "privatefetch/privatefetchlaw20.KeywordOrder", spec := "keywordOrder", unfollowed := true, recurses := true, apart := false, narrowed := true }
def KeywordOrderUptoSaid : Prop := keywordOrderUptoRow.holds Try.pinned (OpenSpec.upto keywordOrderSpec)

/-- 'privatefetchlaw20.KeywordPads', WHERE WHAT IT READS IS OF BULK AT MOST 1048576: true; the input reads as it did. -/
def keywordPadsUptoRow : OpenClaim := { program := "ytllnomembakboaa", sum := "26c5afbb1e4d56da21608825ca30fabe99bb11fe888a23207ace4851872cac44", func := "privatefetch/privatefetchlaw20.KeywordPads", spec := "keywordPads", unfollowed := true, recurses := true, apart := false, narrowed := true }
def KeywordPadsUptoSaid : Prop := keywordPadsUptoRow.holds Try.pinned (OpenSpec.upto keywordPadsSpec)

/-- 'privatefetchlaw20.KeywordBytes', WHERE WHAT IT READS IS OF BULK AT MOST 1048576: true; the input reads as it did. -/
def keywordBytesUptoRow : OpenClaim := { program := "ytllnomembakboaa", sum := "26c5afbb1e4d56da21608825ca30fabe99bb11fe888a23207ace4851872cac44", func := "privatefetch/privatefetchlaw20.KeywordBytes", spec := "keywordBytes", unfollowed := true, recurses := true, apart := false, narrowed := true }
def KeywordBytesUptoSaid : Prop := keywordBytesUptoRow.holds Try.pinned (OpenSpec.upto keywordBytesSpec)

/-- 'privatefetchlaw20.KeywordAlike', WHERE WHAT IT READS IS OF BULK AT MOST 1048576: true; the input reads as it did. -/
def keywordAlikeUptoRow : OpenClaim := { program := "ytllnomembakboaa", sum := "26c5afbb1e4d56da21608825ca30fabe99bb11fe888a23207ace4851872cac44", func := "privatefetch/privatefetchlaw20.KeywordAlike", spec := "keywordAlike", unfollowed := true, recurses := true, apart := false, narrowed := true }
def KeywordAlikeUptoSaid : Prop := keywordAlikeUptoRow.holds Try.pinned (OpenSpec.upto keywordAlikeSpec)

end Rows
end Go.Proofs.Ytllnomembakboaa
