/-
  No cell of these rows narrows 'for every input' (looked for: loops, veiled, ifaces, maps, wideKeys, modest, calm, conditions, laid).
  DERIVED. THE GIVEN ROWS OF THIS SEAT. 9 by the template 'for every input the law returns true; each argument reads behind the call as it read before'; 0 by the template 'total and deterministic' (their statements: YtmglcjdigpgjlaaTotals.lean).
  GIVEN WITH THE SEED: the statements are not yours to turn. If you find one false, say at which input.
  Laid BY PROGRAM, IN A SANDBOX (cutbox-rows.mjs): the forced cells as the released guide's own fill.sh prints them over the translation 787aa61c98ad7e5f… (all of the seat's roots in one cut). By AI agents, Wed Nov 11 2026. No macro, syntax, notation, axiom, sorry.
-/
import Derived.Test.YtmglcjdigpgjlaaChecked
import GoSem.Claim
import GoSem.ClaimJoined
import GoSem.ClaimMapViews
import Derived.JoinedTies
import Derived.KernelRfl
namespace Go.Proofs.Ytmglcjdigpgjlaa
/- THE CELL 'sum', in the pinned program and in every row, IS THE sha256 OF THE DUMP (.gsa) THAT YtmglcjdigpgjlaaProg.lean LOADS. Nothing in Lean hashes anything: it is a label: what it is worth is what the hold of that sum in a sandbox is worth. -/
noncomputable def Try.pinned : Pinned := { name := "ytmglcjdigpgjlaa", sum := "787aa61c98ad7e5fc03b2f040404e8d3b1e7abf683f6119abbe11f4d6d0f4afc", checked := Try.checked }
namespace Rows
def none {H : Type} : Left H := { results := [], args := [] }

/-- 'privatefetchlaw22.MarkDoes': WHATEVER THE INPUT: true; the input reads as it did. -/
def markDoesSpec : ChangeSpec := { name := "markDoes", fn := fun _ => fun
  | [d1, d2, d3, d4, d5, d6] => { results := [.lit (.bool true)], args := [d1, d2, d3, d4, d5, d6] }
  | _ => none }
def markDoesRow : OpenClaim := { program := "ytmglcjdigpgjlaa", sum := "787aa61c98ad7e5fc03b2f040404e8d3b1e7abf683f6119abbe11f4d6d0f4afc", func := "privatefetch/privatefetchlaw22.MarkDoes", spec := "markDoes", unfollowed := true, recurses := true, apart := false }
def MarkDoesSaid : Prop := markDoesRow.holds Try.pinned (OpenSpec.ofChange markDoesSpec)

/-- ITS FALSE NEIGHBOUR: 'it returns false'. Refute it at one input. -/
def markDoesWrong : ChangeSpec := { name := "markDoes", fn := fun _ => fun
  | [d1, d2, d3, d4, d5, d6] => { results := [.lit (.bool false)], args := [d1, d2, d3, d4, d5, d6] }
  | _ => none }
def MarkDoesWrongFalsely : Prop := markDoesRow.holds Try.pinned (OpenSpec.ofChange markDoesWrong)

/-- 'privatefetchlaw22.MarkVerifies': WHATEVER THE INPUT: true; the input reads as it did. -/
def markVerifiesSpec : ChangeSpec := { name := "markVerifies", fn := fun _ => fun
  | [d1, d2, d3, d4] => { results := [.lit (.bool true)], args := [d1, d2, d3, d4] }
  | _ => none }
def markVerifiesRow : OpenClaim := { program := "ytmglcjdigpgjlaa", sum := "787aa61c98ad7e5fc03b2f040404e8d3b1e7abf683f6119abbe11f4d6d0f4afc", func := "privatefetch/privatefetchlaw22.MarkVerifies", spec := "markVerifies", unfollowed := true, recurses := true, apart := false }
def MarkVerifiesSaid : Prop := markVerifiesRow.holds Try.pinned (OpenSpec.ofChange markVerifiesSpec)

/-- ITS FALSE NEIGHBOUR: 'it returns false'. Refute it at one input. -/
def markVerifiesWrong : ChangeSpec := { name := "markVerifies", fn := fun _ => fun
  | [d1, d2, d3, d4] => { results := [.lit (.bool false)], args := [d1, d2, d3, d4] }
  | _ => none }
def MarkVerifiesWrongFalsely : Prop := markVerifiesRow.holds Try.pinned (OpenSpec.ofChange markVerifiesWrong)

/-- 'privatefetchlaw22.MarkFinds': WHATEVER THE INPUT: true; the input reads as it did. -/
def markFindsSpec : ChangeSpec := { name := "markFinds", fn := fun _ => fun
  | [d1, d2, d3] => { results := [.lit (.bool true)], args := [d1, d2, d3] }
  | _ => none }
def markFindsRow : OpenClaim := { program := "ytmglcjdigpgjlaa", sum := "787aa61c98ad7e5fc03b2f040404e8d3b1e7abf683f6119abbe11f4d6d0f4afc", func := "privatefetch/privatefetchlaw22.MarkFinds", spec := "markFinds", unfollowed := true, recurses := true, apart := false }
def MarkFindsSaid : Prop := markFindsRow.holds Try.pinned (OpenSpec.ofChange markFindsSpec)

/-- ITS FALSE NEIGHBOUR: 'it returns false'. Refute it at one input. -/
def markFindsWrong : ChangeSpec := { name := "markFinds", fn := fun _ => fun
  | [d1, d2, d3] => { results := [.lit (.bool false)], args := [d1, d2, d3] }
  | _ => none }
def MarkFindsWrongFalsely : Prop := markFindsRow.holds Try.pinned (OpenSpec.ofChange markFindsWrong)

/-- 'privatefetchlaw12.MerkleDoes': WHATEVER THE INPUT: true; the input reads as it did. -/
def merkleDoesSpec : ChangeSpec := { name := "merkleDoes", fn := fun _ => fun
  | [d1, d2, d3, d4, d5, d6, d7] => { results := [.lit (.bool true)], args := [d1, d2, d3, d4, d5, d6, d7] }
  | _ => none }
def merkleDoesRow : OpenClaim := { program := "ytmglcjdigpgjlaa", sum := "787aa61c98ad7e5fc03b2f040404e8d3b1e7abf683f6119abbe11f4d6d0f4afc", func := "privatefetch/privatefetchlaw12.MerkleDoes", spec := "merkleDoes", unfollowed := true, recurses := true, apart := false }
def MerkleDoesSaid : Prop := merkleDoesRow.holds Try.pinned (OpenSpec.ofChange merkleDoesSpec)

/-- ITS FALSE NEIGHBOUR: 'it returns false'. Refute it at one input. -/
def merkleDoesWrong : ChangeSpec := { name := "merkleDoes", fn := fun _ => fun
  | [d1, d2, d3, d4, d5, d6, d7] => { results := [.lit (.bool false)], args := [d1, d2, d3, d4, d5, d6, d7] }
  | _ => none }
def MerkleDoesWrongFalsely : Prop := merkleDoesRow.holds Try.pinned (OpenSpec.ofChange merkleDoesWrong)

/-- 'privatefetchlaw12.MerkleLeads': WHATEVER THE INPUT: true; the input reads as it did. -/
def merkleLeadsSpec : ChangeSpec := { name := "merkleLeads", fn := fun _ => fun
  | [d1, d2] => { results := [.lit (.bool true)], args := [d1, d2] }
  | _ => none }
def merkleLeadsRow : OpenClaim := { program := "ytmglcjdigpgjlaa", sum := "787aa61c98ad7e5fc03b2f040404e8d3b1e7abf683f6119abbe11f4d6d0f4afc", func := "privatefetch/privatefetchlaw12.MerkleLeads", spec := "merkleLeads", unfollowed := true, recurses := true, apart := false }
def MerkleLeadsSaid : Prop := merkleLeadsRow.holds Try.pinned (OpenSpec.ofChange merkleLeadsSpec)

/-- ITS FALSE NEIGHBOUR: 'it returns false'. Refute it at one input. -/
def merkleLeadsWrong : ChangeSpec := { name := "merkleLeads", fn := fun _ => fun
  | [d1, d2] => { results := [.lit (.bool false)], args := [d1, d2] }
  | _ => none }
def MerkleLeadsWrongFalsely : Prop := merkleLeadsRow.holds Try.pinned (OpenSpec.ofChange merkleLeadsWrong)

/-- 'privatefetchlaw12.MerkleChanges': WHATEVER THE INPUT: true; the input reads as it did. -/
def merkleChangesSpec : ChangeSpec := { name := "merkleChanges", fn := fun _ => fun
  | [d1, d2, d3] => { results := [.lit (.bool true)], args := [d1, d2, d3] }
  | _ => none }
def merkleChangesRow : OpenClaim := { program := "ytmglcjdigpgjlaa", sum := "787aa61c98ad7e5fc03b2f040404e8d3b1e7abf683f6119abbe11f4d6d0f4afc", func := "privatefetch/privatefetchlaw12.MerkleChanges", spec := "merkleChanges", unfollowed := true, recurses := true, apart := false }
def MerkleChangesSaid : Prop := merkleChangesRow.holds Try.pinned (OpenSpec.ofChange merkleChangesSpec)

/-- ITS FALSE NEIGHBOUR: 'it returns false'. Refute it at one input. -/
def merkleChangesWrong : ChangeSpec := { name := "merkleChanges", fn := fun _ => fun
  | [d1, d2, d3] => { results := [.lit (.bool false)], args := [d1, d2, d3] }
  | _ => none }
def MerkleChangesWrongFalsely : Prop := merkleChangesRow.holds Try.pinned (OpenSpec.ofChange merkleChangesWrong)

/-- 'privatefetchlaw12.MerkleForges': WHATEVER THE INPUT: true; the input reads as it did. -/
def merkleForgesSpec : ChangeSpec := { name := "merkleForges", fn := fun _ => fun
  | [d1, d2, d3, d4] => { results := [.lit (.bool true)], args := [d1, d2, d3, d4] }
  | _ => none }
def merkleForgesRow : OpenClaim := { program := "ytmglcjdigpgjlaa", sum := "787aa61c98ad7e5fc03b2f040404e8d3b1e7abf683f6119abbe11f4d6d0f4afc", func := "privatefetch/privatefetchlaw12.MerkleForges", spec := "merkleForges", unfollowed := true, recurses := true, apart := false }
def MerkleForgesSaid : Prop := merkleForgesRow.holds Try.pinned (OpenSpec.ofChange merkleForgesSpec)

/-- ITS FALSE NEIGHBOUR: 'it returns false'. Refute it at one input. -/
def merkleForgesWrong : ChangeSpec := { name := "merkleForges", fn := fun _ => fun
  | [d1, d2, d3, d4] => { results := [.lit (.bool false)], args := [d1, d2, d3, d4] }
  | _ => none }
def MerkleForgesWrongFalsely : Prop := merkleForgesRow.holds Try.pinned (OpenSpec.ofChange merkleForgesWrong)

/-- 'privatefetchlaw12.MerkleParts': WHATEVER THE INPUT: true; the input reads as it did. -/
def merklePartsSpec : ChangeSpec := { name := "merkleParts", fn := fun _ => fun
  | [d1, d2] => { results := [.lit (.bool true)], args := [d1, d2] }
  | _ => none }
def merklePartsRow : OpenClaim := { program := "ytmglcjdigpgjlaa", sum := "787aa61c98ad7e5fc03b2f040404e8d3b1e7abf683f6119abbe11f4d6d0f4afc", func := "privatefetch/privatefetchlaw12.MerkleParts", spec := "merkleParts", unfollowed := true, recurses := true, apart := false }
def MerklePartsSaid : Prop := merklePartsRow.holds Try.pinned (OpenSpec.ofChange merklePartsSpec)

/-- ITS FALSE NEIGHBOUR: 'it returns false'. Refute it at one input. -/
def merklePartsWrong : ChangeSpec := { name := "merkleParts", fn := fun _ => fun
  | [d1, d2] => { results := [.lit (.bool false)], args := [d1, d2] }
  | _ => none }
def MerklePartsWrongFalsely : Prop := merklePartsRow.holds Try.pinned (OpenSpec.ofChange merklePartsWrong)

/-- 'privatefetchlaw12.MerkleOrder': WHATEVER THE INPUT: true; the input reads as it did. -/
def merkleOrderSpec : ChangeSpec := { name := "merkleOrder", fn := fun _ => fun
  | [d1, d2] => { results := [.lit (.bool true)], args := [d1, d2] }
  | _ => none }
def merkleOrderRow : OpenClaim := { program := "ytmglcjdigpgjlaa", sum := "787aa61c98ad7e5fc03b2f040404e8d3b1e7abf683f6119abbe11f4d6d0f4afc", func := "privatefetch/privatefetchlaw12.MerkleOrder", spec := "merkleOrder", unfollowed := true, recurses := true, apart := false }
def MerkleOrderSaid : Prop := merkleOrderRow.holds Try.pinned (OpenSpec.ofChange merkleOrderSpec)

/-- ITS FALSE NEIGHBOUR: 'it returns false'. Refute it at one input. -/
def merkleOrderWrong : ChangeSpec := { name := "merkleOrder", fn := fun _ => fun
  | [d1, d2] => { results := [.lit (.bool false)], args := [d1, d2] }
  | _ => none }
def MerkleOrderWrongFalsely : Prop := merkleOrderRow.holds Try.pinned (OpenSpec.ofChange merkleOrderWrong)

/- THE SECOND FORM. 'bulk': how many values and letters a reading holds, each counted each time it is reached (what is shared counts as often as it is met; a slice's spare places count too). A statement '..UptoSaid' is the law's where the arguments, and the package variables that the reading takes, are together of bulk at most 1048576: NARROWER than '..Said'. Prove '..Said' where nothing that the law and all that it calls make is longer than what came in: it says more and counts as full. Else prove '..UptoSaid'. A law counts once. -/
mutual
def uptoBulk {H : Type} : DataW H → Nat
  | .lit (.string bytes) => bytes.length + 1
  | .lit _ => 1
  | .nil => 1
  | .ptr d => uptoBulk d + 1
  | .slice elems spare => uptoBulkAll elems + uptoBulkAll spare + 1
  | .agg parts => uptoBulkAll parts + 1
  | .iface _ d => uptoBulk d + 1
  | .map entries => uptoBulkEntries entries + 1
  | .held _ => 1
def uptoBulkAll {H : Type} : List (DataW H) → Nat
  | [] => 0
  | d :: r => uptoBulk d + uptoBulkAll r
def uptoBulkEntries {H : Type} : List (Lit × DataW H) → Nat
  | [] => 0
  | x :: r => uptoBulkEntry x + uptoBulkEntries r
def uptoBulkEntry {H : Type} : Lit × DataW H → Nat
  | (.string bytes, d) => bytes.length + uptoBulk d + 1
  | (_, d) => uptoBulk d + 1
 end
def uptoSmall : (H : Type) → List (DataW H) → Bool := fun _ ds => decide (uptoBulkAll ds ≤ 1048576)
def OpenSpec.upto (s : _root_.Go.ChangeSpec) : _root_.Go.OpenSpec := { _root_.Go.OpenSpec.ofChange s with cond := some uptoSmall }

/-- 'privatefetchlaw22.MarkDoes', WHERE WHAT IT READS IS OF BULK AT MOST 1048576: true; the input reads as it did. -/
def markDoesUptoRow : OpenClaim := { program := "ytmglcjdigpgjlaa", sum := "787aa61c98ad7e5fc03b2f040404e8d3b1e7abf683f6119abbe11f4d6d0f4afc", func := "privatefetch/privatefetchlaw22.MarkDoes", spec := "markDoes", unfollowed := true, recurses := true, apart := false, narrowed := true }
def MarkDoesUptoSaid : Prop := markDoesUptoRow.holds Try.pinned (OpenSpec.upto markDoesSpec)

/-- 'privatefetchlaw22.MarkVerifies', WHERE WHAT IT READS IS OF BULK AT MOST 1048576: true; the input reads as it did. -/
def markVerifiesUptoRow : OpenClaim := { program := "ytmglcjdigpgjlaa", sum := "787aa61c98ad7e5fc03b2f040404e8d3b1e7abf683f6119abbe11f4d6d0f4afc", func := "privatefetch/privatefetchlaw22.MarkVerifies", spec := "markVerifies", unfollowed := true, recurses := true, apart := false, narrowed := true }
def MarkVerifiesUptoSaid : Prop := markVerifiesUptoRow.holds Try.pinned (OpenSpec.upto markVerifiesSpec)

/-- 'privatefetchlaw22.MarkFinds', WHERE WHAT IT READS IS OF BULK AT MOST 1048576: true; the input reads as it did. -/
def markFindsUptoRow : OpenClaim := { program := "ytmglcjdigpgjlaa", sum := "787aa61c98ad7e5fc03b2f040404e8d3b1e7abf683f6119abbe11f4d6d0f4afc", func := "privatefetch/privatefetchlaw22.MarkFinds", spec := "markFinds", unfollowed := true, recurses := true, apart := false, narrowed := true }
def MarkFindsUptoSaid : Prop := markFindsUptoRow.holds Try.pinned (OpenSpec.upto markFindsSpec)

/-- 'privatefetchlaw12.MerkleDoes', WHERE WHAT IT READS IS OF BULK AT MOST 1048576: true; the input reads as it did. -/
def merkleDoesUptoRow : OpenClaim := { program := "ytmglcjdigpgjlaa", sum := "787aa61c98ad7e5fc03b2f040404e8d3b1e7abf683f6119abbe11f4d6d0f4afc", func := "privatefetch/privatefetchlaw12.MerkleDoes", spec := "merkleDoes", unfollowed := true, recurses := true, apart := false, narrowed := true }
def MerkleDoesUptoSaid : Prop := merkleDoesUptoRow.holds Try.pinned (OpenSpec.upto merkleDoesSpec)

/-- 'privatefetchlaw12.MerkleLeads', WHERE WHAT IT READS IS OF BULK AT MOST 1048576: true; the input reads as it did. -/
def merkleLeadsUptoRow : OpenClaim := { program := "ytmglcjdigpgjlaa", sum := "787aa61c98ad7e5fc03b2f040404e8d3b1e7abf683f6119abbe11f4d6d0f4afc", func := "privatefetch/privatefetchlaw12.MerkleLeads", spec := "merkleLeads", unfollowed := true, recurses := true, apart := false, narrowed := true }
def MerkleLeadsUptoSaid : Prop := merkleLeadsUptoRow.holds Try.pinned (OpenSpec.upto merkleLeadsSpec)

/-- 'privatefetchlaw12.MerkleChanges', WHERE WHAT IT READS IS OF BULK AT MOST 1048576: true; the input reads as it did. -/
def merkleChangesUptoRow : OpenClaim := { program := "ytmglcjdigpgjlaa", sum := "787aa61c98ad7e5fc03b2f040404e8d3b1e7abf683f6119abbe11f4d6d0f4afc", func := "privatefetch/privatefetchlaw12.MerkleChanges", spec := "merkleChanges", unfollowed := true, recurses := true, apart := false, narrowed := true }
def MerkleChangesUptoSaid : Prop := merkleChangesUptoRow.holds Try.pinned (OpenSpec.upto merkleChangesSpec)

/-- 'privatefetchlaw12.MerkleForges', WHERE WHAT IT READS IS OF BULK AT MOST 1048576: true; the input reads as it did. -/
def merkleForgesUptoRow : OpenClaim := { program := "ytmglcjdigpgjlaa", sum := "787aa61c98ad7e5fc03b2f040404e8d3b1e7abf683f6119abbe11f4d6d0f4afc", func := "privatefetch/privatefetchlaw12.MerkleForges", spec := "merkleForges", unfollowed := true, recurses := true, apart := false, narrowed := true }
def MerkleForgesUptoSaid : Prop := merkleForgesUptoRow.holds Try.pinned (OpenSpec.upto merkleForgesSpec)

/-- 'privatefetchlaw12.MerkleParts', WHERE WHAT IT READS IS OF BULK AT MOST 1048576: true; the input reads as it did. -/
def merklePartsUptoRow : OpenClaim := { program := "ytmglcjdigpgjlaa", sum := "787aa61c98ad7e5fc03b2f040404e8d3b1e7abf683f6119abbe11f4d6d0f4afc", func := "privatefetch/privatefetchlaw12.MerkleParts", spec := "merkleParts", unfollowed := true, recurses := true, apart := false, narrowed := true }
def MerklePartsUptoSaid : Prop := merklePartsUptoRow.holds Try.pinned (OpenSpec.upto merklePartsSpec)

/-- 'privatefetchlaw12.MerkleOrder', WHERE WHAT IT READS IS OF BULK AT MOST 1048576: true; the input reads as it did. -/
def merkleOrderUptoRow : OpenClaim := { program := "ytmglcjdigpgjlaa", sum := "787aa61c98ad7e5fc03b2f040404e8d3b1e7abf683f6119abbe11f4d6d0f4afc", func := "privatefetch/privatefetchlaw12.MerkleOrder", spec := "merkleOrder", unfollowed := true, recurses := true, apart := false, narrowed := true }
def MerkleOrderUptoSaid : Prop := merkleOrderUptoRow.holds Try.pinned (OpenSpec.upto merkleOrderSpec)

end Rows
end Go.Proofs.Ytmglcjdigpgjlaa
