/-
  NARROWER THAN 'FOR EVERY INPUT', by the rows' own cells (each row's printed sentence says how): CodedParts: laid · CodedHides: laid · CodedLinear: laid · CodedShapes: laid · CodedDoes: laid · CodedReads: laid · CodedRecovers: laid.
  DERIVED. THE GIVEN ROWS OF THIS SEAT. 7 by the template 'for every input the law returns true; each argument reads behind the call as it read before'; 0 by the template 'total and deterministic' (their statements: YtoiabanpnkpbhaaGreatDoorTotals.lean).
  GIVEN WITH THE SEED: the statements are not yours to turn. If you find one false, say at which input.
  Laid BY PROGRAM, IN A SANDBOX (cutbox-rows.mjs): the forced cells as the released guide's own fill.sh prints them over the translation 50fbd63ed434b58b… (all of the seat's roots in one cut). By AI agents, Wed Nov 11 2026. No macro, syntax, notation, axiom, sorry.
-/
import Derived.Test.YtoiabanpnkpbhaaGreatDoorChecked
import GoSem.Claim
import GoSem.ClaimJoined
import GoSem.ClaimMapViews
import Derived.JoinedTies
import Derived.KernelRfl
namespace Go.Proofs.YtoiabanpnkpbhaaGreatDoor
/- THE CELL 'sum', in the pinned program and in every row, IS THE sha256 OF THE DUMP (.gsa) THAT YtoiabanpnkpbhaaGreatDoorProg.lean LOADS. Nothing in Lean hashes anything: it is a label: what it is worth is what the hold of that sum in a sandbox is worth. -/
noncomputable def Tryz.pinned : Pinned := { name := "ytoiabanpnkpbhaagreatdoor", sum := "50fbd63ed434b58bc225e94957b1290c3fe6214316655c3e2ce9f130ba0d4eac", checked := Tryz.checked }
namespace Rows
def none {H : Type} : Left H := { results := [], args := [] }

/- WHAT THE LISTED PACKAGE-LEVEL VARIABLES READ AS WHEN THE CALL BEGINS. Each datum BY PROGRAM (the guide's laid-datum.mjs) off the statement by which the dump's own 'gosem.cut.vars' lays the variable. In a bare row this is a premise. The card (YtoiabanpnkpbhaaGreatDoorCards.lean) ties it to the program's text. -/
def laid_privatefetch_unique_errWrong {H : Type} : DataW H := .iface "privatefetch/unique.failure" (.agg [.lit (.int .i64 12)])

/-- 'privatefetchlaw18.CodedParts': WHATEVER THE INPUT: true; the input reads as it did. -/
def codedPartsSpec : ChangeSpec := { name := "codedParts", fn := fun _ => fun
  | [d] => { results := [.lit (.bool true)], args := [d] }
  | _ => none }
def codedPartsRow : OpenClaim := { program := "ytoiabanpnkpbhaagreatdoor", sum := "50fbd63ed434b58bc225e94957b1290c3fe6214316655c3e2ce9f130ba0d4eac", func := "privatefetch/privatefetchlaw18.CodedParts", spec := "codedParts", inPlace := ["internal/reflectlite.TypeOf"], unfollowed := true, recurses := true, named := ["privatefetch/unique.errWrong"], apart := false, laid := [("privatefetch/unique.errWrong", laid_privatefetch_unique_errWrong)] }
def CodedPartsSaid : Prop := codedPartsRow.holds Tryz.pinned (OpenSpec.ofChange codedPartsSpec)

/-- ITS FALSE NEIGHBOUR: 'it returns false'. Refute it at one input. -/
def codedPartsWrong : ChangeSpec := { name := "codedParts", fn := fun _ => fun
  | [d] => { results := [.lit (.bool false)], args := [d] }
  | _ => none }
def CodedPartsWrongFalsely : Prop := codedPartsRow.holds Tryz.pinned (OpenSpec.ofChange codedPartsWrong)

/-- 'privatefetchlaw18.CodedHides': WHATEVER THE INPUT: true; the input reads as it did. -/
def codedHidesSpec : ChangeSpec := { name := "codedHides", fn := fun _ => fun
  | [d1, d2, d3] => { results := [.lit (.bool true)], args := [d1, d2, d3] }
  | _ => none }
def codedHidesRow : OpenClaim := { program := "ytoiabanpnkpbhaagreatdoor", sum := "50fbd63ed434b58bc225e94957b1290c3fe6214316655c3e2ce9f130ba0d4eac", func := "privatefetch/privatefetchlaw18.CodedHides", spec := "codedHides", inPlace := ["internal/reflectlite.TypeOf"], unfollowed := true, recurses := true, named := ["privatefetch/unique.errWrong"], apart := false, laid := [("privatefetch/unique.errWrong", laid_privatefetch_unique_errWrong)] }
def CodedHidesSaid : Prop := codedHidesRow.holds Tryz.pinned (OpenSpec.ofChange codedHidesSpec)

/-- ITS FALSE NEIGHBOUR: 'it returns false'. Refute it at one input. -/
def codedHidesWrong : ChangeSpec := { name := "codedHides", fn := fun _ => fun
  | [d1, d2, d3] => { results := [.lit (.bool false)], args := [d1, d2, d3] }
  | _ => none }
def CodedHidesWrongFalsely : Prop := codedHidesRow.holds Tryz.pinned (OpenSpec.ofChange codedHidesWrong)

/-- 'privatefetchlaw18.CodedLinear': WHATEVER THE INPUT: true; the input reads as it did. -/
def codedLinearSpec : ChangeSpec := { name := "codedLinear", fn := fun _ => fun
  | [d1, d2] => { results := [.lit (.bool true)], args := [d1, d2] }
  | _ => none }
def codedLinearRow : OpenClaim := { program := "ytoiabanpnkpbhaagreatdoor", sum := "50fbd63ed434b58bc225e94957b1290c3fe6214316655c3e2ce9f130ba0d4eac", func := "privatefetch/privatefetchlaw18.CodedLinear", spec := "codedLinear", inPlace := ["internal/reflectlite.TypeOf"], unfollowed := true, recurses := true, named := ["privatefetch/unique.errWrong"], apart := false, laid := [("privatefetch/unique.errWrong", laid_privatefetch_unique_errWrong)] }
def CodedLinearSaid : Prop := codedLinearRow.holds Tryz.pinned (OpenSpec.ofChange codedLinearSpec)

/-- ITS FALSE NEIGHBOUR: 'it returns false'. Refute it at one input. -/
def codedLinearWrong : ChangeSpec := { name := "codedLinear", fn := fun _ => fun
  | [d1, d2] => { results := [.lit (.bool false)], args := [d1, d2] }
  | _ => none }
def CodedLinearWrongFalsely : Prop := codedLinearRow.holds Tryz.pinned (OpenSpec.ofChange codedLinearWrong)

/-- 'privatefetchlaw18.CodedShapes': WHATEVER THE INPUT: true; the input reads as it did. -/
def codedShapesSpec : ChangeSpec := { name := "codedShapes", fn := fun _ => fun
  | [d1, d2, d3] => { results := [.lit (.bool true)], args := [d1, d2, d3] }
  | _ => none }
def codedShapesRow : OpenClaim := { program := "ytoiabanpnkpbhaagreatdoor", sum := "50fbd63ed434b58bc225e94957b1290c3fe6214316655c3e2ce9f130ba0d4eac", func := "privatefetch/privatefetchlaw18.CodedShapes", spec := "codedShapes", inPlace := ["internal/reflectlite.TypeOf"], unfollowed := true, recurses := true, named := ["privatefetch/unique.errWrong"], apart := false, laid := [("privatefetch/unique.errWrong", laid_privatefetch_unique_errWrong)] }
def CodedShapesSaid : Prop := codedShapesRow.holds Tryz.pinned (OpenSpec.ofChange codedShapesSpec)

/-- ITS FALSE NEIGHBOUR: 'it returns false'. Refute it at one input. -/
def codedShapesWrong : ChangeSpec := { name := "codedShapes", fn := fun _ => fun
  | [d1, d2, d3] => { results := [.lit (.bool false)], args := [d1, d2, d3] }
  | _ => none }
def CodedShapesWrongFalsely : Prop := codedShapesRow.holds Tryz.pinned (OpenSpec.ofChange codedShapesWrong)

/-- 'privatefetchlaw18.CodedDoes': WHATEVER THE INPUT: true; the input reads as it did. -/
def codedDoesSpec : ChangeSpec := { name := "codedDoes", fn := fun _ => fun
  | [d1, d2, d3, d4, d5, d6, d7, d8, d9] => { results := [.lit (.bool true)], args := [d1, d2, d3, d4, d5, d6, d7, d8, d9] }
  | _ => none }
def codedDoesRow : OpenClaim := { program := "ytoiabanpnkpbhaagreatdoor", sum := "50fbd63ed434b58bc225e94957b1290c3fe6214316655c3e2ce9f130ba0d4eac", func := "privatefetch/privatefetchlaw18.CodedDoes", spec := "codedDoes", inPlace := ["internal/reflectlite.TypeOf"], unfollowed := true, recurses := true, named := ["privatefetch/unique.errWrong"], apart := false, laid := [("privatefetch/unique.errWrong", laid_privatefetch_unique_errWrong)] }
def CodedDoesSaid : Prop := codedDoesRow.holds Tryz.pinned (OpenSpec.ofChange codedDoesSpec)

/-- ITS FALSE NEIGHBOUR: 'it returns false'. Refute it at one input. -/
def codedDoesWrong : ChangeSpec := { name := "codedDoes", fn := fun _ => fun
  | [d1, d2, d3, d4, d5, d6, d7, d8, d9] => { results := [.lit (.bool false)], args := [d1, d2, d3, d4, d5, d6, d7, d8, d9] }
  | _ => none }
def CodedDoesWrongFalsely : Prop := codedDoesRow.holds Tryz.pinned (OpenSpec.ofChange codedDoesWrong)

/-- 'privatefetchlaw18.CodedReads': WHATEVER THE INPUT: true; the input reads as it did. -/
def codedReadsSpec : ChangeSpec := { name := "codedReads", fn := fun _ => fun
  | [d1, d2] => { results := [.lit (.bool true)], args := [d1, d2] }
  | _ => none }
def codedReadsRow : OpenClaim := { program := "ytoiabanpnkpbhaagreatdoor", sum := "50fbd63ed434b58bc225e94957b1290c3fe6214316655c3e2ce9f130ba0d4eac", func := "privatefetch/privatefetchlaw18.CodedReads", spec := "codedReads", inPlace := ["internal/reflectlite.TypeOf"], unfollowed := true, recurses := true, named := ["privatefetch/unique.errWrong"], apart := false, laid := [("privatefetch/unique.errWrong", laid_privatefetch_unique_errWrong)] }
def CodedReadsSaid : Prop := codedReadsRow.holds Tryz.pinned (OpenSpec.ofChange codedReadsSpec)

/-- ITS FALSE NEIGHBOUR: 'it returns false'. Refute it at one input. -/
def codedReadsWrong : ChangeSpec := { name := "codedReads", fn := fun _ => fun
  | [d1, d2] => { results := [.lit (.bool false)], args := [d1, d2] }
  | _ => none }
def CodedReadsWrongFalsely : Prop := codedReadsRow.holds Tryz.pinned (OpenSpec.ofChange codedReadsWrong)

/-- 'privatefetchlaw18.CodedRecovers': WHATEVER THE INPUT: true; the input reads as it did. -/
def codedRecoversSpec : ChangeSpec := { name := "codedRecovers", fn := fun _ => fun
  | [d1, d2, d3, d4, d5] => { results := [.lit (.bool true)], args := [d1, d2, d3, d4, d5] }
  | _ => none }
def codedRecoversRow : OpenClaim := { program := "ytoiabanpnkpbhaagreatdoor", sum := "50fbd63ed434b58bc225e94957b1290c3fe6214316655c3e2ce9f130ba0d4eac", func := "privatefetch/privatefetchlaw18.CodedRecovers", spec := "codedRecovers", inPlace := ["internal/reflectlite.TypeOf"], unfollowed := true, recurses := true, named := ["privatefetch/unique.errWrong"], apart := false, laid := [("privatefetch/unique.errWrong", laid_privatefetch_unique_errWrong)] }
def CodedRecoversSaid : Prop := codedRecoversRow.holds Tryz.pinned (OpenSpec.ofChange codedRecoversSpec)

/-- ITS FALSE NEIGHBOUR: 'it returns false'. Refute it at one input. -/
def codedRecoversWrong : ChangeSpec := { name := "codedRecovers", fn := fun _ => fun
  | [d1, d2, d3, d4, d5] => { results := [.lit (.bool false)], args := [d1, d2, d3, d4, d5] }
  | _ => none }
def CodedRecoversWrongFalsely : Prop := codedRecoversRow.holds Tryz.pinned (OpenSpec.ofChange codedRecoversWrong)

/- THE SECOND FORM. 'bulk': how many values and letters a reading holds, each counted each time it is reached (what is shared counts as often as it is met; a slice's spare places count too). A statement '..UptoSaid' is the law's where the arguments, and the package variables that the reading takes, are together of bulk at most 1048576: NARROWER than '..Said'. Prove '..Said' where nothing that the law and all that it calls make is longer than what came in: it says more and counts as full. Else prove '..UptoSaid'. A law counts once. -/
mutual
def uptoBulk {H : Type} : DataW H → Nat
  | .lit (.string bytes) => bytes.length + 1
  | .lit _ => 1
  | .nil => 1
  | .ptr d => uptoBulk d + 1
  | .slice elems spare => uptoBulkAll elems + uptoBulkAll spare + 1
  | .agg parts => uptoBulkAll parts + 1
  | .iface _ d => uptoBulk d + 1
  | .map entries => uptoBulkEntries entries + 1
  | .held _ => 1
def uptoBulkAll {H : Type} : List (DataW H) → Nat
  | [] => 0
  | d :: r => uptoBulk d + uptoBulkAll r
def uptoBulkEntries {H : Type} : List (Lit × DataW H) → Nat
  | [] => 0
  | x :: r => uptoBulkEntry x + uptoBulkEntries r
def uptoBulkEntry {H : Type} : Lit × DataW H → Nat
  | (.string bytes, d) => bytes.length + uptoBulk d + 1
  | (_, d) => uptoBulk d + 1
 end
def uptoSmall : (H : Type) → List (DataW H) → Bool := fun _ ds => decide (uptoBulkAll ds ≤ 1048576)
def OpenSpec.upto (s : _root_.Go.ChangeSpec) : _root_.Go.OpenSpec := { _root_.Go.OpenSpec.ofChange s with cond := some uptoSmall }

/-- 'privatefetchlaw18.CodedParts', WHERE WHAT IT READS IS OF BULK AT MOST 1048576: true; the input reads as it did. -/
def codedPartsUptoRow : OpenClaim := { program := "ytoiabanpnkpbhaagreatdoor", sum := "50fbd63ed434b58bc225e94957b1290c3fe6214316655c3e2ce9f130ba0d4eac", func := "privatefetch/privatefetchlaw18.CodedParts", spec := "codedParts", inPlace := ["internal/reflectlite.TypeOf"], unfollowed := true, recurses := true, named := ["privatefetch/unique.errWrong"], apart := false, laid := [("privatefetch/unique.errWrong", laid_privatefetch_unique_errWrong)], narrowed := true }
def CodedPartsUptoSaid : Prop := codedPartsUptoRow.holds Tryz.pinned (OpenSpec.upto codedPartsSpec)

/-- 'privatefetchlaw18.CodedHides', WHERE WHAT IT READS IS OF BULK AT MOST 1048576: true; the input reads as it did. -/
def codedHidesUptoRow : OpenClaim := { program := "ytoiabanpnkpbhaagreatdoor", sum := "50fbd63ed434b58bc225e94957b1290c3fe6214316655c3e2ce9f130ba0d4eac", func := "privatefetch/privatefetchlaw18.CodedHides", spec := "codedHides", inPlace := ["internal/reflectlite.TypeOf"], unfollowed := true, recurses := true, named := ["privatefetch/unique.errWrong"], apart := false, laid := [("privatefetch/unique.errWrong", laid_privatefetch_unique_errWrong)], narrowed := true }
def CodedHidesUptoSaid : Prop := codedHidesUptoRow.holds Tryz.pinned (OpenSpec.upto codedHidesSpec)

/-- 'privatefetchlaw18.CodedLinear', WHERE WHAT IT READS IS OF BULK AT MOST 1048576: true; the input reads as it did. -/
def codedLinearUptoRow : OpenClaim := { program := "ytoiabanpnkpbhaagreatdoor", sum := "50fbd63ed434b58bc225e94957b1290c3fe6214316655c3e2ce9f130ba0d4eac", func := "privatefetch/privatefetchlaw18.CodedLinear", spec := "codedLinear", inPlace := ["internal/reflectlite.TypeOf"], unfollowed := true, recurses := true, named := ["privatefetch/unique.errWrong"], apart := false, laid := [("privatefetch/unique.errWrong", laid_privatefetch_unique_errWrong)], narrowed := true }
def CodedLinearUptoSaid : Prop := codedLinearUptoRow.holds Tryz.pinned (OpenSpec.upto codedLinearSpec)

/-- 'privatefetchlaw18.CodedShapes', WHERE WHAT IT READS IS OF BULK AT MOST 1048576: true; the input reads as it did. -/
def codedShapesUptoRow : OpenClaim := { program := "ytoiabanpnkpbhaagreatdoor", sum := "50fbd63ed434b58bc225e94957b1290c3fe6214316655c3e2ce9f130ba0d4eac", func := "privatefetch/privatefetchlaw18.CodedShapes", spec := "codedShapes", inPlace := ["internal/reflectlite.TypeOf"], unfollowed := true, recurses := true, named := ["privatefetch/unique.errWrong"], apart := false, laid := [("privatefetch/unique.errWrong", laid_privatefetch_unique_errWrong)], narrowed := true }
def CodedShapesUptoSaid : Prop := codedShapesUptoRow.holds Tryz.pinned (OpenSpec.upto codedShapesSpec)

/-- 'privatefetchlaw18.CodedDoes', WHERE WHAT IT READS IS OF BULK AT MOST 1048576: true; the input reads as it did. -/
def codedDoesUptoRow : OpenClaim := { program := "ytoiabanpnkpbhaagreatdoor", sum := "50fbd63ed434b58bc225e94957b1290c3fe6214316655c3e2ce9f130ba0d4eac", func := "privatefetch/privatefetchlaw18.CodedDoes", spec := "codedDoes", inPlace := ["internal/reflectlite.TypeOf"], unfollowed := true, recurses := true, named := ["privatefetch/unique.errWrong"], apart := false, laid := [("privatefetch/unique.errWrong", laid_privatefetch_unique_errWrong)], narrowed := true }
def CodedDoesUptoSaid : Prop := codedDoesUptoRow.holds Tryz.pinned (OpenSpec.upto codedDoesSpec)

/-- 'privatefetchlaw18.CodedReads', WHERE WHAT IT READS IS OF BULK AT MOST 1048576: true; the input reads as it did. -/
def codedReadsUptoRow : OpenClaim := { program := "ytoiabanpnkpbhaagreatdoor", sum := "50fbd63ed434b58bc225e94957b1290c3fe6214316655c3e2ce9f130ba0d4eac", func := "privatefetch/privatefetchlaw18.CodedReads", spec := "codedReads", inPlace := ["internal/reflectlite.TypeOf"], unfollowed := true, recurses := true, named := ["privatefetch/unique.errWrong"], apart := false, laid := [("privatefetch/unique.errWrong", laid_privatefetch_unique_errWrong)], narrowed := true }
def CodedReadsUptoSaid : Prop := codedReadsUptoRow.holds Tryz.pinned (OpenSpec.upto codedReadsSpec)

/-- 'privatefetchlaw18.CodedRecovers', WHERE WHAT IT READS IS OF BULK AT MOST 1048576: true; the input reads as it did. -/
def codedRecoversUptoRow : OpenClaim := { program := "ytoiabanpnkpbhaagreatdoor", sum := "50fbd63ed434b58bc225e94957b1290c3fe6214316655c3e2ce9f130ba0d4eac", func := "privatefetch/privatefetchlaw18.CodedRecovers", spec := "codedRecovers", inPlace := ["internal/reflectlite.TypeOf"], unfollowed := true, recurses := true, named := ["privatefetch/unique.errWrong"], apart := false, laid := [("privatefetch/unique.errWrong", laid_privatefetch_unique_errWrong)], narrowed := true }
def CodedRecoversUptoSaid : Prop := codedRecoversUptoRow.holds Tryz.pinned (OpenSpec.upto codedRecoversSpec)

end Rows
end Go.Proofs.YtoiabanpnkpbhaaGreatDoor
