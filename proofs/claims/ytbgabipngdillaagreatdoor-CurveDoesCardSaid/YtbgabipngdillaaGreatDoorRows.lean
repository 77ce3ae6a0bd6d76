/-
  NARROWER THAN 'FOR EVERY INPUT', by the rows' own cells (each row's printed sentence says how): CurveHides: laid · CurveShifts: laid · CurveDoes: laid · CurveReads: laid · CurveBlind: laid · CurveFew: laid.
  DERIVED. THE GIVEN ROWS OF THIS SEAT. 6 by the template 'for every input the law returns true; each argument reads behind the call as it read before'; 0 by the template 'total and deterministic' (their statements: YtbgabipngdillaaGreatDoorTotals.lean).
  GIVEN WITH THE SEED: the statements are not yours to turn. If you find one false, say at which input.
  Laid BY PROGRAM, IN A SANDBOX (cutbox-rows.mjs): the forced cells as the released guide's own fill.sh prints them over the translation 725f2eca5f304ca1… (all of the seat's roots in one cut). By AI agents, Wed Nov 11 2026. No macro, syntax, notation, axiom, sorry.
-/
import Derived.Test.YtbgabipngdillaaGreatDoorChecked
import GoSem.Claim
import GoSem.ClaimJoined
import GoSem.ClaimMapViews
import Derived.JoinedTies
import Derived.KernelRfl
namespace Go.Proofs.YtbgabipngdillaaGreatDoor
/- THE CELL 'sum', in the pinned program and in every row, IS THE sha256 OF THE DUMP (.gsa) THAT YtbgabipngdillaaGreatDoorProg.lean LOADS. Nothing in Lean hashes anything: it is a label: what it is worth is what the hold of that sum in a sandbox is worth. -/
noncomputable def Tryz.pinned : Pinned := { name := "ytbgabipngdillaagreatdoor", sum := "725f2eca5f304ca1cd9e5e05a49061ab4c63b5e58ea8b1c0e1a220d1265f0db1", checked := Tryz.checked }
namespace Rows
def none {H : Type} : Left H := { results := [], args := [] }

/- WHAT THE LISTED PACKAGE-LEVEL VARIABLES READ AS WHEN THE CALL BEGINS. Each datum BY PROGRAM (the guide's laid-datum.mjs) off the statement by which the dump's own 'gosem.cut.vars' lays the variable. In a bare row this is a premise. The card (YtbgabipngdillaaGreatDoorCards.lean) ties it to the program's text. -/
def laid_privatefetch_unique_errWrong {H : Type} : DataW H := .iface "privatefetch/unique.failure" (.agg [.lit (.int .i64 12)])

/-- 'privatefetchlaw17.CurveHides': WHATEVER THE INPUT: true; the input reads as it did. -/
def curveHidesSpec : ChangeSpec := { name := "curveHides", fn := fun _ => fun
  | [d1, d2, d3] => { results := [.lit (.bool true)], args := [d1, d2, d3] }
  | _ => none }
def curveHidesRow : OpenClaim := { program := "ytbgabipngdillaagreatdoor", sum := "725f2eca5f304ca1cd9e5e05a49061ab4c63b5e58ea8b1c0e1a220d1265f0db1", func := "privatefetch/privatefetchlaw17.CurveHides", spec := "curveHides", inPlace := ["internal/reflectlite.TypeOf"], unfollowed := true, recurses := true, named := ["privatefetch/unique.errWrong"], apart := false, laid := [("privatefetch/unique.errWrong", laid_privatefetch_unique_errWrong)] }
def CurveHidesSaid : Prop := curveHidesRow.holds Tryz.pinned (OpenSpec.ofChange curveHidesSpec)

/-- ITS FALSE NEIGHBOUR: 'it returns false'. Refute it at one input. -/
def curveHidesWrong : ChangeSpec := { name := "curveHides", fn := fun _ => fun
  | [d1, d2, d3] => { results := [.lit (.bool false)], args := [d1, d2, d3] }
  | _ => none }
def CurveHidesWrongFalsely : Prop := curveHidesRow.holds Tryz.pinned (OpenSpec.ofChange curveHidesWrong)

/-- 'privatefetchlaw17.CurveShifts': WHATEVER THE INPUT: true; the input reads as it did. -/
def curveShiftsSpec : ChangeSpec := { name := "curveShifts", fn := fun _ => fun
  | [d1, d2, d3] => { results := [.lit (.bool true)], args := [d1, d2, d3] }
  | _ => none }
def curveShiftsRow : OpenClaim := { program := "ytbgabipngdillaagreatdoor", sum := "725f2eca5f304ca1cd9e5e05a49061ab4c63b5e58ea8b1c0e1a220d1265f0db1", func := "privatefetch/privatefetchlaw17.CurveShifts", spec := "curveShifts", inPlace := ["internal/reflectlite.TypeOf"], unfollowed := true, recurses := true, named := ["privatefetch/unique.errWrong"], apart := false, laid := [("privatefetch/unique.errWrong", laid_privatefetch_unique_errWrong)] }
def CurveShiftsSaid : Prop := curveShiftsRow.holds Tryz.pinned (OpenSpec.ofChange curveShiftsSpec)

/-- ITS FALSE NEIGHBOUR: 'it returns false'. Refute it at one input. -/
def curveShiftsWrong : ChangeSpec := { name := "curveShifts", fn := fun _ => fun
  | [d1, d2, d3] => { results := [.lit (.bool false)], args := [d1, d2, d3] }
  | _ => none }
def CurveShiftsWrongFalsely : Prop := curveShiftsRow.holds Tryz.pinned (OpenSpec.ofChange curveShiftsWrong)

/-- 'privatefetchlaw17.CurveDoes': WHATEVER THE INPUT: true; the input reads as it did. -/
def curveDoesSpec : ChangeSpec := { name := "curveDoes", fn := fun _ => fun
  | [d1, d2, d3, d4, d5, d6, d7, d8, d9] => { results := [.lit (.bool true)], args := [d1, d2, d3, d4, d5, d6, d7, d8, d9] }
  | _ => none }
def curveDoesRow : OpenClaim := { program := "ytbgabipngdillaagreatdoor", sum := "725f2eca5f304ca1cd9e5e05a49061ab4c63b5e58ea8b1c0e1a220d1265f0db1", func := "privatefetch/privatefetchlaw17.CurveDoes", spec := "curveDoes", inPlace := ["internal/reflectlite.TypeOf"], unfollowed := true, recurses := true, named := ["privatefetch/unique.errWrong"], apart := false, laid := [("privatefetch/unique.errWrong", laid_privatefetch_unique_errWrong)] }
def CurveDoesSaid : Prop := curveDoesRow.holds Tryz.pinned (OpenSpec.ofChange curveDoesSpec)

/-- ITS FALSE NEIGHBOUR: 'it returns false'. Refute it at one input. -/
def curveDoesWrong : ChangeSpec := { name := "curveDoes", fn := fun _ => fun
  | [d1, d2, d3, d4, d5, d6, d7, d8, d9] => { results := [.lit (.bool false)], args := [d1, d2, d3, d4, d5, d6, d7, d8, d9] }
  | _ => none }
def CurveDoesWrongFalsely : Prop := curveDoesRow.holds Tryz.pinned (OpenSpec.ofChange curveDoesWrong)

/-- 'privatefetchlaw17.CurveReads': WHATEVER THE INPUT: true; the input reads as it did. -/
def curveReadsSpec : ChangeSpec := { name := "curveReads", fn := fun _ => fun
  | [d1, d2] => { results := [.lit (.bool true)], args := [d1, d2] }
  | _ => none }
def curveReadsRow : OpenClaim := { program := "ytbgabipngdillaagreatdoor", sum := "725f2eca5f304ca1cd9e5e05a49061ab4c63b5e58ea8b1c0e1a220d1265f0db1", func := "privatefetch/privatefetchlaw17.CurveReads", spec := "curveReads", inPlace := ["internal/reflectlite.TypeOf"], unfollowed := true, recurses := true, named := ["privatefetch/unique.errWrong"], apart := false, laid := [("privatefetch/unique.errWrong", laid_privatefetch_unique_errWrong)] }
def CurveReadsSaid : Prop := curveReadsRow.holds Tryz.pinned (OpenSpec.ofChange curveReadsSpec)

/-- ITS FALSE NEIGHBOUR: 'it returns false'. Refute it at one input. -/
def curveReadsWrong : ChangeSpec := { name := "curveReads", fn := fun _ => fun
  | [d1, d2] => { results := [.lit (.bool false)], args := [d1, d2] }
  | _ => none }
def CurveReadsWrongFalsely : Prop := curveReadsRow.holds Tryz.pinned (OpenSpec.ofChange curveReadsWrong)

/-- 'privatefetchlaw17.CurveBlind': WHATEVER THE INPUT: true; the input reads as it did. -/
def curveBlindSpec : ChangeSpec := { name := "curveBlind", fn := fun _ => fun
  | [d1, d2, d3] => { results := [.lit (.bool true)], args := [d1, d2, d3] }
  | _ => none }
def curveBlindRow : OpenClaim := { program := "ytbgabipngdillaagreatdoor", sum := "725f2eca5f304ca1cd9e5e05a49061ab4c63b5e58ea8b1c0e1a220d1265f0db1", func := "privatefetch/privatefetchlaw17.CurveBlind", spec := "curveBlind", inPlace := ["internal/reflectlite.TypeOf"], unfollowed := true, recurses := true, named := ["privatefetch/unique.errWrong"], apart := false, laid := [("privatefetch/unique.errWrong", laid_privatefetch_unique_errWrong)] }
def CurveBlindSaid : Prop := curveBlindRow.holds Tryz.pinned (OpenSpec.ofChange curveBlindSpec)

/-- ITS FALSE NEIGHBOUR: 'it returns false'. Refute it at one input. -/
def curveBlindWrong : ChangeSpec := { name := "curveBlind", fn := fun _ => fun
  | [d1, d2, d3] => { results := [.lit (.bool false)], args := [d1, d2, d3] }
  | _ => none }
def CurveBlindWrongFalsely : Prop := curveBlindRow.holds Tryz.pinned (OpenSpec.ofChange curveBlindWrong)

/-- 'privatefetchlaw17.CurveFew': WHATEVER THE INPUT: true; the input reads as it did. -/
def curveFewSpec : ChangeSpec := { name := "curveFew", fn := fun _ => fun
  | [d1, d2] => { results := [.lit (.bool true)], args := [d1, d2] }
  | _ => none }
def curveFewRow : OpenClaim := { program := "ytbgabipngdillaagreatdoor", sum := "725f2eca5f304ca1cd9e5e05a49061ab4c63b5e58ea8b1c0e1a220d1265f0db1", func := "privatefetch/privatefetchlaw17.CurveFew", spec := "curveFew", inPlace := ["internal/reflectlite.TypeOf"], unfollowed := true, recurses := true, named := ["privatefetch/unique.errWrong"], apart := false, laid := [("privatefetch/unique.errWrong", laid_privatefetch_unique_errWrong)] }
def CurveFewSaid : Prop := curveFewRow.holds Tryz.pinned (OpenSpec.ofChange curveFewSpec)

/-- ITS FALSE NEIGHBOUR: 'it returns false'. Refute it at one input. -/
def curveFewWrong : ChangeSpec := { name := "curveFew", fn := fun _ => fun
  | [d1, d2] => { results := [.lit (.bool false)], args := [d1, d2] }
  | _ => none }
def CurveFewWrongFalsely : Prop := curveFewRow.holds Tryz.pinned (OpenSpec.ofChange curveFewWrong)

/- THE SECOND FORM. 'bulk': how many values and letters a reading holds, each counted each time it is reached (what is shared counts as often as it is met; a slice's spare places count too). A statement '..UptoSaid' is the law's where the arguments, and the package variables that the reading takes, are together of bulk at most 1048576: NARROWER than '..Said'. Prove '..Said' where nothing that the law and all that it calls make is longer than what came in: it says more and counts as full. Else prove '..UptoSaid'. A law counts once. -/
mutual
def uptoBulk {H : Type} : DataW H → Nat
  | .lit (.string bytes) => bytes.length + 1
  | .lit _ => 1
  | .nil => 1
  | .ptr d => uptoBulk d + 1
  | .slice elems spare => uptoBulkAll elems + uptoBulkAll spare + 1
  | .agg parts => uptoBulkAll parts + 1
  | .iface _ d => uptoBulk d + 1
  | .map entries => uptoBulkEntries entries + 1
  | .held _ => 1
def uptoBulkAll {H : Type} : List (DataW H) → Nat
  | [] => 0
  | d :: r => uptoBulk d + uptoBulkAll r
def uptoBulkEntries {H : Type} : List (Lit × DataW H) → Nat
  | [] => 0
  | x :: r => uptoBulkEntry x + uptoBulkEntries r
def uptoBulkEntry {H : Type} : Lit × DataW H → Nat
  | (.string bytes, d) => bytes.length + uptoBulk d + 1
  | (_, d) => uptoBulk d + 1
 end
def uptoSmall : (H : Type) → List (DataW H) → Bool := fun _ ds => decide (uptoBulkAll ds ≤ 1048576)
def OpenSpec.upto (s : _root_.Go.ChangeSpec) : _root_.Go.OpenSpec := { _root_.Go.OpenSpec.ofChange s with cond := some uptoSmall }

/-- 'privatefetchlaw17.CurveHides', WHERE WHAT IT READS IS OF BULK AT MOST 1048576: true; the input reads as it did. -/
def curveHidesUptoRow : OpenClaim := { program := "ytbgabipngdillaagreatdoor", sum := "725f2eca5f304ca1cd9e5e05a49061ab4c63b5e58ea8b1c0e1a220d1265f0db1", func := "privatefetch/privatefetchlaw17.CurveHides", spec := "curveHides", inPlace := ["internal/reflectlite.TypeOf"], unfollowed := true, recurses := true, named := ["privatefetch/unique.errWrong"], apart := false, laid := [("privatefetch/unique.errWrong", laid_privatefetch_unique_errWrong)], narrowed := true }
def CurveHidesUptoSaid : Prop := curveHidesUptoRow.holds Tryz.pinned (OpenSpec.upto curveHidesSpec)

/-- 'privatefetchlaw17.CurveShifts', WHERE WHAT IT READS IS OF BULK AT MOST 1048576: true; the input reads as it did. -/
def curveShiftsUptoRow : OpenClaim := { program := "ytbgabipngdillaagreatdoor", sum := "725f2eca5f304ca1cd9e5e05a49061ab4c63b5e58ea8b1c0e1a220d1265f0db1", func := "privatefetch/privatefetchlaw17.CurveShifts", spec := "curveShifts", inPlace := ["internal/reflectlite.TypeOf"], unfollowed := true, recurses := true, named := ["privatefetch/unique.errWrong"], apart := false, laid := [("privatefetch/unique.errWrong", laid_privatefetch_unique_errWrong)], narrowed := true }
def CurveShiftsUptoSaid : Prop := curveShiftsUptoRow.holds Tryz.pinned (OpenSpec.upto curveShiftsSpec)

/-- 'privatefetchlaw17.CurveDoes', WHERE WHAT IT READS IS OF BULK AT MOST 1048576: true; the input reads as it did. -/
def curveDoesUptoRow : OpenClaim := { program := "ytbgabipngdillaagreatdoor", sum := "725f2eca5f304ca1cd9e5e05a49061ab4c63b5e58ea8b1c0e1a220d1265f0db1", func := "privatefetch/privatefetchlaw17.CurveDoes", spec := "curveDoes", inPlace := ["internal/reflectlite.TypeOf"], unfollowed := true, recurses := true, named := ["privatefetch/unique.errWrong"], apart := false, laid := [("privatefetch/unique.errWrong", laid_privatefetch_unique_errWrong)], narrowed := true }
def CurveDoesUptoSaid : Prop := curveDoesUptoRow.holds Tryz.pinned (OpenSpec.upto curveDoesSpec)

/-- 'privatefetchlaw17.CurveReads', WHERE WHAT IT READS IS OF BULK AT MOST 1048576: true; the input reads as it did. -/
def curveReadsUptoRow : OpenClaim := { program := "ytbgabipngdillaagreatdoor", sum := "725f2eca5f304ca1cd9e5e05a49061ab4c63b5e58ea8b1c0e1a220d1265f0db1", func := "privatefetch/privatefetchlaw17.CurveReads", spec := "curveReads", inPlace := ["internal/reflectlite.TypeOf"], unfollowed := true, recurses := true, named := ["privatefetch/unique.errWrong"], apart := false, laid := [("privatefetch/unique.errWrong", laid_privatefetch_unique_errWrong)], narrowed := true }
def CurveReadsUptoSaid : Prop := curveReadsUptoRow.holds Tryz.pinned (OpenSpec.upto curveReadsSpec)

/-- 'privatefetchlaw17.CurveBlind', WHERE WHAT IT READS IS OF BULK AT MOST 1048576: true; the input reads as it did. -/
def curveBlindUptoRow : OpenClaim := { program := "ytbgabipngdillaagreatdoor", sum := "725f2eca5f304ca1cd9e5e05a49061ab4c63b5e58ea8b1c0e1a220d1265f0db1", func := "privatefetch/privatefetchlaw17.CurveBlind", spec := "curveBlind", inPlace := ["internal/reflectlite.TypeOf"], unfollowed := true, recurses := true, named := ["privatefetch/unique.errWrong"], apart := false, laid := [("privatefetch/unique.errWrong", laid_privatefetch_unique_errWrong)], narrowed := true }
def CurveBlindUptoSaid : Prop := curveBlindUptoRow.holds Tryz.pinned (OpenSpec.upto curveBlindSpec)

/-- 'privatefetchlaw17.CurveFew', WHERE WHAT IT READS IS OF BULK AT MOST 1048576: true; the input reads as it did. -/
def curveFewUptoRow : OpenClaim := { program := "ytbgabipngdillaagreatdoor", sum := "725f2eca5f304ca1cd9e5e05a49061ab4c63b5e58ea8b1c0e1a220d1265f0db1", func := "privatefetch/privatefetchlaw17.CurveFew", spec := "curveFew", inPlace := ["internal/reflectlite.TypeOf"], unfollowed := true, recurses := true, named := ["privatefetch/unique.errWrong"], apart := false, laid := [("privatefetch/unique.errWrong", laid_privatefetch_unique_errWrong)], narrowed := true }
def CurveFewUptoSaid : Prop := curveFewUptoRow.holds Tryz.pinned (OpenSpec.upto curveFewSpec)

end Rows
end Go.Proofs.YtbgabipngdillaaGreatDoor
