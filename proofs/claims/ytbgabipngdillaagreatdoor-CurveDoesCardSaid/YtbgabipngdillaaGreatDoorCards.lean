/-
  DERIVED. GIVEN WITH THE SEED: THE CARDS: each row of YtbgabipngdillaaGreatDoorRows.lean that lists a variable, with what it lists TIED to the program's text (the seventh form; the later family's looks); each row that meets fmt, with fmt's text TOLD by the authors' own Lean function (tested against real Go, not proved from fmt's source: count such statements apart). THE CARD IS WHAT COUNTS. Prove the row's statement (the work); the ties are given (YtbgabipngdillaaGreatDoorTie.lean); close each card by the builder's one call (the guide's Derived/Test/ToyasCard.lean, 'card_holds'). Laid BY PROGRAM, IN A SANDBOX (cutbox-door.mjs). By AI agents, Wed Nov 11 2026. No macro, syntax, notation, axiom, sorry.
-/
import Derived.Test.YtbgabipngdillaaGreatDoorRows
import GoSem.ClaimSeven
namespace Go.Proofs.YtbgabipngdillaaGreatDoor
namespace Rows

/-- THE TIED CARD OF 'privatefetchlaw17.CurveHides'. -/
def curveHidesCard : Claim7 := { stood := { row := curveHidesRow, standIns := [], harness := (true, "22195d6430887595994a24be5d66412c4796e544f27ff855836031287f2b9cf6"), looks := true }, kinds := [], alts := [], laidByText := true, laidKinds := [.wider], laidTests := true, laidLooks := .later }
def CurveHidesCardSaid : Prop := Claim7.holds Tryz.pinned (.plain (OpenSpec.ofChange curveHidesSpec)) curveHidesCard

/-- THE TIED CARD OF 'privatefetchlaw17.CurveShifts'. -/
def curveShiftsCard : Claim7 := { stood := { row := curveShiftsRow, standIns := [], harness := (true, "22195d6430887595994a24be5d66412c4796e544f27ff855836031287f2b9cf6"), looks := true }, kinds := [], alts := [], laidByText := true, laidKinds := [.wider], laidTests := true, laidLooks := .later }
def CurveShiftsCardSaid : Prop := Claim7.holds Tryz.pinned (.plain (OpenSpec.ofChange curveShiftsSpec)) curveShiftsCard

/-- THE TIED CARD OF 'privatefetchlaw17.CurveDoes'. -/
def curveDoesCard : Claim7 := { stood := { row := curveDoesRow, standIns := [], harness := (true, "22195d6430887595994a24be5d66412c4796e544f27ff855836031287f2b9cf6"), looks := true }, kinds := [], alts := [], laidByText := true, laidKinds := [.wider], laidTests := true, laidLooks := .later }
def CurveDoesCardSaid : Prop := Claim7.holds Tryz.pinned (.plain (OpenSpec.ofChange curveDoesSpec)) curveDoesCard

/-- THE TIED CARD OF 'privatefetchlaw17.CurveReads'. -/
def curveReadsCard : Claim7 := { stood := { row := curveReadsRow, standIns := [], harness := (true, "22195d6430887595994a24be5d66412c4796e544f27ff855836031287f2b9cf6"), looks := true }, kinds := [], alts := [], laidByText := true, laidKinds := [.wider], laidTests := true, laidLooks := .later }
def CurveReadsCardSaid : Prop := Claim7.holds Tryz.pinned (.plain (OpenSpec.ofChange curveReadsSpec)) curveReadsCard

/-- THE TIED CARD OF 'privatefetchlaw17.CurveBlind'. -/
def curveBlindCard : Claim7 := { stood := { row := curveBlindRow, standIns := [], harness := (true, "22195d6430887595994a24be5d66412c4796e544f27ff855836031287f2b9cf6"), looks := true }, kinds := [], alts := [], laidByText := true, laidKinds := [.wider], laidTests := true, laidLooks := .later }
def CurveBlindCardSaid : Prop := Claim7.holds Tryz.pinned (.plain (OpenSpec.ofChange curveBlindSpec)) curveBlindCard

/-- THE TIED CARD OF 'privatefetchlaw17.CurveFew'. -/
def curveFewCard : Claim7 := { stood := { row := curveFewRow, standIns := [], harness := (true, "22195d6430887595994a24be5d66412c4796e544f27ff855836031287f2b9cf6"), looks := true }, kinds := [], alts := [], laidByText := true, laidKinds := [.wider], laidTests := true, laidLooks := .later }
def CurveFewCardSaid : Prop := Claim7.holds Tryz.pinned (.plain (OpenSpec.ofChange curveFewSpec)) curveFewCard

/-- THE SECOND FORM's CARD OF 'privatefetchlaw17.CurveHides'. -/
def curveHidesUptoCard : Claim7 := { stood := { row := curveHidesUptoRow, standIns := [], harness := (true, "22195d6430887595994a24be5d66412c4796e544f27ff855836031287f2b9cf6"), looks := true }, kinds := [], alts := [], laidByText := true, laidKinds := [.wider], laidTests := true, laidLooks := .later }
def CurveHidesUptoCardSaid : Prop := Claim7.holds Tryz.pinned (.plain (OpenSpec.upto curveHidesSpec)) curveHidesUptoCard

/-- THE SECOND FORM's CARD OF 'privatefetchlaw17.CurveShifts'. -/
def curveShiftsUptoCard : Claim7 := { stood := { row := curveShiftsUptoRow, standIns := [], harness := (true, "22195d6430887595994a24be5d66412c4796e544f27ff855836031287f2b9cf6"), looks := true }, kinds := [], alts := [], laidByText := true, laidKinds := [.wider], laidTests := true, laidLooks := .later }
def CurveShiftsUptoCardSaid : Prop := Claim7.holds Tryz.pinned (.plain (OpenSpec.upto curveShiftsSpec)) curveShiftsUptoCard

/-- THE SECOND FORM's CARD OF 'privatefetchlaw17.CurveDoes'. -/
def curveDoesUptoCard : Claim7 := { stood := { row := curveDoesUptoRow, standIns := [], harness := (true, "22195d6430887595994a24be5d66412c4796e544f27ff855836031287f2b9cf6"), looks := true }, kinds := [], alts := [], laidByText := true, laidKinds := [.wider], laidTests := true, laidLooks := .later }
def CurveDoesUptoCardSaid : Prop := Claim7.holds Tryz.pinned (.plain (OpenSpec.upto curveDoesSpec)) curveDoesUptoCard

/-- THE SECOND FORM's CARD OF 'privatefetchlaw17.CurveReads'. -/
def curveReadsUptoCard : Claim7 := { stood := { row := curveReadsUptoRow, standIns := [], harness := (true, "22195d6430887595994a24be5d66412c4796e544f27ff855836031287f2b9cf6"), looks := true }, kinds := [], alts := [], laidByText := true, laidKinds := [.wider], laidTests := true, laidLooks := .later }
def CurveReadsUptoCardSaid : Prop := Claim7.holds Tryz.pinned (.plain (OpenSpec.upto curveReadsSpec)) curveReadsUptoCard

/-- THE SECOND FORM's CARD OF 'privatefetchlaw17.CurveBlind'. -/
def curveBlindUptoCard : Claim7 := { stood := { row := curveBlindUptoRow, standIns := [], harness := (true, "22195d6430887595994a24be5d66412c4796e544f27ff855836031287f2b9cf6"), looks := true }, kinds := [], alts := [], laidByText := true, laidKinds := [.wider], laidTests := true, laidLooks := .later }
def CurveBlindUptoCardSaid : Prop := Claim7.holds Tryz.pinned (.plain (OpenSpec.upto curveBlindSpec)) curveBlindUptoCard

/-- THE SECOND FORM's CARD OF 'privatefetchlaw17.CurveFew'. -/
def curveFewUptoCard : Claim7 := { stood := { row := curveFewUptoRow, standIns := [], harness := (true, "22195d6430887595994a24be5d66412c4796e544f27ff855836031287f2b9cf6"), looks := true }, kinds := [], alts := [], laidByText := true, laidKinds := [.wider], laidTests := true, laidLooks := .later }
def CurveFewUptoCardSaid : Prop := Claim7.holds Tryz.pinned (.plain (OpenSpec.upto curveFewSpec)) curveFewUptoCard
end Rows
end Go.Proofs.YtbgabipngdillaaGreatDoor
