/-
  DERIVED. GIVEN WITH THE SEED: THE CARDS: each row of YtoiabanpnkpbhaaGreatDoorRows.lean that lists a variable, with what it lists TIED to the program's text (the seventh form; the later family's looks); each row that meets fmt, with fmt's text TOLD by the authors' own Lean function (tested against real Go, not proved from fmt's source: count such statements apart). THE CARD IS WHAT COUNTS. Prove the row's statement (the work); the ties are given (YtoiabanpnkpbhaaGreatDoorTie.lean); close each card by the builder's one call (the guide's Derived/Test/ToyasCard.lean, 'card_holds'). Laid BY PROGRAM, IN A SANDBOX (cutbox-door.mjs). By AI agents, Wed Nov 11 2026. No macro, syntax, notation, axiom, sorry.
-/
import Derived.Test.YtoiabanpnkpbhaaGreatDoorRows
import GoSem.ClaimSeven
namespace Go.Proofs.YtoiabanpnkpbhaaGreatDoor
namespace Rows

/-- THE TIED CARD OF 'privatefetchlaw18.CodedParts'. -/
def codedPartsCard : Claim7 := { stood := { row := codedPartsRow, standIns := [], harness := (true, "92d5479e0f1c3684d8a251d1148b6d7d9911889a9577e17213ee7ea4200d92b8"), looks := true }, kinds := [], alts := [], laidByText := true, laidKinds := [.wider], laidTests := true, laidLooks := .later }
def CodedPartsCardSaid : Prop := Claim7.holds Tryz.pinned (.plain (OpenSpec.ofChange codedPartsSpec)) codedPartsCard

/-- THE TIED CARD OF 'privatefetchlaw18.CodedHides'. -/
def codedHidesCard : Claim7 := { stood := { row := codedHidesRow, standIns := [], harness := (true, "92d5479e0f1c3684d8a251d1148b6d7d9911889a9577e17213ee7ea4200d92b8"), looks := true }, kinds := [], alts := [], laidByText := true, laidKinds := [.wider], laidTests := true, laidLooks := .later }
def CodedHidesCardSaid : Prop := Claim7.holds Tryz.pinned (.plain (OpenSpec.ofChange codedHidesSpec)) codedHidesCard

/-- THE TIED CARD OF 'privatefetchlaw18.CodedLinear'. -/
def codedLinearCard : Claim7 := { stood := { row := codedLinearRow, standIns := [], harness := (true, "92d5479e0f1c3684d8a251d1148b6d7d9911889a9577e17213ee7ea4200d92b8"), looks := true }, kinds := [], alts := [], laidByText := true, laidKinds := [.wider], laidTests := true, laidLooks := .later }
def CodedLinearCardSaid : Prop := Claim7.holds Tryz.pinned (.plain (OpenSpec.ofChange codedLinearSpec)) codedLinearCard

/-- THE TIED CARD OF 'privatefetchlaw18.CodedShapes'. -/
def codedShapesCard : Claim7 := { stood := { row := codedShapesRow, standIns := [], harness := (true, "92d5479e0f1c3684d8a251d1148b6d7d9911889a9577e17213ee7ea4200d92b8"), looks := true }, kinds := [], alts := [], laidByText := true, laidKinds := [.wider], laidTests := true, laidLooks := .later }
def CodedShapesCardSaid : Prop := Claim7.holds Tryz.pinned (.plain (OpenSpec.ofChange codedShapesSpec)) codedShapesCard

/-- THE TIED CARD OF 'privatefetchlaw18.CodedDoes'. -/
def codedDoesCard : Claim7 := { stood := { row := codedDoesRow, standIns := [], harness := (true, "92d5479e0f1c3684d8a251d1148b6d7d9911889a9577e17213ee7ea4200d92b8"), looks := true }, kinds := [], alts := [], laidByText := true, laidKinds := [.wider], laidTests := true, laidLooks := .later }
def CodedDoesCardSaid : Prop := Claim7.holds Tryz.pinned (.plain (OpenSpec.ofChange codedDoesSpec)) codedDoesCard

/-- THE TIED CARD OF 'privatefetchlaw18.CodedReads'. -/
def codedReadsCard : Claim7 := { stood := { row := codedReadsRow, standIns := [], harness := (true, "92d5479e0f1c3684d8a251d1148b6d7d9911889a9577e17213ee7ea4200d92b8"), looks := true }, kinds := [], alts := [], laidByText := true, laidKinds := [.wider], laidTests := true, laidLooks := .later }
def CodedReadsCardSaid : Prop := Claim7.holds Tryz.pinned (.plain (OpenSpec.ofChange codedReadsSpec)) codedReadsCard

/-- THE TIED CARD OF 'privatefetchlaw18.CodedRecovers'. -/
def codedRecoversCard : Claim7 := { stood := { row := codedRecoversRow, standIns := [], harness := (true, "92d5479e0f1c3684d8a251d1148b6d7d9911889a9577e17213ee7ea4200d92b8"), looks := true }, kinds := [], alts := [], laidByText := true, laidKinds := [.wider], laidTests := true, laidLooks := .later }
def CodedRecoversCardSaid : Prop := Claim7.holds Tryz.pinned (.plain (OpenSpec.ofChange codedRecoversSpec)) codedRecoversCard

/-- THE SECOND FORM's CARD OF 'privatefetchlaw18.CodedParts'. -/
def codedPartsUptoCard : Claim7 := { stood := { row := codedPartsUptoRow, standIns := [], harness := (true, "92d5479e0f1c3684d8a251d1148b6d7d9911889a9577e17213ee7ea4200d92b8"), looks := true }, kinds := [], alts := [], laidByText := true, laidKinds := [.wider], laidTests := true, laidLooks := .later }
def CodedPartsUptoCardSaid : Prop := Claim7.holds Tryz.pinned (.plain (OpenSpec.upto codedPartsSpec)) codedPartsUptoCard

/-- THE SECOND FORM's CARD OF 'privatefetchlaw18.CodedHides'. -/
def codedHidesUptoCard : Claim7 := { stood := { row := codedHidesUptoRow, standIns := [], harness := (true, "92d5479e0f1c3684d8a251d1148b6d7d9911889a9577e17213ee7ea4200d92b8"), looks := true }, kinds := [], alts := [], laidByText := true, laidKinds := [.wider], laidTests := true, laidLooks := .later }
def CodedHidesUptoCardSaid : Prop := Claim7.holds Tryz.pinned (.plain (OpenSpec.upto codedHidesSpec)) codedHidesUptoCard

/-- THE SECOND FORM's CARD OF 'privatefetchlaw18.CodedLinear'. -/
def codedLinearUptoCard : Claim7 := { stood := { row := codedLinearUptoRow, standIns := [], harness := (true, "92d5479e0f1c3684d8a251d1148b6d7d9911889a9577e17213ee7ea4200d92b8"), looks := true }, kinds := [], alts := [], laidByText := true, laidKinds := [.wider], laidTests := true, laidLooks := .later }
def CodedLinearUptoCardSaid : Prop := Claim7.holds Tryz.pinned (.plain (OpenSpec.upto codedLinearSpec)) codedLinearUptoCard

/-- THE SECOND FORM's CARD OF 'privatefetchlaw18.CodedShapes'. -/
def codedShapesUptoCard : Claim7 := { stood := { row := codedShapesUptoRow, standIns := [], harness := (true, "92d5479e0f1c3684d8a251d1148b6d7d9911889a9577e17213ee7ea4200d92b8"), looks := true }, kinds := [], alts := [], laidByText := true, laidKinds := [.wider], laidTests := true, laidLooks := .later }
def CodedShapesUptoCardSaid : Prop := Claim7.holds Tryz.pinned (.plain (OpenSpec.upto codedShapesSpec)) codedShapesUptoCard

/-- THE SECOND FORM's CARD OF 'privatefetchlaw18.CodedDoes'. -/
def codedDoesUptoCard : Claim7 := { stood := { row := codedDoesUptoRow, standIns := [], harness := (true, "92d5479e0f1c3684d8a251d1148b6d7d9911889a9577e17213ee7ea4200d92b8"), looks := true }, kinds := [], alts := [], laidByText := true, laidKinds := [.wider], laidTests := true, laidLooks := .later }
def CodedDoesUptoCardSaid : Prop := Claim7.holds Tryz.pinned (.plain (OpenSpec.upto codedDoesSpec)) codedDoesUptoCard

/-- THE SECOND FORM's CARD OF 'privatefetchlaw18.CodedReads'. -/
def codedReadsUptoCard : Claim7 := { stood := { row := codedReadsUptoRow, standIns := [], harness := (true, "92d5479e0f1c3684d8a251d1148b6d7d9911889a9577e17213ee7ea4200d92b8"), looks := true }, kinds := [], alts := [], laidByText := true, laidKinds := [.wider], laidTests := true, laidLooks := .later }
def CodedReadsUptoCardSaid : Prop := Claim7.holds Tryz.pinned (.plain (OpenSpec.upto codedReadsSpec)) codedReadsUptoCard

/-- THE SECOND FORM's CARD OF 'privatefetchlaw18.CodedRecovers'. -/
def codedRecoversUptoCard : Claim7 := { stood := { row := codedRecoversUptoRow, standIns := [], harness := (true, "92d5479e0f1c3684d8a251d1148b6d7d9911889a9577e17213ee7ea4200d92b8"), looks := true }, kinds := [], alts := [], laidByText := true, laidKinds := [.wider], laidTests := true, laidLooks := .later }
def CodedRecoversUptoCardSaid : Prop := Claim7.holds Tryz.pinned (.plain (OpenSpec.upto codedRecoversSpec)) codedRecoversUptoCard
end Rows
end Go.Proofs.YtoiabanpnkpbhaaGreatDoor
