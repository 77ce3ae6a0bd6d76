/- Parts. -/
import Derived.Test.YtoiabanpnkpbhaaGreatDoorM08
import Derived.Test.YtoiabanpnkpbhaaGreatDoorM11
set_option linter.unusedVariables false
set_option linter.unusedSimpArgs false
namespace Go.Proofs.YtoiabanpnkpbhaaGreatDoor
open Go.RowKit
end Go.Proofs.YtoiabanpnkpbhaaGreatDoor
