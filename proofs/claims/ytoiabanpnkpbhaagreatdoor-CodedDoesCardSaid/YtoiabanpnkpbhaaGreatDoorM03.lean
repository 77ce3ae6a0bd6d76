/- Parts. -/
import Derived.Lib.AppendZerosOnto
import Derived.Test.YtoiabanpnkpbhaaGreatDoorM02
set_option linter.unusedVariables false
set_option linter.unusedSimpArgs false
namespace Go.Proofs.YtoiabanpnkpbhaaGreatDoor
open Go.RowKit
end Go.Proofs.YtoiabanpnkpbhaaGreatDoor
