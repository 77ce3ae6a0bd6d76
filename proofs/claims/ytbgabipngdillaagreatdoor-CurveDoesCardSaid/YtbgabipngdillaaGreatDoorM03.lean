/- Parts. -/
import Derived.Lib.AppendZerosOnto
import Derived.Test.YtbgabipngdillaaGreatDoorM02
set_option linter.unusedVariables false
set_option linter.unusedSimpArgs false
namespace Go.Proofs.YtbgabipngdillaaGreatDoor
open Go.RowKit
end Go.Proofs.YtbgabipngdillaaGreatDoor
