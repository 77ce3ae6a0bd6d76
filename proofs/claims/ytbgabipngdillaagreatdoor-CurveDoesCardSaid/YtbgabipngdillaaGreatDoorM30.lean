/- Parts. -/
import Derived.Test.YtbgabipngdillaaGreatDoorM06
import Derived.Test.YtbgabipngdillaaGreatDoorM10
set_option linter.unusedVariables false
set_option linter.unusedSimpArgs false
namespace Go.Proofs.YtbgabipngdillaaGreatDoor
open Go.RowKit
end Go.Proofs.YtbgabipngdillaaGreatDoor
