/- Parts. -/
import Derived.Shelf.SlicesE.Compact
import Derived.Shelf.SlSortCmp.Small
import Derived.Test.YtbgabipngdillaaGreatDoorM15
set_option linter.unusedVariables false
set_option linter.unusedSimpArgs false
namespace Go.Proofs.YtbgabipngdillaaGreatDoor
open Go.RowKit Go.Shelf Go.Sort
section
variable {α:Type} [Inhabited α]
end
end Go.Proofs.YtbgabipngdillaaGreatDoor
