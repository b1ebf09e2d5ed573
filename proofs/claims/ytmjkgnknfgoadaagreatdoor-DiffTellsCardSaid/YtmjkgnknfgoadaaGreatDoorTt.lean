/- Copies of elements of several cells; plain: a tree of a node and its kids; rows of trees. -/
import Derived.Test.YtmjkgnknfgoadaaGreatDoorDw
namespace Go.Proofs.YtmjkgnknfgoadaaGreatDoor
open Go.RowKit
set_option linter.unusedSimpArgs false
set_option linter.unusedVariables false
end Go.Proofs.YtmjkgnknfgoadaaGreatDoor
/- The contracts of tree.Rule and tree.Empty. -/
namespace Go.Proofs.YtmjkgnknfgoadaaGreatDoor
open Go.RowKit
set_option linter.unusedSimpArgs false
set_option linter.unusedVariables false
end Go.Proofs.YtmjkgnknfgoadaaGreatDoor
