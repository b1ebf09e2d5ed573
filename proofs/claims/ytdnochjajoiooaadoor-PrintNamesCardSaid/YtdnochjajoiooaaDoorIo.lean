/- The contract of tree.moved. -/
import Derived.Test.YtdnochjajoiooaaDoorTt
import Derived.Test.YtdnochjajoiooaaDoorDw
namespace Go.Proofs.YtdnochjajoiooaaDoor
open Go.RowKit
set_option linter.unusedSimpArgs false
set_option linter.unusedVariables false
end Go.Proofs.YtdnochjajoiooaaDoor
/- The contract of tree.Of. -/
namespace Go.Proofs.YtdnochjajoiooaaDoor
open Go.RowKit
set_option linter.unusedSimpArgs false
set_option linter.unusedVariables false
attribute [local go_sem] field_nodes
end Go.Proofs.YtdnochjajoiooaaDoor
/- The contract of a node and its kids,as the examples of layer 9 put them together. -/
namespace Go.Proofs.YtdnochjajoiooaaDoor
open Go.RowKit
set_option linter.unusedSimpArgs false
set_option linter.unusedVariables false
end Go.Proofs.YtdnochjajoiooaaDoor
