/- Facts of a row that lies there; the contracts of slices.Clone over nodes and rules, tree.Copied, gram.Copy. -/
import Derived.Test.YtdnochjajoiooaaDoorDu
import Derived.Test.YtdnochjajoiooaaDoorDn
import Derived.WalkSpells
import Derived.Deep.RegionHeld3
import Derived.Deep.Cut
namespace Go.Proofs.YtdnochjajoiooaaDoor
open Go.RowKit
set_option linter.unusedSimpArgs false
set_option linter.unusedVariables false
attribute [local go_sem] field_nodes
end Go.Proofs.YtdnochjajoiooaaDoor
/- The contracts of slices.Clone over nodes and rules. -/
namespace Go.Proofs.YtdnochjajoiooaaDoor
open Go.RowKit
set_option linter.unusedSimpArgs false
set_option linter.unusedVariables false
end Go.Proofs.YtdnochjajoiooaaDoor
/- The contract of gram.copied. -/
namespace Go.Proofs.YtdnochjajoiooaaDoor
open Go.RowKit
set_option linter.unusedSimpArgs false
set_option linter.unusedVariables false
end Go.Proofs.YtdnochjajoiooaaDoor
/- The contract of gram.Copy. -/
namespace Go.Proofs.YtdnochjajoiooaaDoor
open Go.RowKit
set_option linter.unusedSimpArgs false
set_option linter.unusedVariables false
end Go.Proofs.YtdnochjajoiooaaDoor
