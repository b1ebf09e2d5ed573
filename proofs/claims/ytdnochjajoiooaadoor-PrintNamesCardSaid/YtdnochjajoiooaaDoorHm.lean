/- Depth, Size and May of trees: plain, and the contracts. -/
import Derived.Test.YtdnochjajoiooaaDoorDa
import Derived.Test.YtdnochjajoiooaaDoorPn
import Derived.Test.YtdnochjajoiooaaDoorHt
import Derived.Test.YtdnochjajoiooaaDoorDu
import Derived.Test.YtdnochjajoiooaaDoorDj
import Derived.Test.YtdnochjajoiooaaDoorDn
import Derived.StillTailTactics
namespace Go.Proofs.YtdnochjajoiooaaDoor
open Go.RowKit
set_option linter.unusedSimpArgs false
set_option linter.unusedVariables false
end Go.Proofs.YtdnochjajoiooaaDoor
