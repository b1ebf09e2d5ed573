/- Plain: what stands at a node, clean, is put together of its kids'. -/
import Derived.Test.YtdnochjajoiooaaDoorDk
import Derived.Test.YtdnochjajoiooaaDoorDa
namespace Go.Proofs.YtdnochjajoiooaaDoor
set_option linter.unusedSimpArgs false
set_option linter.unusedVariables false
end Go.Proofs.YtdnochjajoiooaaDoor
