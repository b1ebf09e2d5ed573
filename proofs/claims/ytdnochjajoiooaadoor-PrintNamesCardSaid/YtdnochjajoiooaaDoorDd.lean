/- The contracts of tree.Fits and of its reference. -/
import Derived.Test.YtdnochjajoiooaaDoorNa
import Derived.Test.YtdnochjajoiooaaDoorQm
import Derived.Test.YtdnochjajoiooaaDoorDa
import Derived.Laws.StructEq
import Derived.ChangeKeysEq
import Derived.RegionTactic
import Derived.RegionIn
namespace Go.Proofs.YtdnochjajoiooaaDoor
open Go.RowKit
set_option linter.unusedSimpArgs false
set_option linter.unusedVariables false
def CntTab (w:World):Prop:=w.var? Tryd.prog "bonsai/tree.counts" = some #[.int .i64 0,.int .i64 0,.int .i64 0,.int .i64 0,.int .i64 0,.int .i64 0,.int .i64 0,.int .i64 0,.int .i64 2,.int .i64 (-1),.int .i64 2,.int .i64 (-1),.int .i64 1,.int .i64 1,.int .i64 1,.int .i64 1,.int .i64 1,.int .i64 1,.int .i64 1,.int .i64 1]
theorem CntTab.cells {w:World} (h:CntTab w) (i:Nat):w.cell? ⟨2,i,none⟩=(#[.int .i64 0,.int .i64 0,.int .i64 0,.int .i64 0,.int .i64 0,.int .i64 0,.int .i64 0,.int .i64 0,.int .i64 2,.int .i64 (-1),.int .i64 2,.int .i64 (-1),.int .i64 1,.int .i64 1,.int .i64 1,.int .i64 1,.int .i64 1,.int .i64 1,.int .i64 1,.int .i64 1]:Array Value)[i]? :=
 World.var?_cell (by kernel_rfl) h i
end Go.Proofs.YtdnochjajoiooaaDoor
