/- The contracts of tree.Fits and of its reference. -/
import Derived.Test.YtmjkgnknfgoadaaGreatDoorNa
import Derived.Test.YtmjkgnknfgoadaaGreatDoorQm
import Derived.Test.YtmjkgnknfgoadaaGreatDoorDa
import Derived.Laws.StructEq
import Derived.ChangeKeysEq
import Derived.RegionTactic
import Derived.RegionIn
namespace Go.Proofs.YtmjkgnknfgoadaaGreatDoor
open Go.RowKit
set_option linter.unusedSimpArgs false
set_option linter.unusedVariables false

/-- The table of how many kids a kind has. -/
def CntTab (w : World) : Prop := w.var? Tryz.prog "bonsai/tree.counts" = some #[.int .i64 0, .int .i64 0, .int .i64 0, .int .i64 0, .int .i64 0, .int .i64 0, .int .i64 0, .int .i64 0, .int .i64 2, .int .i64 (-1), .int .i64 2, .int .i64 (-1), .int .i64 1, .int .i64 1, .int .i64 1, .int .i64 1, .int .i64 1, .int .i64 1, .int .i64 1, .int .i64 1]
theorem CntTab.cells {w : World} (h : CntTab w) (i : Nat) : w.cell? ⟨1, i, none⟩ = (#[.int .i64 0, .int .i64 0, .int .i64 0, .int .i64 0, .int .i64 0, .int .i64 0, .int .i64 0, .int .i64 0, .int .i64 2, .int .i64 (-1), .int .i64 2, .int .i64 (-1), .int .i64 1, .int .i64 1, .int .i64 1, .int .i64 1, .int .i64 1, .int .i64 1, .int .i64 1, .int .i64 1] : Array Value)[i]? :=
  World.var?_cell (by kernel_rfl) h i

def isSet (n : Nd) (a b c d : Int) : Bool := decide (n.s0 = a ∧ n.s1 = b ∧ n.s2 = c ∧ n.s3 = d)

end Go.Proofs.YtmjkgnknfgoadaaGreatDoor
