/- The contract of name.Show. -/
import Derived.Test.YtdnochjajoiooaaDoorNa
namespace Go.Proofs.YtdnochjajoiooaaDoor
open Go.RowKit
set_option maxHeartbeats 400000 in
theorem show_any (n:Int) (w:World) (h0: -9223372036854775808≤n) (h1:n≤9223372036854775807) (ht:Tab w):
  Calls Tryd.prog 40 #[.int .i64 n] w fun e w'=>e=.returned (.string ⟨(Lib.itoa n).toArray⟩)∧Below w.heap.size w w':=by
 go_enter Tryd.func40,Tryd.ntmps40
 go_wp2_with (first|(go_at_call 61;refine(Tryd.strconv_Itoa n h0 h1 _ ht).mono ?_;rintro e w' ⟨rfl,k,os,rfl⟩))
 go_ret
 exact⟨rfl,below_grow _ _ _⟩
end Go.Proofs.YtdnochjajoiooaaDoor
