/- The contract of tree.Empty. -/
import Derived.Test.YtdnochjajoiooaaDoorTt
namespace Go.Proofs.YtdnochjajoiooaaDoor
open Go.RowKit
set_option linter.unusedSimpArgs false
set_option linter.unusedVariables false
set_option maxRecDepth 100000 in
set_option maxHeartbeats 1600000 in
theorem empty_any (w:World):
  Calls Tryd.prog 7 #[] w (LeafPost emptyLf w):=by
 unfold LeafPost
 have HWF:=Lib.hid (show emptyLf.wf from⟨by simp[emptyLf],by simp[emptyLf];decide,by simp[emptyLf],by simp[emptyLf,U64],by simp[emptyLf,U64],by simp[emptyLf,U64],by simp[emptyLf,U64]⟩)
 go_enter Tryd.func7,Tryd.ntmps7
 go_wp2_with (go_at_call 30;refine(leaf_any emptyLf _ HWF.out rfl).mono ?_;rintro e w1 ⟨b,rfl,ht,hb⟩;have HT:=Lib.hid ht;have HB:=Lib.hid hb;obtain⟨t1,t2,t3,t4⟩:=blk2 (bx_kept hb (bx_new w _));clear ht hb)
 refine bodyPost_ret (v:=.agg #[.slice (some ⟨b,0,none⟩) 1 1,.int .i64 0]) (by simp[results,Tryd.results7,go_sem,t1,t2]) rfl ?_
 refine⟨b,rfl,(HT.out.agree (fun x hx _=> ?_)).mono (fun x _ hx=> ?_),((Below.step (bx1 w _) HB.out).setCell (p:=⟨w.heap.size,0,none⟩) (Nat.le_refl _) _).setCell (p:=⟨w.heap.size,1,none⟩) (Nat.le_refl _) _⟩
 ·have hx:(w.alloc _).heap.size≤x:=hx
  rw[World.size_alloc]at hx
  exact(Below.heap_setCell _ _ _ _ (by show x≠w.heap.size;omega)).trans (Below.heap_setCell _ _ _ _ (by show x≠w.heap.size;omega))
 ·have hx:(w.alloc _).heap.size≤x:=hx
  rw[World.size_alloc]at hx
  show w.heap.size≤x;omega
end Go.Proofs.YtdnochjajoiooaaDoor
