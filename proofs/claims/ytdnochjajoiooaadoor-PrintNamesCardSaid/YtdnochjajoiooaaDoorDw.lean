/- Facts of trees and rules in memory that more than one layer needs; the contracts of tree.leaf and tree.Text. -/
import Derived.Test.YtdnochjajoiooaaDoorDu
import Derived.BigQuiet
import Derived.Deep.RegionHeld3
import Derived.Deep.Cut
namespace Go.Proofs.YtdnochjajoiooaaDoor
open Go.RowKit
set_option linter.unusedSimpArgs false
set_option linter.unusedVariables false
theorem own_belowA {w w':World} {base:Nat} {e:TypeId} {size n c:Nat} {V:Option Addr} {xs:List Value} (h:w.ownsRow base e size (.slice V n c) n xs) (hb:Below w.heap.size w w'):w'.ownsRow base e size (.slice V n c) n xs:=
 own_agree h (fun x hx=>hb.block x (own_blk h x hx).2)
theorem set_blk2' {w:World} {b:Nat} {x y u:Value} {T:TypeId} (h:w.heap[b]?=some (.cells #[x,y] T (0,0))):(w.setCell ⟨b,1,none⟩ u).heap[b]?=some (.cells #[x,u] T (0,0)):=by
 have:=heap_setCell_same w b 1 _ T u h
 simpa using this
section
variable {P:Program} {w:World} {a:Addr} {m:Mode}
end
theorem own_new {w:World} {b size:Nat} {cs:List Value} {e:TypeId} (h:w.heap[b]?=some (.cells cs.toArray e (0,0))) (hl:cs.length=size):w.ownsRow b e size (.slice (some ⟨b,0,none⟩) 1 1) 1 cs:=by
 refine⟨by omega,.inr ⟨b,1,cs.toArray,rfl,Nat.le_refl _,h,Nat.le_refl _,by unfold maxLen;omega,by simp[hl],?_⟩⟩
 rw[Nat.one_mul,←hl];simp
theorem tree_one {w:World} {b:Nat} {n:Nd} (hn:n.wf) (hk:n.kids=[]) (h:w.heap[b]?=some (.cells #[.int .u8 n.kind,.int .u64 n.s0,.int .u64 n.s1,.int .u64 n.s2,.int .u64 n.s3,.string n.text,.int .i64 n.mn,.int .i64 n.mx,.slice none 0 0] 35 (0,0))) (r:Int):TreeOwn w (b ≤ ·) ⟨some ⟨b,0,none⟩,1,[⟨n,none,0⟩],r⟩:=by
 refine⟨by simp,own_ownS (B:=b) (by
  have:=own_new (cs:=[.int .u8 n.kind,.int .u64 n.s0,.int .u64 n.s1,.int .u64 n.s2,.int .u64 n.s3,.string n.text,.int .i64 n.mn,.int .i64 n.mx,.slice none 0 0]) (size:=9) h rfl
  have e:ndL.all [⟨n,none,0⟩]=[.int .u8 n.kind,.int .u64 n.s0,.int .u64 n.s1,.int .u64 n.s2,.int .u64 n.s3,.string n.text,.int .i64 n.mn,.int .i64 n.mx,.slice none 0 0]:=by
   rw[ndL.all_one];show[_,_,_,_,_,_,_,_,Value.slice none n.kids.length 0]=_;rw[hk];rfl
  rw[e];exact this),fun l hl=> ?_⟩
 simp only[List.mem_singleton]at hl
 subst hl
 refine⟨hn,?_⟩
 show OwnS w _ _ 1 none n.kids.length 0 (intL.all n.kids)
 rw[hk]
 exact OwnS.nil _ _ _ _
set_option maxRecDepth 100000 in
set_option maxHeartbeats 1600000 in
theorem leaf_any (n:Nd) (w:World) (hn:n.wf) (hk:n.kids=[]):
  Calls Tryd.prog 30 #[.agg #[.int .u8 n.kind,.int .u64 n.s0,.int .u64 n.s1,.int .u64 n.s2,.int .u64 n.s3,.string n.text,.int .i64 n.mn,.int .i64 n.mx,.slice none 0 0]] w fun e w'=>∃b,e=.returned (.agg #[.slice (some ⟨b,0,none⟩) 1 1,.int .i64 0])∧TreeOwn w' (w.heap.size ≤ ·) ⟨some ⟨b,0,none⟩,1,[⟨n,none,0⟩],0⟩∧Below w.heap.size w w':=by
 go_enter Tryd.func30,Tryd.ntmps30
 go_upto_region 1 with(fail)
 have HW:=Lib.hid (bx2 w (.cells #[.int .u8 n.kind,.int .u64 n.s0,.int .u64 n.s1,.int .u64 n.s2,.int .u64 n.s3,.string n.text,.int .i64 n.mn,.int .i64 n.mx,.slice none 0 0] 35) (.cells #[.slice none 0 0,.int .i64 0] 25))
 have HX:=Lib.hid (bx_old (p:=.cells #[.slice none 0 0,.int .i64 0] 25) (bx_new w (.cells #[.int .u8 n.kind,.int .u64 n.s0,.int .u64 n.s1,.int .u64 n.s2,.int .u64 n.s3,.string n.text,.int .i64 n.mn,.int .i64 n.mx,.slice none 0 0] 35)))
 have HT:=Lib.hid (bx_new (w.alloc (.cells #[.int .u8 n.kind,.int .u64 n.s0,.int .u64 n.s1,.int .u64 n.s2,.int .u64 n.s3,.string n.text,.int .i64 n.mn,.int .i64 n.mx,.slice none 0 0] 35)) (.cells #[.slice none 0 0,.int .i64 0] 25))
 have HZ:=Lib.hid (show((w.alloc (.cells #[.int .u8 n.kind,.int .u64 n.s0,.int .u64 n.s1,.int .u64 n.s2,.int .u64 n.s3,.string n.text,.int .i64 n.mn,.int .i64 n.mx,.slice none 0 0] 35)).alloc (.cells #[.slice none 0 0,.int .i64 0] 25)).heap.size=w.heap.size+2 from by simp)
 generalize ((w.alloc (.cells #[.int .u8 n.kind,.int .u64 n.s0,.int .u64 n.s1,.int .u64 n.s2,.int .u64 n.s3,.string n.text,.int .i64 n.mn,.int .i64 n.mx,.slice none 0 0] 35)).alloc (.cells #[.slice none 0 0,.int .i64 0] 25))=W at *
 simp only[World.size_alloc]at HT
 refine wp_region_list ?_
 refine wpList_val rfl (exec_load rfl rfl (load9 W w.heap.size _ _ _ _ _ _ _ _ _ _ HX.out)) ?_
 refine wpList_val rfl (exec_build rfl rfl (build9 W _ _ _ _ _ _ _ _ _)) ?_
 simp only[Act.put,List.setIfInBounds_toArray,List.set_cons_zero,List.set_cons_succ]
 have HN:=Lib.hid (bx_new W (.cells #[.int .u8 n.kind,.int .u64 n.s0,.int .u64 n.s1,.int .u64 n.s2,.int .u64 n.s3,.string n.text,.int .i64 n.mn,.int .i64 n.mx,.slice none 0 0] 35))
 have HW2:=Lib.hid (bx1 W (.cells #[.int .u8 n.kind,.int .u64 n.s0,.int .u64 n.s1,.int .u64 n.s2,.int .u64 n.s3,.string n.text,.int .i64 n.mn,.int .i64 n.mx,.slice none 0 0] 35))
 generalize W.alloc (.cells #[.int .u8 n.kind,.int .u64 n.s0,.int .u64 n.s1,.int .u64 n.s2,.int .u64 n.s3,.string n.text,.int .i64 n.mn,.int .i64 n.mx,.slice none 0 0] 35)=W2 at *
 have HT2:=Lib.hid (bx_kept HW2.out HT.out)
 obtain⟨t1,t2,t3,t4⟩:=blk2 HT2.out
 go_wp2_with fail
 refine bodyPost_ret (v:=.agg #[.slice (some ⟨W.heap.size,0,none⟩) 1 1,.int .i64 0]) (by simp[results,Tryd.results30,go_sem,t1,t2]) rfl ?_
 have hz:=HZ.out
 refine⟨W.heap.size,rfl,((tree_one hn hk HN.out 0).agree (fun x hx _=> ?_)).mono (fun x _ hx=>by have hx:W.heap.size≤x:=hx;show w.heap.size≤x;omega),((Below.step HW.out HW2.out).setCell (p:=⟨w.heap.size+1,0,none⟩) (by simp) _).setCell (p:=⟨w.heap.size+1,1,none⟩) (by simp) _⟩
 have hx:W.heap.size≤x:=hx
 exact(Below.heap_setCell _ _ _ _ (by show x≠w.heap.size+1;omega)).trans (Below.heap_setCell _ _ _ _ (by show x≠w.heap.size+1;omega))
def textLf (s:ByteArray):Nd:=⟨2,0,0,0,0,s,0,0,[]⟩
set_option maxRecDepth 100000 in
set_option maxHeartbeats 1600000 in
theorem text_any (s:ByteArray) (w:World) (hs:s.size≤281474976710656):
  Calls Tryd.prog 9 #[.string s] w fun e w'=>∃b,e=.returned (.agg #[.slice (some ⟨b,0,none⟩) 1 1,.int .i64 0])∧TreeOwn w' (w.heap.size ≤ ·) ⟨some ⟨b,0,none⟩,1,[⟨textLf s,none,0⟩],0⟩∧Below w.heap.size w w':=by
 have HWF:=Lib.hid (show(textLf s).wf from⟨by simp[textLf],hs,by simp[textLf],by simp[textLf,U64],by simp[textLf,U64],by simp[textLf,U64],by simp[textLf,U64]⟩)
 go_enter Tryd.func9,Tryd.ntmps9
 go_wp2_with (go_at_call 30;refine(leaf_any (textLf s) _ HWF.out rfl).mono ?_;rintro e w1 ⟨b,rfl,ht,hb⟩;have HT:=Lib.hid ht;have HB:=Lib.hid hb;obtain⟨t1,t2,t3,t4⟩:=blk2 (bx_kept hb (bx_new w _));clear ht hb)
 refine bodyPost_ret (v:=.agg #[.slice (some ⟨b,0,none⟩) 1 1,.int .i64 0]) (by simp[results,Tryd.results9,go_sem,t1,t2]) rfl ?_
 refine⟨b,rfl,(HT.out.agree (fun x hx _=> ?_)).mono (fun x _ hx=> ?_),((Below.step (bx1 w _) HB.out).setCell (p:=⟨w.heap.size,0,none⟩) (Nat.le_refl _) _).setCell (p:=⟨w.heap.size,1,none⟩) (Nat.le_refl _) _⟩
 ·have hx:(w.alloc _).heap.size≤x:=hx
  rw[World.size_alloc]at hx
  exact(Below.heap_setCell _ _ _ _ (by show x≠w.heap.size;omega)).trans (Below.heap_setCell _ _ _ _ (by show x≠w.heap.size;omega))
 ·have hx:(w.alloc _).heap.size≤x:=hx
  rw[World.size_alloc]at hx
  show w.heap.size≤x;omega
end Go.Proofs.YtdnochjajoiooaaDoor
