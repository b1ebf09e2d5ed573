/- A tree that is right is the same as itself. The contract of parse.Expr. Plain: the law of ParseBrackets. The contracts of the law's many, and of expr's of, Seq and Choice at two trees. The walk of ParseBrackets. -/
import Derived.Test.YtpfokabdpmjobaaGreatDoorDa
import Derived.Test.YtpfokabdpmjobaaGreatDoorJ4
import Derived.Deep.RegionHeld3
import Derived.Deep.DeepCutAuto
import Derived.Deep.Cut
import Derived.Deep.CutRange
import Derived.Test.YtpfokabdpmjobaaGreatDoorJk
import Derived.Test.YtpfokabdpmjobaaGreatDoorTt
import Derived.Test.YtpfokabdpmjobaaGreatDoorAv
import Derived.Test.YtpfokabdpmjobaaGreatDoorJ3
import Derived.Test.YtpfokabdpmjobaaGreatDoorAk
import Derived.Test.YtpfokabdpmjobaaGreatDoorSz
namespace Go.Proofs.YtpfokabdpmjobaaGreatDoor
theorem sameT_reflB {a:Tr} (h:rightT a=true):sameT a a=true:=by
 simp only[sameT,Bool.and_eq_true,decide_eq_true_eq]
 exact⟨⟨h,h⟩,trivial⟩
end Go.Proofs.YtpfokabdpmjobaaGreatDoor
namespace Go.Proofs.YtpfokabdpmjobaaGreatDoor
open Go.RowKit
set_option linter.unusedSimpArgs false
set_option linter.unusedVariables false
def PXPost (s:List UInt8) (w:World) (e:Ending) (w':World):Prop:=
 ∃v:Lt,e=.returned (.tuple #[.agg #[.slice v.A v.ls.length v.c,.int .i64 v.root],.int .i64 ((exprP s).2.1:Int),.int .i64 ((exprP s).2.2:Int)])∧v.tr=(exprP s).1∧v.ls.length≤300000∧TreeOwn w' (w.heap.size ≤ ·) v∧Below w.heap.size w w'
theorem px_none {s:List UInt8} {w w2:World} {a e0:Nat} (hx:exprP s=(⟨[],0⟩,a,e0)) (hb:Below w.heap.size w w2):PXPost s w (.returned (.tuple #[.agg #[.slice none 0 0,.int .i64 0],.int .i64 (a:Int),.int .i64 (e0:Int)])) w2:=by
 refine⟨⟨none,0,[],0⟩,by rw[hx];rfl,by rw[hx];rfl,by simp,⟨by simp,⟨World.ownsRow_nil _ _ _ _,fun k hk=>(by cases hk)⟩,fun l hl=>(by cases hl)⟩,hb⟩
theorem RdM.aside {D:Ow→Prop} {w w':World} {B H:Nat} {f:Nat→Ow} {R:Rd} (h:RdM D w B f H R) (hk:R.keep=[]) (hs:w.heap.size≤w'.heap.size) (hb:∀k,B≤k→w'.heap[k]?=w.heap[k]?):∃f',RdM D w' B f' H R:=by
 have key:∀{o:Ow} {e:TypeId} {size n c:Nat} {V:Option Addr} {xs:List Value},OwnF w B f o e size V n c xs→OwnF w B (fun k=>if k<B then .tmp else f k) o e size V n c xs:=fun h=>⟨h.1,fun k hk=>by
  show(if k<B then Ow.tmp else f k)=_
  rw[if_neg (by have:=(own_blk h.1 k hk).1;omega)];exact h.2 k hk⟩
 have h1:RdM D w B (fun k=>if k<B then .tmp else f k) H R:=fun o ho=>by
  have h0:=h o ho
  cases o with
  |out=>exact fun p hp=>by rw[hk]at hp;cases hp
  |tmp=>trivial
  |box=>exact⟨h0.1,h0.2.1,by show(if H<B then Ow.tmp else f H)=_;rw[if_neg (by have:=h0.2.1;omega)];exact h0.2.2⟩
  |words=>exact key h0
  |nodes=>exact key h0
  |kids=>exact fun l hl=>⟨(h0 l hl).1,key (h0 l hl).2⟩
  |list=>exact key h0
  |ways j=>exact fun hj=>key (h0 hj)
  |parts j=>exact fun hj=>key (h0 hj)
  |heads j=>exact fun hj=>key (h0 hj)
  |defs=>exact key h0
  |body j=>exact fun hj=>⟨(h0 hj).1,(h0 hj).2.mono fun k _ hk=>⟨by show(if k<B then Ow.tmp else f k)=_;rw[if_neg (by have:=hk.2;omega)];exact hk.1,hk.2⟩⟩
  |names=>exact key h0
  |calls=>exact key h0
 have K:KeepF (fun o=>o=.tmp) (fun k=>if k<B then .tmp else f k) (fun k=>if k<B then .tmp else f k) w w':=⟨hs,fun k _ hn=>hb k (by
  rcases Nat.lt_or_ge k B with h|h
  ·exact absurd (by show(if k<B then Ow.tmp else f k)=.tmp;rw[if_pos h]) hn
  ·exact h),fun _ _=>rfl⟩
 refine⟨fun k=>if k<B then .tmp else f k,fun o ho=> ?_⟩
 by_cases e:o=.tmp
 ·subst e;trivial
 ·exact(h1 o ho).keep K e
set_option maxRecDepth 100000 in
set_option maxHeartbeats 6400000 in
theorem pexpr_any (s:ByteArray) (w:World) (hs:s.size≤281474976710656) (ht:CntTab w):Calls Tryz.prog 11 #[.string s] w (PXPost s.data.toList w):=by
 have HB0:=Lib.hid (bx1 w (.cells #[.slice none 0 0,.int .i64 0] 40))
 have HZ0:=Lib.hid (bx_new w (.cells #[.slice none 0 0,.int .i64 0] 40))
 have HSZ:=Lib.hid (show(w.alloc (.cells #[.slice none 0 0,.int .i64 0] 40)).heap.size=w.heap.size+1 from by simp)
 have HBG:=Lib.hid (begun_any s (w.alloc (.cells #[.slice none 0 0,.int .i64 0] 40)) hs)
 have HCT:=Lib.hid (ht.below HB0.out)
 have HCW:=Lib.hid ht
 unfold BegunPost at HBG
 generalize hl:s.data.toList=l at *
 clear hl ht hs
 have HAL:=Lib.hid (begun_all l)
 obtain⟨er,her⟩:∃er,(begunW l).2.2=er:=⟨_,rfl⟩
 have h3:er=0∨er=4∨er=40:=by
  rw[←her]
  rcases begun_three l with⟨_,h⟩|⟨_,_,_,h⟩|⟨_,h,_⟩ <;> rw[h] <;> simp
 rw[her]at HBG
 have HER:=Lib.hid her
 clear her
 by_cases h40:er=40
 ·subst h40
  clear h3
  have HX:=Lib.hid (show exprP l=(⟨[],0⟩,(begunW l).2.1,40)from by unfold exprP;rw[if_pos HER.out])
  go_enter Tryz.func11,Tryz.ntmps11
  go_upto_region 1 with(fail)
  generalize (w.alloc (.cells #[.slice none 0 0,.int .i64 0] 40))=W0 at *
  go_upto_region 3 with(first
   |(go_at_call 40;(with_reducible refine HBG.out.mono ?_);rintro e w1 ⟨R,f,H,rfl,k1,k2,k3⟩;have HR:=Lib.hid k1;have HN:=Lib.hid k2;have HB1:=Lib.hid k3;clear k1 k2 k3)
   |fail)
  have HK:=Lib.hid (bx_kept HB1.out HZ0.out)
  have HBW:=Lib.hid (HB0.out.trans (HB1.out.mono (by have:=HSZ.out;omega)))
  obtain⟨_,p1,_,_,_,_,_,_,pf⟩:=blk8 (HR.out.box (fun h=>h))
  obtain⟨q0,q1,qf⟩:=blk2 HK.out
  have hltk:=heap_lt' HK.out
  rw[HN.out.fin]at p1
  have hH:¬H=w.heap.size:=by have h1:=(HR.out .box (fun h=>h)).2.1;have h2:=HSZ.out;omega
  have hH2:¬w.heap.size=H:=fun e=>hH e.symm
  go_region
  all_goals
   have hz:((w1.setCell ⟨w.heap.size,0,none⟩ (.slice none 0 0)).setCell ⟨w.heap.size,1,none⟩ (.int .i64 0)).drew.heap[w.heap.size]?=some (.cells #[.slice none 0 0,.int .i64 0] 40 (0,0)):=by
    have h0:((w1.setCell ⟨w.heap.size,0,none⟩ (.slice none 0 0)).setCell ⟨w.heap.size,1,none⟩ (.int .i64 0)).heap[w.heap.size]?=some (.cells #[.slice none 0 0,.int .i64 0] 40 (0,0)):=by simpa using box_cells (i:=1) (box_cells (i:=0) HK.out (.slice none 0 0)) (.int .i64 0)
    exact h0
   have HBZ:=Lib.hid (show Below w.heap.size w ((w1.setCell ⟨w.heap.size,0,none⟩ (.slice none 0 0)).setCell ⟨w.heap.size,1,none⟩ (.int .i64 0)).drew from((HBW.out.setCell (p:=⟨w.heap.size,0,none⟩) (Nat.le_refl _) _).setCell (p:=⟨w.heap.size,1,none⟩) (Nat.le_refl _) _).drew)
   clear q0 q1 qf
   generalize ((w1.setCell ⟨w.heap.size,0,none⟩ (.slice none 0 0)).setCell ⟨w.heap.size,1,none⟩ (.int .i64 0)).drew=wz at *
   obtain⟨q0,q1,_,_⟩:=blk2 hz
   go_wp2_with fail
   exact bodyPost_ret (v:=.tuple #[.agg #[.slice none 0 0,.int .i64 0],.int .i64 ((begunW l).2.1:Int),.int .i64 40]) (by simp[results,Tryz.results11,go_sem,q0,q1]) rfl (px_none HX.out HBZ.out)
 ·have i1:((er:Int)==40)=false:=by simp;omega
  have hne:(begunW l).2.2≠40:=by rw[HER.out];exact h40
  rcases hgo:choiceP (begunW l).1 0 []with⟨⟨k⟩|⟨j,t⟩,C'⟩
  ·have HX:=Lib.hid (show exprP l=(⟨[],0⟩,placeW (begunW l).1 (begunW l).2.1 k,4)from by unfold exprP;rw[if_neg hne,hgo])
   have HGO:=Lib.hid hgo
   clear hgo hne h3
   go_enter Tryz.func11,Tryz.ntmps11
   go_upto_region 1 with(fail)
   generalize (w.alloc (.cells #[.slice none 0 0,.int .i64 0] 40))=W0 at *
   go_upto_region 4 with(first
    |(go_at_call 40;(with_reducible refine HBG.out.mono ?_);rintro e w1 ⟨R,f,H,rfl,k1,k2,k3⟩;have HR:=Lib.hid k1;have HN:=Lib.hid k2;have HB1:=Lib.hid k3;clear k1 k2 k3)
    |fail)
   have HCH:=Lib.hid (show Calls Tryz.prog 41 #[.pointer (some ⟨H,0,none⟩)] w1 (ChoicePost W0.heap.size H R ⟨0,[botP],[]⟩ w1)from by
    have h1:=rchoice_any (fun _=>False) w1 W0.heap.size f H R [] (HR.out.mono (fun _ h=>h.elim)) (fun _ h=>h) (by rw[HN.out.W];exact fun x hx=>(HAL.out.1 x hx).1) (by rw[HN.out.cs];rfl) (by simp) (by rw[HN.out.i];omega) (by rw[HN.out.W];exact HAL.out.2) (by rw[HN.out.W];exact fun x hx=>(HAL.out.1 x hx).2) (fun w' hb=>HCT.out.below (HB1.out.trans hb)) HB1.out.size
    rw[HN.out.i]at h1;exact h1)
   unfold ChoicePost at HCH
   have HGR:=Lib.hid (show goP R.W ⟨0,[botP],[]⟩=choiceP (begunW l).1 0 []from by rw[HN.out.W];rfl)
   go_upto_region 5 with(first
    |(go_at_call 41;(with_reducible refine HCH.out.mono ?_);rintro e w2 ⟨_,h1⟩;obtain⟨nA5,nc5,ls5,lA5,lc5,os5,cA5,cc5,f5,rfl,h2,h3⟩:=h1 k C' (HGR.out.trans HGO.out);have HR2:=Lib.hid h2;have HB2:=Lib.hid h3;clear h1 h2 h3;obtain⟨q0,q1,_,qf⟩:=blk2 (bx_kept (HB1.out.trans HB2.out) HZ0.out))
    |fail)
   have HK:=Lib.hid (show((w2.setCell ⟨w.heap.size,0,none⟩ (.slice none 0 0)).setCell ⟨w.heap.size,1,none⟩ (.int .i64 0)).heap[w.heap.size]?=some (.cells #[.slice none 0 0,.int .i64 0] 40 (0,0))from by simpa using box_cells (i:=1) (box_cells (i:=0) (bx_kept (HB1.out.trans HB2.out) HZ0.out) (.slice none 0 0)) (.int .i64 0))
   have HKB:=Lib.hid (show ∀k,k≠w.heap.size→((w2.setCell ⟨w.heap.size,0,none⟩ (.slice none 0 0)).setCell ⟨w.heap.size,1,none⟩ (.int .i64 0)).heap[k]?=w2.heap[k]? from fun k hk=>(Below.heap_setCell _ ⟨w.heap.size,1,none⟩ _ k hk).trans (Below.heap_setCell _ ⟨w.heap.size,0,none⟩ _ k hk))
   have hsz0:=HSZ.out
   have HBW:=Lib.hid (show Below w.heap.size w ((w2.setCell ⟨w.heap.size,0,none⟩ (.slice none 0 0)).setCell ⟨w.heap.size,1,none⟩ (.int .i64 0))from(((HB0.out.trans ((HB1.out.trans HB2.out).mono (by omega))).setCell (p:=⟨w.heap.size,0,none⟩) (Nat.le_refl _) _).setCell (p:=⟨w.heap.size,1,none⟩) (Nat.le_refl _) _))
   obtain⟨f6,hr6⟩:∃f6,RdM Dch ((w2.setCell ⟨w.heap.size,0,none⟩ (.slice none 0 0)).setCell ⟨w.heap.size,1,none⟩ (.int .i64 0)) W0.heap.size f6 H {R with i:=k,nA:=nA5,nc:=nc5,ls:=ls5,lA:=lA5,lc:=lc5,os:=os5,cA:=cA5,cc:=cc5,cs:=C'.map (wdW R.W)}:=HR2.out.aside HN.out.keep (by simp) (fun k hk=>HKB.out k (by omega))
   have HR3:=Lib.hid hr6;clear hr6
   clear q0 q1 qf
   generalize ((w2.setCell ⟨w.heap.size,0,none⟩ (.slice none 0 0)).setCell ⟨w.heap.size,1,none⟩ (.int .i64 0))=w3 at *
   go_quiet (fail)
   go_upto_region 6 with(fail)
   have HKq:=Lib.hid (show(w3.drewN nq).heap[w.heap.size]?=_ from HK.out)
   have HBq:=Lib.hid (Below.drewN'' HBW.out nq)
   have HRq:=Lib.hid (HR3.out.below (Below.drewN'' (Below.refl _ w3) nq))
   clear HK HBW HR3 HKB
   generalize (w3.drewN nq)=w4 at *
   have HPL:=Lib.hid (place_any Dch w4 W0.heap.size f6 H _ HRq.out ⟨fun h=>h,fun h=>h⟩)
   simp only[HN.out.W,HN.out.fin]at HPL
   go_wp2_with (first
    |(go_at_call 42;(with_reducible refine HPL.out.mono ?_);rintro e w5 ⟨rfl,hb⟩;have HB5:=Lib.hid hb;clear hb;obtain⟨q0,q1,_,qf⟩:=blk2 (bx_kept HB5.out HKq.out))
    |fail)
   have HK:=Lib.hid (bx_kept HB5.out HKq.out)
   have HBW:=Lib.hid (HBq.out.trans (HB5.out.mono HBq.out.size))
   have hz:((w5.setCell ⟨w.heap.size,0,none⟩ (.slice none 0 0)).setCell ⟨w.heap.size,1,none⟩ (.int .i64 0)).heap[w.heap.size]?=some (.cells #[.slice none 0 0,.int .i64 0] 40 (0,0)):=by
    have h0:((w5.setCell ⟨w.heap.size,0,none⟩ (.slice none 0 0)).setCell ⟨w.heap.size,1,none⟩ (.int .i64 0)).heap[w.heap.size]?=some (.cells #[.slice none 0 0,.int .i64 0] 40 (0,0)):=by simpa using box_cells (i:=1) (box_cells (i:=0) HK.out (.slice none 0 0)) (.int .i64 0)
    exact h0
   have HBZ:=Lib.hid (show Below w.heap.size w ((w5.setCell ⟨w.heap.size,0,none⟩ (.slice none 0 0)).setCell ⟨w.heap.size,1,none⟩ (.int .i64 0))from((HBW.out.setCell (p:=⟨w.heap.size,0,none⟩) (Nat.le_refl _) _).setCell (p:=⟨w.heap.size,1,none⟩) (Nat.le_refl _) _))
   clear q0 q1 qf
   generalize ((w5.setCell ⟨w.heap.size,0,none⟩ (.slice none 0 0)).setCell ⟨w.heap.size,1,none⟩ (.int .i64 0))=wz at *
   obtain⟨q0,q1,_,_⟩:=blk2 hz
   skip
   exact bodyPost_ret (v:=.tuple #[.agg #[.slice none 0 0,.int .i64 0],.int .i64 (placeW (begunW l).1 (begunW l).2.1 k:Int),.int .i64 4]) (by simp[results,Tryz.results11,go_sem,q0,q1]) rfl (px_none HX.out HBZ.out)
  ·have HGO:=Lib.hid hgo
   have HT:=Lib.hid (show exprP l=if j<(begunW l).1.length then(⟨[],0⟩,placeW (begunW l).1 (begunW l).2.1 j,4)else if er≠0 then(⟨[],0⟩,(begunW l).2.1,er)else if !mayT (bodyT t)then(⟨[],0⟩,(begunW l).2.1,40)else(bodyT t,0,0)from by unfold exprP;rw[if_neg hne,hgo,←HER.out])
   clear hgo hne
   go_enter Tryz.func11,Tryz.ntmps11
   go_upto_region 1 with(fail)
   generalize (w.alloc (.cells #[.slice none 0 0,.int .i64 0] 40))=W0 at *
   go_upto_region 4 with(first
    |(go_at_call 40;(with_reducible refine HBG.out.mono ?_);rintro e w1 ⟨R,f,H,rfl,k1,k2,k3⟩;have HR:=Lib.hid k1;have HN:=Lib.hid k2;have HB1:=Lib.hid k3;clear k1 k2 k3)
    |fail)
   have HCH:=Lib.hid (show Calls Tryz.prog 41 #[.pointer (some ⟨H,0,none⟩)] w1 (ChoicePost W0.heap.size H R ⟨0,[botP],[]⟩ w1)from by
    have h1:=rchoice_any (fun _=>False) w1 W0.heap.size f H R [] (HR.out.mono (fun _ h=>h.elim)) (fun _ h=>h) (by rw[HN.out.W];exact fun x hx=>(HAL.out.1 x hx).1) (by rw[HN.out.cs];rfl) (by simp) (by rw[HN.out.i];omega) (by rw[HN.out.W];exact HAL.out.2) (by rw[HN.out.W];exact fun x hx=>(HAL.out.1 x hx).2) (fun w' hb=>HCT.out.below (HB1.out.trans hb)) HB1.out.size
    rw[HN.out.i]at h1;exact h1)
   unfold ChoicePost at HCH
   have HGR:=Lib.hid (show goP R.W ⟨0,[botP],[]⟩=choiceP (begunW l).1 0 []from by rw[HN.out.W];rfl)
   go_upto_region 5 with(first
    |(go_at_call 41;(with_reducible refine HCH.out.mono ?_);rintro e w2 ⟨h1,_⟩;obtain⟨⟨vA,vc,vls,vr⟩,nA5,nc5,ls5,lA5,lc5,os5,cA5,cc5,f5,rfl,h2,h2l,h3,h4,h5⟩:=h1 j t C' (HGR.out.trans HGO.out);have HV:=Lib.hid h2;have HVL:=Lib.hid h2l;have HVO:=Lib.hid h3;have HR2:=Lib.hid h4;have HB2:=Lib.hid h5;clear h1 h2 h2l h3 h4 h5;obtain⟨q0,q1,_,qf⟩:=blk2 (bx_kept (HB1.out.trans HB2.out) HZ0.out))
    |fail)
   have HK:=Lib.hid (show((w2.setCell ⟨w.heap.size,0,none⟩ (.slice vA vls.length vc)).setCell ⟨w.heap.size,1,none⟩ (.int .i64 vr)).heap[w.heap.size]?=some (.cells #[.slice vA vls.length vc,.int .i64 vr] 40 (0,0))from by simpa using box_cells (i:=1) (box_cells (i:=0) (bx_kept (HB1.out.trans HB2.out) HZ0.out) (.slice vA vls.length vc)) (.int .i64 vr))
   have HKB:=Lib.hid (show ∀k,k≠w.heap.size→((w2.setCell ⟨w.heap.size,0,none⟩ (.slice vA vls.length vc)).setCell ⟨w.heap.size,1,none⟩ (.int .i64 vr)).heap[k]?=w2.heap[k]? from fun k hk=>(Below.heap_setCell _ ⟨w.heap.size,1,none⟩ _ k hk).trans (Below.heap_setCell _ ⟨w.heap.size,0,none⟩ _ k hk))
   have hsz0:=HSZ.out
   have HBW:=Lib.hid (show Below w.heap.size w ((w2.setCell ⟨w.heap.size,0,none⟩ (.slice vA vls.length vc)).setCell ⟨w.heap.size,1,none⟩ (.int .i64 vr))from(((HB0.out.trans ((HB1.out.trans HB2.out).mono (by omega))).setCell (p:=⟨w.heap.size,0,none⟩) (Nat.le_refl _) _).setCell (p:=⟨w.heap.size,1,none⟩) (Nat.le_refl _) _))
   obtain⟨f6,hr6⟩:∃f6,RdM Dch ((w2.setCell ⟨w.heap.size,0,none⟩ (.slice vA vls.length vc)).setCell ⟨w.heap.size,1,none⟩ (.int .i64 vr)) W0.heap.size f6 H {R with i:=j,nA:=nA5,nc:=nc5,ls:=ls5,lA:=lA5,lc:=lc5,os:=os5,cA:=cA5,cc:=cc5,cs:=C'.map (wdW R.W)}:=HR2.out.aside HN.out.keep (by simp) (fun k hk=>HKB.out k (by omega))
   have HR3:=Lib.hid hr6;clear hr6
   clear q0 q1 qf
   have HV3:=Lib.hid (show TreeOwn ((w2.setCell ⟨w.heap.size,0,none⟩ (.slice vA vls.length vc)).setCell ⟨w.heap.size,1,none⟩ (.int .i64 vr)) (W0.heap.size ≤ ·) ⟨vA,vc,vls,vr⟩from(HVO.out.mono (T:=fun k=>W0.heap.size≤k) (fun k _ h=>h.2)).agree (fun k hk _=>HKB.out k (by have hk:W0.heap.size≤k:=hk;omega)))
   generalize ((w2.setCell ⟨w.heap.size,0,none⟩ (.slice vA vls.length vc)).setCell ⟨w.heap.size,1,none⟩ (.int .i64 vr))=w3 at *
   have HBX:=Lib.hid (show w3.heap[H]?=some (.cells #[.slice R.WA R.W.length R.Wc,.int .i64 (R.fin:Int),.int .i64 (j:Int),.slice nA5 ls5.length nc5,.slice lA5 os5.length lc5,.slice R.dA R.ds.length R.dc,.slice R.mA R.ms.length R.mc,.slice cA5 (C'.map (wdW R.W)).length cc5] 82 (0,0))from HR3.out.box (fun h=>h))
   obtain⟨p0,p1,p2,_,_,_,_,_,pf⟩:=blk8 HBX.out
   rw[HN.out.fin]at p1
   rw[HN.out.W]at p0
   by_cases hjl:j<(begunW l).1.length
   ·have HX:=Lib.hid (show exprP l=(⟨[],0⟩,placeW (begunW l).1 (begunW l).2.1 j,4)from by rw[HT.out,if_pos hjl])
    have hjl':(j:Int)<((begunW l).1.length:Int):=by omega
    clear HT hjl
    go_quiet (fail)
    go_upto_region 6 with(fail)
    have HKq:=Lib.hid (show(w3.drewN nq).heap[w.heap.size]?=_ from HK.out)
    have HBq:=Lib.hid (Below.drewN'' HBW.out nq)
    have HRq:=Lib.hid (HR3.out.below (Below.drewN'' (Below.refl _ w3) nq))
    have HVq:=Lib.hid (HV3.out.below (Below.drewN'' (Below.refl _ w3) nq))
    have HBXq:=Lib.hid (show(w3.drewN nq).heap[H]?=_ from HBX.out)
    have hH:¬H=w.heap.size:=by have h1:=(HRq.out .box (fun h=>h)).2.1;have h2:=HSZ.out;omega
    have hH2:¬w.heap.size=H:=fun e=>hH e.symm
    clear HK HBW HR3 HKB HV3 HBX p0 p1 p2 pf
    generalize (w3.drewN nq)=w4 at *
    have HPL:=Lib.hid (place_any Dch w4 W0.heap.size f6 H _ HRq.out ⟨fun h=>h,fun h=>h⟩)
    simp only[HN.out.W,HN.out.fin]at HPL
    go_wp2_with (first
     |(go_at_call 42;(with_reducible refine HPL.out.mono ?_);rintro e w5 ⟨rfl,hb⟩;have HB5:=Lib.hid hb;clear hb;obtain⟨q0,q1,_,qf⟩:=blk2 (bx_kept HB5.out HKq.out))
     |fail)
    have HK:=Lib.hid (bx_kept HB5.out HKq.out)
    have HBW:=Lib.hid (HBq.out.trans (HB5.out.mono HBq.out.size))
    have hz:((w5.setCell ⟨w.heap.size,0,none⟩ (.slice none 0 0)).setCell ⟨w.heap.size,1,none⟩ (.int .i64 0)).heap[w.heap.size]?=some (.cells #[.slice none 0 0,.int .i64 0] 40 (0,0)):=by
     have h0:((w5.setCell ⟨w.heap.size,0,none⟩ (.slice none 0 0)).setCell ⟨w.heap.size,1,none⟩ (.int .i64 0)).heap[w.heap.size]?=some (.cells #[.slice none 0 0,.int .i64 0] 40 (0,0)):=by simpa using box_cells (i:=1) (box_cells (i:=0) HK.out (.slice none 0 0)) (.int .i64 0)
     exact h0
    have HBZ:=Lib.hid (show Below w.heap.size w ((w5.setCell ⟨w.heap.size,0,none⟩ (.slice none 0 0)).setCell ⟨w.heap.size,1,none⟩ (.int .i64 0))from((HBW.out.setCell (p:=⟨w.heap.size,0,none⟩) (Nat.le_refl _) _).setCell (p:=⟨w.heap.size,1,none⟩) (Nat.le_refl _) _))
    clear q0 q1 qf
    generalize ((w5.setCell ⟨w.heap.size,0,none⟩ (.slice none 0 0)).setCell ⟨w.heap.size,1,none⟩ (.int .i64 0))=wz at *
    obtain⟨q0,q1,_,_⟩:=blk2 hz
    skip
    exact bodyPost_ret (v:=.tuple #[.agg #[.slice none 0 0,.int .i64 0],.int .i64 (placeW (begunW l).1 (begunW l).2.1 j:Int),.int .i64 4]) (by simp[results,Tryz.results11,go_sem,q0,q1]) rfl (px_none HX.out HBZ.out)
   ·have hjl':((begunW l).1.length:Int)≤(j:Int):=by omega
    have hjl2:¬(j:Int)<((begunW l).1.length:Int):=by omega
    rw[if_neg hjl]at HT
    clear hjl
    by_cases he:er=0
    ·subst he
     rw[if_neg (by simp)]at HT
     go_quiet (fail)
     go_upto_region 9 with(fail)
     have HKq:=Lib.hid (show(w3.drewN nq).heap[w.heap.size]?=_ from HK.out)
     have HBq:=Lib.hid (Below.drewN'' HBW.out nq)
     have HRq:=Lib.hid (HR3.out.below (Below.drewN'' (Below.refl _ w3) nq))
     have HVq:=Lib.hid (HV3.out.below (Below.drewN'' (Below.refl _ w3) nq))
     have HBXq:=Lib.hid (show(w3.drewN nq).heap[H]?=_ from HBX.out)
     have hH:¬H=w.heap.size:=by have h1:=(HRq.out .box (fun h=>h)).2.1;have h2:=HSZ.out;omega
     have hH2:¬w.heap.size=H:=fun e=>hH e.symm
     clear HK HBW HR3 HKB HV3 HBX p0 p1 p2 pf
     generalize (w3.drewN nq)=w4 at *
     obtain⟨mb,hmb⟩:∃b,mayT (bodyT t)=b:=⟨_,rfl⟩
     rw[hmb]at HT
     have HMY:=Lib.hid (show Calls Tryz.prog 21 #[.agg #[.slice vA vls.length vc,.int .i64 vr]] w4 fun e w'=>e=.returned (.bool mb)∧Below w4.heap.size w4 w' from by
      have h1:=tmay_any ⟨vA,vc,vls,vr⟩ _ w4 HVq.out.inn (by have h9:vls.length≤300000:=HVL.out;show vls.length≤_;omega) (HCW.out.below HBq.out)
      have e:(⟨vA,vc,vls,vr⟩:Lt).tr=bodyT t:=HV.out
      rw[e,hmb]at h1;exact h1)
     clear hmb
     obtain⟨q0,q1,qf⟩:=blk2 HKq.out
     cases mb
     ·have HX:=Lib.hid (show exprP l=(⟨[],0⟩,(begunW l).2.1,40)from by rw[HT.out];rfl)
      go_upto_region 10 with(first
       |(go_at_call 21;(with_reducible refine HMY.out.mono ?_);rintro e w5 ⟨rfl,hb⟩;have HB5:=Lib.hid hb;clear hb)
       |fail)
      clear q0 q1 qf
      have HK:=Lib.hid (bx_kept HB5.out HKq.out)
      have HBW:=Lib.hid (HBq.out.trans (HB5.out.mono HBq.out.size))
      obtain⟨_,p1,_,_,_,_,_,_,pf⟩:=blk8 (bx_kept HB5.out HBXq.out)
      rw[HN.out.fin]at p1
      obtain⟨q0,q1,qf⟩:=blk2 HK.out
      go_region
      all_goals
       have hz:((w5.setCell ⟨w.heap.size,0,none⟩ (.slice none 0 0)).setCell ⟨w.heap.size,1,none⟩ (.int .i64 0)).drew.heap[w.heap.size]?=some (.cells #[.slice none 0 0,.int .i64 0] 40 (0,0)):=by
        have h0:((w5.setCell ⟨w.heap.size,0,none⟩ (.slice none 0 0)).setCell ⟨w.heap.size,1,none⟩ (.int .i64 0)).heap[w.heap.size]?=some (.cells #[.slice none 0 0,.int .i64 0] 40 (0,0)):=by simpa using box_cells (i:=1) (box_cells (i:=0) HK.out (.slice none 0 0)) (.int .i64 0)
        exact h0
       have HBZ:=Lib.hid (show Below w.heap.size w ((w5.setCell ⟨w.heap.size,0,none⟩ (.slice none 0 0)).setCell ⟨w.heap.size,1,none⟩ (.int .i64 0)).drew from((HBW.out.setCell (p:=⟨w.heap.size,0,none⟩) (Nat.le_refl _) _).setCell (p:=⟨w.heap.size,1,none⟩) (Nat.le_refl _) _).drew)
       clear q0 q1 qf
       generalize ((w5.setCell ⟨w.heap.size,0,none⟩ (.slice none 0 0)).setCell ⟨w.heap.size,1,none⟩ (.int .i64 0)).drew=wz at *
       obtain⟨q0,q1,_,_⟩:=blk2 hz
       go_wp2_with fail
       exact bodyPost_ret (v:=.tuple #[.agg #[.slice none 0 0,.int .i64 0],.int .i64 ((begunW l).2.1:Int),.int .i64 40]) (by simp[results,Tryz.results11,go_sem,q0,q1]) rfl (px_none HX.out HBZ.out)
     ·have HX:=Lib.hid (show exprP l=(bodyT t,0,0)from by rw[HT.out];rfl)
      go_upto_region 11 with(first
       |(go_at_call 21;(with_reducible refine HMY.out.mono ?_);rintro e w5 ⟨rfl,hb⟩;have HB5:=Lib.hid hb;clear hb)
       |fail)
      clear q0 q1 qf
      have HK:=Lib.hid (bx_kept HB5.out HKq.out)
      have HBW:=Lib.hid (HBq.out.trans (HB5.out.mono HBq.out.size))
      obtain⟨q0,q1,_,qf⟩:=blk2 HK.out
      go_wp2_with fail
      have hz:((w5.setCell ⟨w.heap.size,0,none⟩ (.slice vA vls.length vc)).setCell ⟨w.heap.size,1,none⟩ (.int .i64 vr)).heap[w.heap.size]?=some (.cells #[.slice vA vls.length vc,.int .i64 vr] 40 (0,0)):=by simpa using box_cells (i:=1) (box_cells (i:=0) HK.out (.slice vA vls.length vc)) (.int .i64 vr)
      have hsz:=HSZ.out
      have HPX:=Lib.hid (show PXPost l w (.returned (.tuple #[.agg #[.slice vA vls.length vc,.int .i64 vr],.int .i64 0,.int .i64 0])) ((w5.setCell ⟨w.heap.size,0,none⟩ (.slice vA vls.length vc)).setCell ⟨w.heap.size,1,none⟩ (.int .i64 vr))from⟨⟨vA,vc,vls,vr⟩,by rw[HX.out];rfl,by rw[HX.out];exact HV.out,HVL.out,((HVq.out.below HB5.out).agree (fun k hk _=>(Below.heap_setCell _ ⟨w.heap.size,1,none⟩ _ k (by have hk:W0.heap.size≤k:=hk;show k≠w.heap.size;omega)).trans (Below.heap_setCell _ ⟨w.heap.size,0,none⟩ _ k (by have hk:W0.heap.size≤k:=hk;show k≠w.heap.size;omega)))).mono (fun k _ hk=>by have hk:W0.heap.size≤k:=hk;show w.heap.size≤k;omega),(HBW.out.setCell (p:=⟨w.heap.size,0,none⟩) (Nat.le_refl _) _).setCell (p:=⟨w.heap.size,1,none⟩) (Nat.le_refl _) _⟩)
      clear q0 q1 qf
      generalize ((w5.setCell ⟨w.heap.size,0,none⟩ (.slice vA vls.length vc)).setCell ⟨w.heap.size,1,none⟩ (.int .i64 vr))=wz at *
      obtain⟨q0,q1,_,_⟩:=blk2 hz
      exact bodyPost_ret (v:=.tuple #[.agg #[.slice vA vls.length vc,.int .i64 vr],.int .i64 0,.int .i64 0]) (by simp[results,Tryz.results11,go_sem,q0,q1]) rfl HPX.out
    ·have HX:=Lib.hid (show exprP l=(⟨[],0⟩,(begunW l).2.1,er)from by rw[HT.out,if_pos he])
     have i2:((er:Int)==0)=false:=by simp;omega
     go_quiet (fail)
     go_upto_region 8 with(fail)
     have HKq:=Lib.hid (show(w3.drewN nq).heap[w.heap.size]?=_ from HK.out)
     have HBq:=Lib.hid (Below.drewN'' HBW.out nq)
     have HRq:=Lib.hid (HR3.out.below (Below.drewN'' (Below.refl _ w3) nq))
     have HVq:=Lib.hid (HV3.out.below (Below.drewN'' (Below.refl _ w3) nq))
     have HBXq:=Lib.hid (show(w3.drewN nq).heap[H]?=_ from HBX.out)
     have hH:¬H=w.heap.size:=by have h1:=(HRq.out .box (fun h=>h)).2.1;have h2:=HSZ.out;omega
     have hH2:¬w.heap.size=H:=fun e=>hH e.symm
     clear HK HBW HR3 HKB HV3 HBX p0 p1 p2 pf
     generalize (w3.drewN nq)=w4 at *
     have HK:=HKq
     have HBW:=HBq
     obtain⟨_,p1,_,_,_,_,_,_,pf⟩:=blk8 HBXq.out
     rw[HN.out.fin]at p1
     obtain⟨q0,q1,qf⟩:=blk2 HK.out
     go_region
     all_goals
      have hz:((w4.setCell ⟨w.heap.size,0,none⟩ (.slice none 0 0)).setCell ⟨w.heap.size,1,none⟩ (.int .i64 0)).drew.heap[w.heap.size]?=some (.cells #[.slice none 0 0,.int .i64 0] 40 (0,0)):=by
       have h0:((w4.setCell ⟨w.heap.size,0,none⟩ (.slice none 0 0)).setCell ⟨w.heap.size,1,none⟩ (.int .i64 0)).heap[w.heap.size]?=some (.cells #[.slice none 0 0,.int .i64 0] 40 (0,0)):=by simpa using box_cells (i:=1) (box_cells (i:=0) HK.out (.slice none 0 0)) (.int .i64 0)
       exact h0
      have HBZ:=Lib.hid (show Below w.heap.size w ((w4.setCell ⟨w.heap.size,0,none⟩ (.slice none 0 0)).setCell ⟨w.heap.size,1,none⟩ (.int .i64 0)).drew from((HBW.out.setCell (p:=⟨w.heap.size,0,none⟩) (Nat.le_refl _) _).setCell (p:=⟨w.heap.size,1,none⟩) (Nat.le_refl _) _).drew)
      clear q0 q1 qf
      generalize ((w4.setCell ⟨w.heap.size,0,none⟩ (.slice none 0 0)).setCell ⟨w.heap.size,1,none⟩ (.int .i64 0)).drew=wz at *
      obtain⟨q0,q1,_,_⟩:=blk2 hz
      go_wp2_with fail
      exact bodyPost_ret (v:=.tuple #[.agg #[.slice none 0 0,.int .i64 0],.int .i64 ((begunW l).2.1:Int),.int .i64 (er:Int)]) (by simp[results,Tryz.results11,go_sem,q0,q1]) rfl (px_none HX.out HBZ.out)
end Go.Proofs.YtpfokabdpmjobaaGreatDoor
namespace Go.Proofs.YtpfokabdpmjobaaGreatDoor
set_option linter.unusedSimpArgs false
set_option linter.unusedVariables false
def embO (F:Nat) (P:List TT) (o:Op):Op:={o with fin:=F,name:=[],ways:=P++o.ways}
def embS (F:Nat) (P:List TT) (rest:List Op):List Op→List Op
 |[]=>rest
 |[o]=>embO F P o::rest
 |o::p::st=>o::embS F P rest (p::st)
theorem prim_emb (W:List Wd) (F:Nat) (P:List TT) (o:Op) (i:Nat) (t:TT):primT W (embO F P o) i t=(embO F P (primT W o i t).1,(primT W o i t).2):=rfl
theorem embS_two (F:Nat) (P:List TT) (rest:List Op) (o p:Op) (st:List Op):embS F P rest (o::p::st)=o::embS F P rest (p::st):=rfl
theorem embS_top {F:Nat} {P:List TT} {rest:List Op} (p:Op) (st:List Op):∃q r,embS F P rest (p::st)=q::r∧ ∀(W:List Wd) (i:Nat) (t:TT),(primT W q i t).1::r=embS F P rest ((primT W p i t).1::st)∧(primT W q i t).2=(primT W p i t).2:=by
 cases st with
 |nil=>exact⟨embO F P p,rest,rfl,fun W i t=>⟨rfl,rfl⟩⟩
 |cons a st=>exact⟨p,embS F P rest (a::st),rfl,fun W i t=>⟨rfl,rfl⟩⟩
theorem step_emb {W:List Wd} {F:Nat} {P:List TT} {rest:List Op} {i i':Nat} {st st':List Op} {C C':List Nat} (h0:stkP st) (h:stepP W ⟨i,st,C⟩=.inl ⟨i',st',C'⟩):
  stepP W ⟨i,embS F P rest st,C⟩=.inl ⟨i',embS F P rest st',C'⟩:=by
 cases st with
 |nil=>simp[stepP]at h
 |cons top st=>
  cases st with
  |nil=>
   have hf:top.fin=0:=h0
   simp only[stepP]at h
   simp only[embS,stepP]
   split at h
   ·rename_i h1
    injection h with h;injection h with e1 e2 e3
    subst e1 e2 e3
    rw[if_pos h1];rfl
   rename_i h1;rw[if_neg h1]
   split at h
   ·rename_i h2
    injection h with h;injection h with e1 e2 e3
    subst e1 e2 e3
    rw[if_pos h2];rfl
   rename_i h2;rw[if_neg h2]
   split at h
   ·rename_i h3
    injection h with h;injection h with e1 e2 e3
    subst e1 e2 e3
    rw[if_pos h3];rfl
   rename_i h3;rw[if_neg h3]
   split at h
   ·rename_i h4
    rw[if_pos h4]
    split at h
    ·rename_i h5
     rw[if_pos h5]
     split at h
     ·rename_i h6
      injection h with h;injection h with e1 e2 e3
      subst e1 e2 e3
      rw[if_pos h6];rfl
     ·cases h
    ·cases h
   rename_i h4;rw[if_neg h4]
   split at h
   ·cases h
   rename_i h5
   rw[if_neg (show ¬(embO F P top).heads≠[]from h5)]
   split at h
   ·rename_i h6
    injection h with h;injection h with e1 e2 e3
    subst e1 e2 e3
    rw[if_pos h6]
    simp[embS,embO,wayT]
   rename_i h6
   first
    |(rw[if_pos hf]at h;cases h;done)
    |(cases h;done)
    |(split at h <;> first|(cases h;done)|(rename_i h7;exact absurd hf h7))
  |cons p st=>
   simp only[stepP]at h
   simp only[embS_two,stepP]
   split at h
   ·rename_i h1
    injection h with h;injection h with e1 e2 e3
    subst e1 e2 e3
    rw[if_pos h1];rfl
   rename_i h1;rw[if_neg h1]
   split at h
   ·rename_i h2
    injection h with h;injection h with e1 e2 e3
    subst e1 e2 e3
    rw[if_pos h2];rfl
   rename_i h2;rw[if_neg h2]
   split at h
   ·rename_i h3
    injection h with h;injection h with e1 e2 e3
    subst e1 e2 e3
    rw[if_pos h3];rfl
   rename_i h3;rw[if_neg h3]
   split at h
   ·rename_i h4
    rw[if_pos h4]
    split at h
    ·rename_i h5
     rw[if_pos h5]
     split at h
     ·rename_i h6
      injection h with h;injection h with e1 e2 e3
      subst e1 e2 e3
      rw[if_pos h6];rfl
     ·cases h
    ·cases h
   rename_i h4;rw[if_neg h4]
   split at h
   ·cases h
   rename_i h5;rw[if_neg h5]
   split at h
   ·rename_i h6
    injection h with h;injection h with e1 e2 e3
    subst e1 e2 e3
    rw[if_pos h6];rfl
   rename_i h6;rw[if_neg h6]
   split at h
   ·cases h
   rename_i h7;rw[if_neg h7]
   split at h
   ·cases h
   rename_i h8;rw[if_neg h8]
   obtain⟨q,r,hq,hp⟩:=embS_top (F:=F) (P:=P) (rest:=rest) p st
   rw[hq]
   simp only at h ⊢
   injection h with h;injection h with e1 e2 e3
   subst e1 e2 e3
   obtain⟨g1,g2⟩:=hp W (i+1) (endT top (joinP choN (wayT top).ways))
   rw[g2,g1]
theorem step_doneB {W:List Wd} {s:PS} {j:Nat} {t:TT} (h:stepP W s=.inr (.done j t)):j=s.i:=by
 unfold stepP at h
 repeat' split at h
 all_goals first|(cases h;done)|(cases h;rfl)
theorem run_emb {A V Z:List Wd} (hz:Stops Z) (hW:∀x∈V,mayS x) {F:Nat} {P:List TT} {rest:List Op} (D:List Nat):∀(f:Nat) (s:PS),s.i≤V.length→GoodS (fun _ t=>fitTT t) s.calls s.st→ ∀t C,runP V f s=(.done V.length t,C) →
  ∃top:Op,top.heads=[]∧t=joinP choN (wayT top).ways∧(fitTT t∧ ∀x∈(wayT top).ways,fitTT x) ∧
   goP (A++(V++Z)) ⟨A.length+s.i,embS F P rest s.st,D++s.calls.map (A.length + ·)⟩=goP (A++(V++Z)) ⟨A.length+V.length,embO F P top::rest,D++C.map (A.length + ·)⟩
 |0,s,hi,hg,t,C,h=>by simp[runP]at h
 |f+1,s,hi,hg,t,C,h=>by
  rw[runP]at h
  cases hs:stepP V s with
  |inl s'=>
   rw[hs]at h
   have hl:s.i<V.length:=by have:=step_lt hs;omega
   obtain⟨top,h1,h2,h3,h4⟩:=run_emb hz hW (F:=F) (P:=P) (rest:=rest) D f s' (step_lt hs).2 (good_step (makes_fit hW) hW hg hs) t C h
   refine⟨top,h1,h2,h3,?_⟩
   rw[←h4]
   have e1:stepP (V++Z) s=.inl s':=(step_left hz hl (by rw[hs];intro k e;cases e)).trans hs
   have e2:stepP (V++Z) ⟨s.i,embS F P rest s.st,s.calls⟩=.inl ⟨s'.i,embS F P rest s'.st,s'.calls⟩:=step_emb hg.1 e1
   have e3:=step_shift A (V++Z) D ⟨s.i,embS F P rest s.st,s.calls⟩
   rw[e2]at e3
   exact go_more (by simp only[List.length_append];omega) e3
  |inr r=>
   rw[hs]at h
   obtain⟨i,st,C'⟩:=s
   simp only[Prod.mk.injEq]at h
   obtain⟨rfl,rfl⟩:=h
   obtain rfl:V.length=i:=step_doneB hs
   obtain⟨_,top,r,rfl,hh,hf,rfl⟩:=step_end (Nat.le_refl _) hs
   obtain rfl:r=[]:=by
    cases r with
    |nil=>rfl
    |cons p r=>
     have h1:(top.fin=10∨top.fin=12∧mayL top.name=true)∧stkP (p::r):=hg.1
     omega
   have hgt:=hg.2 top (by simp)
   refine⟨top,hh,rfl,⟨good_join (makes_fit hW) (C:=C') (.inr rfl) (good_way (makes_fit hW) hgt).1,(good_way (makes_fit hW) hgt).1⟩,rfl⟩
theorem good_bot {W:List Wd} {C:List Nat}:GoodS (fun _ t=>fitTT t) C [botP]:=⟨rfl,fun o ho=>by obtain rfl:=List.mem_singleton.1 ho;exact⟨by simp[botP],by simp[botP],by simp[botP]⟩⟩
def signW (k:Nat):Wd:=⟨k,0,0,[],0,0,0,0,0,0⟩
structure Whole (V:List Wd) (t:TT):Prop where
 may:∀x∈V,mayS x
 run:(choiceP V 0 []).1=.done V.length t
theorem stops_of {k:Nat} {Z:List Wd} (h:k=10∨k=3):Stops (signW k::Z):=by
 rcases h with rfl|rfl <;> exact⟨by simp[kdW,signW],by simp[kdW,signW],by simp[kdW,signW],by simp[kdW,signW],by simp[kdW,signW]⟩
theorem stops_nil:Stops []:=⟨by simp[kdW],by simp[kdW],by simp[kdW],by simp[kdW],by simp[kdW]⟩
theorem stops_open {Z:List Wd}:Stops (signW 9::Z):=⟨by simp[kdW,signW],by simp[kdW,signW],by simp[kdW,signW],by simp[kdW,signW],by simp[kdW,signW]⟩
theorem paren_run {A V Z:List Wd} {t:TT} (h:Whole V t) (hz:Stops Z) (up:Op) (rest:List Op) (C:List Nat):∃C',goP (A++(signW 9::(V++(signW 10::Z)))) ⟨A.length,up::rest,C⟩ =
  goP (A++(signW 9::(V++(signW 10::Z)))) ⟨A.length+(V.length+2),{up with heads:=[],parts:=up.parts++[headT up.heads t]}::rest,C'⟩:=by
 obtain⟨hW,hr⟩:=h
 obtain⟨C1,hr'⟩:∃C1,choiceP V 0 []=(.done V.length t,C1):=⟨_,by rw[←hr]⟩
 generalize hQ:A++(signW 9::(V++(signW 10::Z)))=Q
 have hQ2:Q=(A++[signW 9])++(V++(signW 10::Z)):=by rw[←hQ];simp
 have k9:kdW Q A.length=9:=by rw[←hQ,kd_edge];rfl
 have hlen:Q.length=A.length+V.length+Z.length+2:=by rw[←hQ];simp;omega
 have s1:stepP Q ⟨A.length,up::rest,C⟩=.inl ⟨A.length+1,⟨10,[],[],[],[]⟩::up::rest,C⟩:=by
  simp[stepP,isLeaf,k9]
 obtain⟨top,hh,ht,hfit,hgo⟩:=run_emb (A:=A++[signW 9]) (V:=V) (Z:=signW 10::Z) (stops_of (.inl rfl)) hW (F:=10) (P:=[]) (rest:=up::rest) C _ ⟨0,[botP],[]⟩ (Nat.zero_le _) (good_bot (W:=V)) t C1 hr'
 rw[←hQ2]at hgo
 have hA1:(A++[signW 9]).length=A.length+1:=by simp
 rw[hA1]at hgo
 simp only[List.map_nil,List.append_nil,Nat.add_zero]at hgo
 have k10:kdW Q (A.length+1+V.length)=10:=by
  rw[hQ2,←hA1,kd_shift,kd_edge];rfl
 have kz:sufW Q (A.length+1+V.length+1)=none:=by
  have e:Q=(A++[signW 9]++V++[signW 10])++Z:=by rw[hQ2];simp
  have el:(A++[signW 9]++V++[signW 10]).length=A.length+1+V.length+1:=by simp;omega
  rw[e,←el]
  exact suf_edge hz
 refine⟨C++C1.map (A.length+1 + ·),?_⟩
 rw[go_more (by simp only;omega) s1]
 have e0:(⟨10,[],[],[],[]⟩:Op)::up::rest=embS 10 [] (up::rest) [botP]:=rfl
 rw[e0,hgo]
 have s2:stepP Q ⟨A.length+1+V.length,embO 10 [] top::up::rest,C++C1.map (A.length+1 + ·)⟩ =
   .inl ⟨A.length+(V.length+2),{up with heads:=[],parts:=up.parts++[headT up.heads t]}::rest,C++C1.map (A.length+1 + ·)⟩:=by
  have hem:(embO 10 [] top).heads=[]:=hh
  have hl:isLeaf Q (A.length+1+V.length)=false:=by simp[isLeaf,k10]
  have he:endT (embO 10 [] top) (joinP choN (wayT (embO 10 [] top)).ways)=t:=by
   rw[ht];simp[endT,embO,wayT]
  simp only[stepP,hl,k10,hem,he]
  simp[embO,primT,suff_none kz]
  omega
 rw[go_more (by simp only;omega) s2]
theorem end_run {Q:List Wd} {o:Op} {C:List Nat} (hf:o.fin=0) (hh:o.heads=[]):goP Q ⟨Q.length,[o],C⟩=(.done Q.length (joinP choN (wayT o).ways),C):=by
 refine go_end (Nat.le_refl _) ?_
 have k0:kdW Q Q.length=0:=kd_end (Nat.le_refl _)
 simp[stepP,isLeaf,k0,hh,hf]
theorem signs_may {k:Nat} (h:k=9∨k=10∨k=3):mayS (signW k):=by
 unfold mayS signW
 rcases h with rfl|rfl|rfl <;> simp
theorem choice_go (V:List Wd):choiceP V 0 []=goP V ⟨0,[botP],[]⟩:=rfl
theorem whole_paren {V:List Wd} {t:TT} (h:Whole V t):Whole (signW 9::(V++[signW 10])) t:=by
 refine⟨fun x hx=> ?_,?_⟩
 ·rcases List.mem_cons.1 hx with rfl|hx
  ·exact signs_may (.inl rfl)
  ·rcases List.mem_append.1 hx with hx|hx
   ·exact h.may x hx
   ·obtain rfl:=List.mem_singleton.1 hx
    exact signs_may (.inr (.inl rfl))
 ·obtain⟨C',h1⟩:=paren_run (A:=[]) (Z:=[]) h stops_nil botP [] []
  rw[choice_go]
  simp only[List.nil_append,List.length_nil,Nat.zero_add]at h1
  rw[h1]
  have e:V.length+2=(signW 9::(V++[signW 10])).length:=by simp
  rw[e,end_run rfl rfl]
  simp[wayT,botP,joinP,headT]
theorem whole_many {V:List Wd} {t:TT} (h:Whole V t):∀n,Whole (List.replicate n (signW 9)++V++List.replicate n (signW 10)) t
 |0=>by simpa using h
 |n+1=>by
  have h1:=whole_paren (whole_many h n)
  have e:signW 9::(List.replicate n (signW 9)++V++List.replicate n (signW 10)++[signW 10])=List.replicate (n+1) (signW 9)++V++List.replicate (n+1) (signW 10):=by
   rw[List.replicate_succ,show List.replicate (n+1) (signW 10)=List.replicate n (signW 10)++[signW 10]from List.replicate_succ']
   simp
  rwa [e]at h1
theorem whole_seq {V U:List Wd} {t u:TT} (h:Whole V t) (k:Whole U u):Whole (signW 9::(V++(signW 10::signW 9::(U++[signW 10])))) (.mk seqN [t,u]):=by
 refine⟨fun x hx=> ?_,?_⟩
 ·simp only[List.mem_cons,List.mem_append,List.not_mem_nil,or_false]at hx
  rcases hx with rfl|hx|rfl|rfl|hx|rfl
  ·exact signs_may (.inl rfl)
  ·exact h.may x hx
  ·exact signs_may (.inr (.inl rfl))
  ·exact signs_may (.inl rfl)
  ·exact k.may x hx
  ·exact signs_may (.inr (.inl rfl))
 ·obtain⟨C1,h1⟩:=paren_run (A:=[]) (Z:=signW 9::(U++[signW 10])) h stops_open botP [] []
  simp only[List.nil_append,List.length_nil,Nat.zero_add]at h1
  obtain⟨C2,h2⟩:=paren_run (A:=signW 9::(V++[signW 10])) (Z:=[]) k stops_nil {botP with heads:=[],parts:=botP.parts++[headT botP.heads t]} [] C1
  have e1:signW 9::(V++[signW 10])++(signW 9::(U++[signW 10]))=signW 9::(V++(signW 10::signW 9::(U++[signW 10]))):=by simp
  have e2:(signW 9::(V++[signW 10])).length=V.length+2:=by simp
  rw[e1,e2]at h2
  rw[choice_go,h1,h2]
  have e:V.length+2+(U.length+2)=(signW 9::(V++(signW 10::signW 9::(U++[signW 10])))).length:=by simp;omega
  rw[e,end_run rfl rfl]
  simp[wayT,botP,joinP,headT]
theorem whole_cho {V U:List Wd} {t u:TT} (h:Whole V t) (k:Whole U u):∃A B:List TT,A≠[]∧B≠[]∧t=joinP choN A∧u=joinP choN B∧(∀x∈A,fitTT x)∧(∀x∈B,fitTT x)∧Whole (V++(signW 3::U)) (joinP choN (A++B)):=by
 obtain⟨C1,hr⟩:∃C1,choiceP V 0 []=(.done V.length t,C1):=⟨_,by rw[←h.run]⟩
 obtain⟨C2,hk⟩:∃C1,choiceP U 0 []=(.done U.length u,C1):=⟨_,by rw[←k.run]⟩
 obtain⟨top,hh,ht,hfit,hgo⟩:=run_emb (A:=[]) (V:=V) (Z:=signW 3::U) (stops_of (.inr rfl)) h.may (F:=0) (P:=[]) (rest:=[]) [] _ ⟨0,[botP],[]⟩ (Nat.zero_le _) (good_bot (W:=V)) t C1 hr
 obtain⟨top2,hh2,ht2,hfit2,hgo2⟩:=run_emb (A:=V++[signW 3]) (V:=U) (Z:=[]) stops_nil k.may (F:=0) (P:=(wayT top).ways) (rest:=[]) ([]++C1.map (([]:List Wd).length + ·)) _ ⟨0,[botP],[]⟩ (Nat.zero_le _) (good_bot (W:=U)) u C2 hk
 refine⟨(wayT top).ways,(wayT top2).ways,by simp[wayT],by simp[wayT],ht,ht2,hfit.2,hfit2.2,fun x hx=> ?_,?_⟩
 ·rcases List.mem_append.1 hx with hx|hx
  ·exact h.may x hx
  ·rcases List.mem_cons.1 hx with rfl|hx
   ·exact signs_may (.inr (.inr rfl))
   ·exact k.may x hx
 ·have e1:V++[signW 3]++(U++[])=V++(signW 3::U):=by simp
  have e2:(V++[signW 3]).length=V.length+1:=by simp
  rw[e1,e2]at hgo2
  simp only[List.nil_append,List.length_nil,Nat.zero_add,List.map_nil,List.append_nil,Nat.add_zero]at hgo hgo2
  have e0:embS 0 [] [] [botP]=[botP]:=rfl
  rw[e0]at hgo
  rw[choice_go,hgo]
  generalize hQ:V++(signW 3::U)=Q at *
  have k3:kdW Q V.length=3:=by rw[←hQ,kd_edge];rfl
  have hlen:Q.length=V.length+1+U.length:=by rw[←hQ];simp;omega
  have s1:stepP Q ⟨V.length,embO 0 [] top::[],C1.map (0 + ·)⟩=.inl ⟨V.length+1,embS 0 (wayT top).ways [] [botP],C1.map (0 + ·)⟩:=by
   have hem:(embO 0 [] top).heads=[]:=hh
   have hl:isLeaf Q V.length=false:=by simp[isLeaf,k3]
   simp only[stepP,hl,k3,hem]
   simp[embO,embS,wayT,botP,hh]
  simp only[Nat.zero_add]at s1
  rw[go_more (by simp only;omega) s1,hgo2,←hlen,end_run (o:=embO 0 (wayT top).ways top2) rfl hh2]
  simp[wayT,embO]
theorem put_catB:∀(ks:List Tr) (ar:List Nd) (li:List Int),(∀k∈ks,rightT k=true)→putTs ks ar li=(ar++catN ar.length (ks.map fun k=>flatT (denT k)),li++endsN ar.length (ks.map fun k=>flatT (denT k)))
 |[],ar,li,_=>by simp[putTs,catN,endsN]
 |k::ks,ar,li,h=>by
  have hR:=(rightT_iff _).1 (h k List.mem_cons_self)
  have hr:k.root.toNat<k.nodes.length:=by have:=hR.1;omega
  have e:takenL k.nodes k.root.toNat=flatT (denT k):=taken_flat (rightP_ahead hR) _ (post_nodup hR _ hr)
  have e2:(moveN (ar.length:Int))=shiftN ar.length:=rfl
  have hl:=flat_ne (denT k)
  rw[putTs,e,e2,put_catB ks _ _ (fun k hk=>h k (List.mem_cons_of_mem _ hk))]
  simp only[List.map_cons,catN,endsN,List.length_append,List.length_map,List.append_assoc,List.singleton_append,List.cons_append,List.nil_append,Prod.mk.injEq,and_self]
theorem ofT_two {n:Nd} {x y:TT} (hx:fitTT x) (hy:fitTT y):ofT n [treeOf x,treeOf y]=treeOf (.mk n [x,y]):=by
 have h:∀k∈[treeOf x,treeOf y],rightT k=true:=fun k hk=>by
  rcases List.mem_cons.1 hk with rfl|hk
  ·exact(rightT_iff _).2 (right_treeOf hx)
  ·obtain rfl:=List.mem_singleton.1 hk
   exact(rightT_iff _).2 (right_treeOf hy)
 have ex:denT (treeOf x)=x:=den_treeOf hx
 have ey:denT (treeOf y)=y:=den_treeOf hy
 have h1:=put_catB [treeOf x,treeOf y] [] [] h
 simp only[List.map_cons,List.map_nil,ex,ey,List.nil_append,List.length_nil]at h1
 unfold ofT
 rw[h1]
 simp only[treeOf,flatT_mk,List.map_cons,List.map_nil,List.length_append,List.length_singleton,Tr.mk.injEq]
 exact⟨trivial,by omega⟩
theorem open5_ne {x:TT}:fitTT x→openTT 5 x≠[]:=by
 induction x using TT.ind with
 |h n ks ih=>
  intro hf
  obtain⟨⟨h1,h2⟩,h3⟩:=fitTT_mk.1 hf
  rw[openTT_mk]
  split
  ·rename_i h5
   have hk:=(plain_nd h1 h2 (.inr (by omega))).2
   cases ks with
   |nil=>simp at hk
   |cons t ts=>
    have:=ih t (by simp) (h3 t (by simp))
    simp[this]
  ·rw[if_neg (by omega)];simp
def opens (l:List TT):List TT:=(l.map makeTT).flatMap (openTT 5)
theorem opens_app (a b:List TT):opens (a++b)=opens a++opens b:=by simp[opens]
theorem make_cho (ks:List TT):makeTT (.mk choN ks)=joined choN setN (opens ks):=by
 rw[makeTT_mk];rfl
theorem opens_len:∀l:List TT,(∀x∈l,fitTT x)→l.length≤(opens l).length
 |[],_=>Nat.zero_le _
 |x::l,h=>by
  have h1:=opens_len l fun y hy=>h y (List.mem_cons_of_mem _ hy)
  have h2:=List.length_pos_iff.2 (open5_ne (make_ok (h x (by simp))).1)
  have e:opens (x::l)=openTT 5 (makeTT x)++opens l:=by simp[opens]
  rw[e,List.length_append,List.length_cons];omega
theorem opens_self {l:List TT} (h:∀x∈l,fitTT x):(opens l).flatMap (openTT 5)=opens l:=
 flatMap_self fun y hy=>by
  obtain⟨z,hz,hy⟩:=List.mem_flatMap.1 hy
  obtain⟨u,hu,rfl⟩:=List.mem_map.1 hz
  have h1:=make_ok (h u hu)
  have h2:=open_mem (.inr rfl) h1.2 h1.1 hy
  exact open_other h2.1 fun e=>absurd e (by decide)
theorem open_join {A:List TT} (hA:A≠[]) (h:∀x∈A,fitTT x):openTT 5 (makeTT (joinP choN A))=opens A:=by
 match A with
 |[]=>exact absurd rfl hA
 |[x]=>simp[joinP,opens]
 |x::y::l=>
  rw[show joinP choN (x::y::l)=.mk choN (x::y::l)from rfl,make_cho]
  have h1:=opens_len _ h
  rw[joined_two _ _ (by simp only[List.length_cons]at h1;omega),openTT_mk,if_pos (show choN.kind=5 from rfl)]
  exact opens_self h
theorem make_ways {A B:List TT} (hA:A≠[]) (hB:B≠[]) (h:∀x∈A,fitTT x) (k:∀x∈B,fitTT x):makeTT (joinP choN (A++B))=makeTT (.mk choN [joinP choN A,joinP choN B]):=by
 have e:joinP choN (A++B)=.mk choN (A++B):=by
  cases A with
  |nil=>exact absurd rfl hA
  |cons a A=>
   cases A with
   |nil=>
    cases B with
    |nil=>exact absurd rfl hB
    |cons b B=>rfl
   |cons a' A=>rfl
 rw[e,make_cho,make_cho,opens_app]
 have e2:opens [joinP choN A,joinP choN B]=opens A++opens B:=by
  rw[←open_join hA h,←open_join hB k]
  simp[opens]
 rw[e2]
theorem make_two {n:Nd} {x y:TT} (hx:fitTT x) (hy:fitTT y):makeTT (.mk n [makeTT x,makeTT y])=makeTT (.mk n [x,y]):=by
 rw[makeTT_mk,makeTT_mk]
 simp only[List.map_cons,List.map_nil,make_make hx,make_make hy]
def BW (s:List UInt8) (V:List Wd):Prop:=s.length≤65536∧ ∃ls,wordsL s=(ls,0,0)∧ls.map bareW=V
theorem bw_line {s t:List UInt8} {V U:List Wd} (hb:s.length+t.length+1≤65536) (h:BW s V) (k:BW t U):BW (s++10::t) (V++U):=by
 obtain⟨_,ls,h1,rfl⟩:=h
 obtain⟨_,lt,k1,rfl⟩:=k
 exact⟨by simp;omega,_,words_line hb h1 k1,by rw[List.map_append,bare_move]⟩
theorem words_RW {s:List UInt8} {ls:List Wd} (hs:s.length≤65536) (h:wordsL s=(ls,0,0)):RW s (nextL s 0)=(ls,none):=by
 rw[wordsL_of (by omega)]at h
 cases hr:(RW s (nextL s 0)).2 with
 |some p=>rw[hr]at h;simp at h
 |none=>
  rw[hr]at h
  simp only[Prod.mk.injEq]at h
  rw[←h.1,←hr]
theorem head_sig {c:UInt8} {k:Nat} (h:(c=40∧k=9)∨(c=41∧k=10)∨(c=47∧k=3)) (t:List UInt8):headW (c::t)=some {signW k with til:=1}:=by
 rcases h with⟨rfl,rfl⟩|⟨rfl,rfl⟩|⟨rfl,rfl⟩ <;> rfl
theorem bw_sign {c:UInt8} {k:Nat} {t:List UInt8} {V:List Wd} (h:(c=40∧k=9)∨(c=41∧k=10)∨(c=47∧k=3)) (hb:t.length+1≤65536) (hv:BW t V):BW (c::t) (signW k::V):=by
 obtain⟨_,ls,h1,rfl⟩:=hv
 have h2:=words_RW (by omega) h1
 have hz:=head_sig h t
 have n0:nextL (c::t) 0=0:=by unfold nextL;rw[List.drop_zero,head_stop hz]
 have n1:=next_shift [c] t 0
 have r1:=RW_shift [c] t (nextL t 0)
 rw[h2]at r1
 simp only[List.length_singleton,List.singleton_append,Nat.add_zero,List.cons_append,List.nil_append]at n1 r1
 have hw:wordL (c::t) 0=some {signW k with til:=1}:=by unfold wordL;rw[List.drop_zero,hz];simp[signW]
 refine⟨by simp;omega,{signW k with til:=1}::ls.map (moveW 1),?_,?_⟩
 ·rw[wordsL_of (by simp;omega),n0,RW_word (by simp) hw]
  simp only
  rw[n1,r1]
  rfl
 ·rw[List.map_cons,bare_move];rfl
theorem bw_nil:BW [] []:=⟨by simp,[],rfl,rfl⟩
theorem bw_signs {c:UInt8} {k:Nat} {t:List UInt8} {V:List Wd} (h:(c=40∧k=9)∨(c=41∧k=10)∨(c=47∧k=3)) (hv:BW t V):∀n,t.length+n≤65536→BW (List.replicate n c++t) (List.replicate n (signW k)++V)
 |0,_=>by simpa using hv
 |n+1,hb=>by
  have h1:=bw_signs h hv n (by omega)
  have:=bw_sign h (by simp;omega) h1
  simpa[List.replicate_succ]using this
theorem may_bare {x:Wd}:mayS (bareW x)↔mayS x:=Iff.rfl
theorem expr_whole {s:List UInt8} {V:List Wd} {t:TT} (h:BW s V) (k:Whole V t):exprP s=if mayT (bodyT t)then(bodyT t,0,0)else(⟨[],0⟩,s.length,40):=by
 obtain⟨_,ls,h1,rfl⟩:=h
 have hb:begunW s=(ls,s.length,0):=by unfold begunW;rw[h1];simp
 have hc:(choiceP ls 0 []).1=.done ls.length t:=by rw[←choice_bare ls,k.run,List.length_map]
 unfold exprP
 rw[hb]
 simp only[hc]
 by_cases hm:mayT (bodyT t)=true
 ·simp[hm]
 ·simp[hm]
theorem whole_of {s:List UInt8} (hs:s.length≤65536) (h:(exprP s).2.2=0):∃V t,BW s V∧Whole V t∧fitTT t∧exprP s=(bodyT t,0,0)∧mayT (bodyT t)=true:=by
 obtain⟨W,fin,e,hb⟩:∃W fin e,begunW s=(W,fin,e):=⟨(begunW s).1,(begunW s).2.1,(begunW s).2.2,rfl⟩
 obtain⟨h1,h2,h3⟩:=begun_of (by omega) hb
 have hx:¬e=40:=by omega
 unfold exprP at h ⊢
 rw[hb]at h ⊢
 simp only[if_neg hx]at h ⊢
 cases hc:(choiceP W 0 []).1 with
 |fail k=>rw[hc]at h;simp at h
 |done j t=>
  rw[hc]at h
  simp only at h ⊢
  split at h
  ·simp at h
  rename_i hj
  split at h
  ·rename_i h4
   simp at h
   exact absurd h h4
  rename_i h4
  have h4':e=0:=by simpa using h4
  subst h4'
  split at h
  ·simp at h
  rename_i h5
  have hm:mayT (bodyT t)=true:=by simpa using h5
  obtain⟨C1,hr⟩:∃C1,choiceP W 0 []=(.done j t,C1):=⟨_,by rw[←hc]⟩
  have hjl:=choice_le (Nat.zero_le _) hr
  obtain rfl:j=W.length:=by omega
  have hfin:fin=s.length:=by omega
  rw[hfin,List.take_length]at h2
  refine⟨W.map bareW,t,⟨hs,W,h2,rfl⟩,⟨fun x hx=> ?_,by rw[choice_bare,hc,List.length_map]⟩,(good_choice (makes_fit h3) h3 hr).1,?_,hm⟩
  ·obtain⟨y,hy,rfl⟩:=List.mem_map.1 hx
   exact may_bare.2 (h3 y hy)
  ·simp[hm]
theorem brackets_p {s t:List UInt8} {n:Nat} (hs:s.length+t.length≤2000) (hn:n≤50) (h:(exprP s).2.2=0) (k:(exprP t).2.2=0):
  exprP (List.replicate n 40++(s++10::List.replicate n 41))=exprP s∧ ∃x y:TT,fitTT x∧fitTT y∧(exprP s).1=treeOf (makeTT x)∧(exprP t).1=treeOf (makeTT y)∧mayT (treeOf (makeTT x))=true∧mayT (treeOf (makeTT y))=true ∧
   (∃p,exprP (40::(s++10::41::40::(t++10::[41])))=if mayT (treeOf (makeTT (.mk seqN [makeTT x,makeTT y])))then(treeOf (makeTT (.mk seqN [makeTT x,makeTT y])),0,0)else(⟨[],0⟩,p,40)) ∧
   (∃p,exprP (s++10::47::(t++10::[]))=if mayT (treeOf (makeTT (.mk choN [makeTT x,makeTT y])))then(treeOf (makeTT (.mk choN [makeTT x,makeTT y])),0,0)else(⟨[],0⟩,p,40)):=by
 obtain⟨V,x,h1,h2,hx,h3,h4⟩:=whole_of (by omega) h
 obtain⟨U,y,k1,k2,hy,k3,k4⟩:=whole_of (by omega) k
 have sl:=h1.1
 have tl:=k1.1
 have r41:BW (List.replicate n 41) (List.replicate n (signW 10)):=by
  have:=bw_signs (c:=41) (k:=10) (.inr (.inl ⟨rfl,rfl⟩)) bw_nil n (by simp;omega)
  simpa using this
 have one41:BW [41] [signW 10]:=bw_sign (.inr (.inl ⟨rfl,rfl⟩)) (by simp) bw_nil
 refine⟨?_,x,y,hx,hy,by rw[h3];rfl,by rw[k3];rfl,h4,k4,?_,?_⟩
 ·have a1:=bw_line (by simp;omega) h1 r41
  have a2:=bw_signs (c:=40) (k:=9) (.inl ⟨rfl,rfl⟩) a1 n (by simp;omega)
  rw[expr_whole a2 (by simpa[List.append_assoc]using whole_many h2 n),h3,if_pos h4]
 ·have b1:=bw_line (by simp;omega) k1 one41
  have b2:=bw_sign (c:=40) (k:=9) (.inl ⟨rfl,rfl⟩) (by simp;omega) b1
  have b3:=bw_sign (c:=41) (k:=10) (.inr (.inl ⟨rfl,rfl⟩)) (by simp;omega) b2
  have b4:=bw_line (by simp;omega) h1 b3
  have b5:=bw_sign (c:=40) (k:=9) (.inl ⟨rfl,rfl⟩) (by simp;omega) b4
  refine⟨(40::(s++10::41::40::(t++10::[41]))).length,?_⟩
  rw[expr_whole b5 (whole_seq h2 k2),bodyT,make_two hx hy]
 ·have b1:=bw_line (by simp;omega) k1 bw_nil
  have b2:=bw_sign (c:=47) (k:=3) (.inr (.inr ⟨rfl,rfl⟩)) (by simp;omega) b1
  have b3:=bw_line (by simp;omega) h1 b2
  rw[List.append_nil]at b3
  obtain⟨A,B,hA,hB,rfl,rfl,fA,fB,hw⟩:=whole_cho h2 k2
  refine⟨(s++10::47::(t++10::[])).length,?_⟩
  rw[expr_whole b3 hw,bodyT,make_ways hA hB fA fB,make_two hx hy]
end Go.Proofs.YtpfokabdpmjobaaGreatDoor
namespace Go.Proofs.YtpfokabdpmjobaaGreatDoor
open Go.RowKit
set_option linter.unusedSimpArgs false
set_option linter.unusedVariables false
theorem many_any (c:UInt8) (n:Nat) (hn:n≤100000) (w:World):Calls Tryz.prog 23 #[.string ⟨#[c]⟩,.int .i64 (n:Int)] w fun e w'=>e=.returned (.string ⟨Array.replicate n c⟩)∧Below w.heap.size w w':=by
 go_enter Tryz.func23,Tryz.ntmps23
 go_wp2_with fail
 go_loopw [5,6] (fun o i wr=>∃k:Nat,k≤n∧i=.int .i64 k∧o=.string ⟨Array.replicate k c⟩∧Hid (Below w.heap.size w wr)) (fun _ i _=>n-(intOf i).toNat)
 case atStart=>exact⟨0,Nat.zero_le _,rfl,rfl,Lib.hid (Below.refl _ _)⟩
 case round=>
  obtain⟨k,hk,rfl,rfl,HB⟩:=hrel
  by_cases hlt:k<n
  ·have i1:(k:Int)<(n:Int):=by omega
   have hsz:(⟨Array.replicate k c⟩:ByteArray).size=k:=by simp[ByteArray.size]
   have hs1:(⟨#[c]⟩:ByteArray).size=1:=rfl
   have i3:(⟨Array.replicate k c⟩:ByteArray).size+(⟨#[c]⟩:ByteArray).size≤9223372036854775807:=by rw[hsz,hs1];omega
   go_wp2_with fail
   refine⟨⟨k+1,by omega,by go_num,?_,HB⟩,by simp only[intOf];omega⟩
   congr 1
   apply ByteArray.ext
   simp[ByteArray.data_append,Array.replicate_succ]
  ·obtain rfl:k=n:=by omega
   have i1:¬(k:Int)<(k:Int):=by omega
   go_wp2_with fail
   go_ret
   exact⟨rfl,HB.out⟩
def SeqPost (T:Tr) (w:World) (e:Ending) (w':World):Prop:=
 ∃v:Lt,e=.returned (.tuple #[.agg #[.slice v.A v.ls.length v.c,.int .i64 v.root],.bool true])∧(v.tr=T∧v.ls.length≤700000)∧TreeOwn w' (w.heap.size ≤ ·) v∧Below w.heap.size w w'
theorem SeqPost.of {x:TT} {n:Nd} {y z:TT} (hT:x=.mk n [y,z]) (h:szTT y+szTT z≤600000):(treeOf (makeTT x)).nodes.length≤700000:=by
 subst hT
 have h1:=sz_make (.mk n [y,z])
 rw[sz_mk]at h1
 have h2:szs [y,z]=szTT y+szTT z:=by simp[szs]
 show szTT (makeTT (.mk n [y,z]))≤700000
 omega
set_option maxRecDepth 100000 in
set_option maxHeartbeats 3200000 in
theorem eof_two (n:Nd) (K:Value) (L:Option Addr) (lc:Nat) (ka kb:Lt) (x y:TT) (w:World) (hn:n.wf) (hL:ttL.row w (fun _=>True) L [ka,kb]) (ha:ka.tr=treeOf x) (hb:kb.tr=treeOf y) (hf:fitTT (.mk n [x,y])) (hla:ka.ls.length≤300000) (hlb:kb.ls.length≤300000) (ht:CntTab w):
  Calls Tryz.prog 56 #[ndV n K,.slice L 2 lc] w (SeqPost (treeOf (makeTT (.mk n [x,y]))) w):=by
 have hxy:=(fitTT_mk.1 hf).2
 have fx:fitTT x:=hxy x (by simp)
 have fy:fitTT y:=hxy y (by simp)
 have hof:ofT n ([ka,kb].map Lt.tr)=treeOf (.mk n [x,y]):=by
  simp only[List.map_cons,List.map_nil,ha,hb];exact ofT_two fx fy
 have hlx:szTT x=ka.ls.length:=by
  have h:=congrArg (fun t:Tr=>t.nodes.length) ha
  simp only[Lt.tr,List.length_map]at h
  exact h.symm
 have hly:szTT y=kb.ls.length:=by
  have h:=congrArg (fun t:Tr=>t.nodes.length) hb
  simp only[Lt.tr,List.length_map]at h
  exact h.symm
 have hok:okT n ([ka,kb].map Lt.tr)=true:=by
  unfold okT
  simp only[List.map_cons,List.map_nil,ha,hb,List.length_cons,List.length_nil,List.all_cons,List.all_nil,Bool.and_true,Bool.and_eq_true]
  exact⟨(fitTT_mk.1 hf).1.2,(rightT_iff _).2 (right_treeOf fx),(rightT_iff _).2 (right_treeOf fy)⟩
 have hden:den (treeOf (.mk n [x,y])).nodes (treeOf (.mk n [x,y])).root.toNat=.mk n [x,y]:=den_treeOf hf
 have hrt:rightT (treeOf (.mk n [x,y]))=true:=(rightT_iff _).2 (right_treeOf hf)
 have hsl:(treeOf (.mk n [x,y])).nodes.length≤700000:=by
  show szTT (.mk n [x,y])≤_
  rw[sz_mk]
  have h2:szs [x,y]=szTT x+szTT y:=by simp[szs]
  omega
 have HLEN:=Lib.hid (SeqPost.of (n:=n) (y:=x) (z:=y) rfl (by omega))
 have HB0:=Lib.hid (bx2 w (.cells #[.int .u8 n.kind,.int .u64 n.s0,.int .u64 n.s1,.int .u64 n.s2,.int .u64 n.s3,.string n.text,.int .i64 n.mn,.int .i64 n.mx,K] 54) (.cells #[.slice none 0 0,.int .i64 0] 40))
 have hk:=bx_new (w.alloc (.cells #[.int .u8 n.kind,.int .u64 n.s0,.int .u64 n.s1,.int .u64 n.s2,.int .u64 n.s3,.string n.text,.int .i64 n.mn,.int .i64 n.mx,K] 54)) (.cells #[.slice none 0 0,.int .i64 0] 40)
 rw[World.size_alloc]at hk
 have HK0:=Lib.hid hk;clear hk
 have HOF:=Lib.hid (oft_any n K L lc [ka,kb] (fun _=>True) _ hn (hL.below HB0.out) (by simp) (by simp;omega) (ht.below HB0.out))
 have HFO:=Lib.hid (And.intro hof (And.intro hok (And.intro hden (And.intro hrt hsl))))
 have HCT:=Lib.hid ht
 clear hL ht hn hof hok hden hrt hsl hxy
 go_enter Tryz.func56,Tryz.ntmps56
 go_upto_region 4 with(first
  |(go_at_call 58;refine HOF.out.mono ?_;rintro e w1 ⟨h1, -⟩;obtain⟨⟨A,c,ls,root⟩,he,htr,hto,hb1⟩:=h1 HFO.out.2.1;simp only[Lt.val]at he;subst he;rw[HFO.out.1]at htr;have HTR:=Lib.hid htr;have HTO:=Lib.hid hto;have HB1:=Lib.hid (Below.step HB0.out hb1);have HK1:=Lib.hid (bx_kept hb1 HK0.out);clear h1 htr hto hb1)
  |fail)
 have hb2:=bx1 w1 (.cells #[.slice A ls.length c,.int .i64 root] 40)
 have HN:=Lib.hid (bx_new w1 (.cells #[.slice A ls.length c,.int .i64 root] 40))
 have HK2:=Lib.hid (bx_kept hb2 HK1.out)
 have HTO2:=Lib.hid (HTO.out.below hb2)
 have HB2:=Lib.hid (Below.step HB1.out hb2)
 clear hb2 HTO HB1 HK1 HB0 HK0 HOF
 generalize (w1.alloc (.cells #[.slice A ls.length c,.int .i64 root] 40))=w2 at *
 generalize w1.heap.size=gx at *
 obtain⟨q1,q2,_,_⟩:=blk2 HN.out
 have hTT:(⟨ls.map Ln.nd,root⟩:Tr)=treeOf (.mk n [x,y]):=HTR.out
 have HMK:=Lib.hid (show Calls Tryz.prog 55 #[.agg #[.slice A ls.length c,.int .i64 root]] w2 (SeqPost (treeOf (makeTT (.mk n [x,y]))) w2)from(make_any A c ls root _ w2 HTO2.out.inn.2 (by
   have h:=congrArg (fun t:Tr=>t.nodes.length) hTT
   simp only[List.length_map]at h
   have:=HFO.out.2.2.2.2;omega) (HCT.out.below HB2.out)).mono fun e w' hm=>by
  obtain⟨v,h1,h2,h3,h4⟩:=hm.1 (by rw[hTT];exact HFO.out.2.2.2.1)
  rw[hTT,HFO.out.2.2.1]at h2
  refine⟨v,h1,⟨h2,?_⟩,h3,h4⟩
  have h:=congrArg (fun t:Tr=>t.nodes.length) h2
  simp only[Lt.tr,List.length_map]at h
  rw[h];exact HLEN.out)
 clear hTT
 go_wp2_with (first
  |(go_at_call 55;refine HMK.out.mono ?_;rintro e w3 ⟨⟨vA,vc,vl,vr⟩,rfl,h2,h3,h4⟩;have HV:=Lib.hid h2;have HVO:=Lib.hid h3;have HB3:=Lib.hid h4;have HK3:=Lib.hid (bx_kept h4 HK2.out);obtain⟨t1,t2,t3,t4⟩:=blk2 HK3.out;clear h2 h3 h4)
  |fail)
 have HZ:=Lib.hid (show w.heap.size+2≤w2.heap.size from by have:=(Array.getElem?_eq_some_iff.1 HK2.out).1;omega)
 refine bodyPost_ret (v:=.tuple #[.agg #[.slice vA vl.length vc,.int .i64 vr],.bool true]) (by simp[results,Tryz.results56,go_sem,t1,t2]) rfl ?_
 refine⟨⟨vA,vc,vl,vr⟩,rfl,HV.out,?_,?_⟩
 ·refine(HVO.out.agree (fun k hk _=> ?_)).mono (fun k _ hk=> ?_)
  ·have hk:w2.heap.size≤k:=hk
   have:=HZ.out
   exact(Below.heap_setCell _ _ _ _ (by show k≠w.heap.size+1;omega)).trans (Below.heap_setCell _ _ _ _ (by show k≠w.heap.size+1;omega))
  ·have hk:w2.heap.size≤k:=hk
   have:=HZ.out
   show w.heap.size≤k;omega
 ·exact((Below.step HB2.out HB3.out).setCell (p:=⟨w.heap.size+1,0,none⟩) (by simp) _).setCell (p:=⟨w.heap.size+1,1,none⟩) (by simp) _
theorem kindN_wfB (k:Nat) (h:k≤9):(kindN k).wf:=⟨by simp[kindN];omega,by simp[kindN];decide,by simp[kindN],by simp[kindN,U64],by simp[kindN,U64],by simp[kindN,U64],by simp[kindN,U64]⟩
set_option maxRecDepth 100000 in
set_option maxHeartbeats 3200000 in
theorem seq_two (L:Option Addr) (lc:Nat) (ka kb:Lt) (x y:TT) (w:World) (hL:ttL.row w (fun _=>True) L [ka,kb]) (ha:ka.tr=treeOf x) (hb:kb.tr=treeOf y) (fx:fitTT x) (fy:fitTT y) (hla:ka.ls.length≤300000) (hlb:kb.ls.length≤300000) (ht:CntTab w):
  Calls Tryz.prog 24 #[.slice L 2 lc] w (SeqPost (treeOf (makeTT (.mk seqN [x,y]))) w):=by
 have hf:fitTT (.mk seqN [x,y]):=fitTT_mk.2 ⟨⟨rfl,by first|exact fit_seqN 2 (by decide)|exact fit_choN 2 (by decide)⟩,fun t ht=>by
  rcases List.mem_cons.1 ht with rfl|ht
  ·exact fx
  ·obtain rfl:=List.mem_singleton.1 ht;exact fy⟩
 have HB0:=Lib.hid (bx1 w (.cells #[.slice none 0 0,.int .i64 0] 40))
 have HK0:=Lib.hid (bx_new w (.cells #[.slice none 0 0,.int .i64 0] 40))
 have HOF:=Lib.hid (eof_two seqN (.slice none 0 0) L lc ka kb x y _ (kindN_wfB 4 (by decide)) (hL.below HB0.out) ha hb hf hla hlb (ht.below HB0.out))
 have HZ:=Lib.hid (show(w.alloc (.cells #[.slice none 0 0,.int .i64 0] 40)).heap.size=w.heap.size+1 from by simp)
 clear hL ha hb fx fy hf ht
 go_enter Tryz.func24,Tryz.ntmps24
 go_wp2_with (first
  |(go_at_call 56;refine HOF.out.mono ?_;rintro e w3 ⟨⟨vA,vc,vl,vr⟩,rfl,h2,h3,h4⟩;have HV:=Lib.hid h2;have HVO:=Lib.hid h3;have HB3:=Lib.hid h4;have HK3:=Lib.hid (bx_kept h4 HK0.out);obtain⟨t1,t2,t3,t4⟩:=blk2 HK3.out;clear h2 h3 h4)
  |fail)
 refine bodyPost_ret (v:=.tuple #[.agg #[.slice vA vl.length vc,.int .i64 vr],.bool true]) (by simp[results,Tryz.results24,go_sem,t1,t2]) rfl ?_
 refine⟨⟨vA,vc,vl,vr⟩,rfl,HV.out,?_,?_⟩
 ·refine(HVO.out.agree (fun k hk _=> ?_)).mono (fun k _ hk=> ?_)
  ·have hk:(w.alloc (.cells #[.slice none 0 0,.int .i64 0] 40)).heap.size≤k:=hk
   rw[HZ.out]at hk
   exact(Below.heap_setCell _ _ _ _ (by show k≠w.heap.size;omega)).trans (Below.heap_setCell _ _ _ _ (by show k≠w.heap.size;omega))
  ·have hk:(w.alloc (.cells #[.slice none 0 0,.int .i64 0] 40)).heap.size≤k:=hk
   rw[HZ.out]at hk
   show w.heap.size≤k;omega
 ·exact((Below.step HB0.out HB3.out).setCell (p:=⟨w.heap.size,0,none⟩) (by simp) _).setCell (p:=⟨w.heap.size,1,none⟩) (by simp) _
set_option maxRecDepth 100000 in
set_option maxHeartbeats 3200000 in
theorem choice_two (L:Option Addr) (lc:Nat) (ka kb:Lt) (x y:TT) (w:World) (hL:ttL.row w (fun _=>True) L [ka,kb]) (ha:ka.tr=treeOf x) (hb:kb.tr=treeOf y) (fx:fitTT x) (fy:fitTT y) (hla:ka.ls.length≤300000) (hlb:kb.ls.length≤300000) (ht:CntTab w):
  Calls Tryz.prog 25 #[.slice L 2 lc] w (SeqPost (treeOf (makeTT (.mk choN [x,y]))) w):=by
 have hf:fitTT (.mk choN [x,y]):=fitTT_mk.2 ⟨⟨rfl,by first|exact fit_seqN 2 (by decide)|exact fit_choN 2 (by decide)⟩,fun t ht=>by
  rcases List.mem_cons.1 ht with rfl|ht
  ·exact fx
  ·obtain rfl:=List.mem_singleton.1 ht;exact fy⟩
 have HB0:=Lib.hid (bx1 w (.cells #[.slice none 0 0,.int .i64 0] 40))
 have HK0:=Lib.hid (bx_new w (.cells #[.slice none 0 0,.int .i64 0] 40))
 have HOF:=Lib.hid (eof_two choN (.slice none 0 0) L lc ka kb x y _ (kindN_wfB 5 (by decide)) (hL.below HB0.out) ha hb hf hla hlb (ht.below HB0.out))
 have HZ:=Lib.hid (show(w.alloc (.cells #[.slice none 0 0,.int .i64 0] 40)).heap.size=w.heap.size+1 from by simp)
 clear hL ha hb fx fy hf ht
 go_enter Tryz.func25,Tryz.ntmps25
 go_wp2_with (first
  |(go_at_call 56;refine HOF.out.mono ?_;rintro e w3 ⟨⟨vA,vc,vl,vr⟩,rfl,h2,h3,h4⟩;have HV:=Lib.hid h2;have HVO:=Lib.hid h3;have HB3:=Lib.hid h4;have HK3:=Lib.hid (bx_kept h4 HK0.out);obtain⟨t1,t2,t3,t4⟩:=blk2 HK3.out;clear h2 h3 h4)
  |fail)
 refine bodyPost_ret (v:=.tuple #[.agg #[.slice vA vl.length vc,.int .i64 vr],.bool true]) (by simp[results,Tryz.results25,go_sem,t1,t2]) rfl ?_
 refine⟨⟨vA,vc,vl,vr⟩,rfl,HV.out,?_,?_⟩
 ·refine(HVO.out.agree (fun k hk _=> ?_)).mono (fun k _ hk=> ?_)
  ·have hk:(w.alloc (.cells #[.slice none 0 0,.int .i64 0] 40)).heap.size≤k:=hk
   rw[HZ.out]at hk
   exact(Below.heap_setCell _ _ _ _ (by show k≠w.heap.size;omega)).trans (Below.heap_setCell _ _ _ _ (by show k≠w.heap.size;omega))
  ·have hk:(w.alloc (.cells #[.slice none 0 0,.int .i64 0] 40)).heap.size≤k:=hk
   rw[HZ.out]at hk
   show w.heap.size≤k;omega
 ·exact((Below.step HB0.out HB3.out).setCell (p:=⟨w.heap.size,0,none⟩) (by simp) _).setCell (p:=⟨w.heap.size,1,none⟩) (by simp) _
end Go.Proofs.YtpfokabdpmjobaaGreatDoor
namespace Go.Proofs.YtpfokabdpmjobaaGreatDoor
open Go.RowKit
set_option linter.unusedSimpArgs false
set_option linter.unusedVariables false
theorem sameT_treeOf {x:TT} (h:fitTT x):sameT (treeOf (makeTT x)) (treeOf (makeTT x))=true:=sameT_reflB ((rightT_iff _).2 (right_treeOf (make_ok h).1))
theorem uint_rem (n:Int):∃m:Nat,m≤50∧IntKind.i64.wrap ((IntKind.u64.wrap n).tmod 50)=(m:Int):=by
 have h1:0≤IntKind.u64.wrap n:=by
  unfold IntKind.wrap
  simp only[IntKind.signed,IntKind.bits]
  first|exact Int.emod_nonneg _ (by decide)|(simp;omega)|omega
 obtain⟨k,hk⟩:=Int.eq_ofNat_of_zero_le h1
 refine⟨k%50,by omega,?_⟩
 rw[hk,Int.tmod_eq_emod_of_nonneg (by omega),IntWalk.i64_in _ (by omega)]
 omega
theorem fit_pair (n:Nd) (hn:n=seqN∨n=choN) {x y:TT} (fx:fitTT x) (fy:fitTT y):fitTT (.mk n [x,y]):=by
 refine fitTT_mk.2 ⟨⟨by rcases hn with rfl|rfl <;> rfl,?_⟩,fun t ht=> ?_⟩
 ·rcases hn with rfl|rfl
  ·exact fit_seqN 2 (by decide)
  ·exact fit_choN 2 (by decide)
 ·rcases List.mem_cons.1 ht with rfl|ht
  ·exact fx
  ·obtain rfl:=List.mem_singleton.1 ht;exact fy
theorem pair_row {w:World} {nb:Nat} {aA bA:Option Addr} {ac bc:Nat} {al bl:List Ln} {ar br:Int} (hh:w.heap[nb]?=some (.cells #[.slice aA al.length ac,.int .i64 ar,.slice bA bl.length bc,.int .i64 br] 40 (0,0)))
   (ha:TreeOwn w (fun _=>True) ⟨aA,ac,al,ar⟩) (hb:TreeOwn w (fun _=>True) ⟨bA,bc,bl,br⟩):ttL.row w (fun _=>True) (some ⟨nb,0,none⟩) [⟨aA,ac,al,ar⟩,⟨bA,bc,bl,br⟩]:=
 ⟨⟨row_blk (cs:=[.slice aA al.length ac,.int .i64 ar,.slice bA bl.length bc,.int .i64 br]) hh,fun _ _ _=>trivial⟩,fun t ht=>by
   rcases List.mem_cons.1 ht with rfl|ht
   ·exact ha.inn
   ·obtain rfl:=List.mem_singleton.1 ht;exact hb.inn⟩
theorem if_cases {S:Tr} {p:Nat} {l:List UInt8} (h:exprP l=if mayT S then(S,0,0)else(⟨[],0⟩,p,40)):∃(T:Tr) (a e:Nat),exprP l=(T,a,e)∧((mayT S=true∧T=S∧e=0)∨(mayT S=false∧e=40)):=by
 cases hm:mayT S with
 |true=>rw[hm,if_pos rfl]at h;exact⟨_,_,_,h,.inl ⟨rfl,rfl,rfl⟩⟩
 |false=>rw[hm,if_neg (by decide)]at h;exact⟨_,_,_,h,.inr ⟨rfl,rfl⟩⟩
set_option maxRecDepth 100000 in
set_option maxHeartbeats 12800000 in
theorem parsebrackets_walk (s t:ByteArray) (n:Int) (w:World) (hs:s.size≤281474976710656) (ht:t.size≤281474976710656) (hc:CntTab w):
  Calls Tryz.prog 6 #[.string s,.string t,.int .i64 n] w fun e w'=>e=.returned (.bool true)∧Below w.heap.size w w':=by
 have HCT:=Lib.hid hc
 have HAW:=Lib.hid (show ∀w',Below w.heap.size w w'→Calls Tryz.prog 8 #[] w' fun e w''=>e=.returned (.bool true)∧Below w'.heap.size w' w'' from fun w' hb=>awake7_any w' (HCT.out.below hb))
 have HB0:=Lib.hid (Below.refl w.heap.size w)
 have e1:IntKind.i64.wrap ((s.size:Int)+(t.size:Int))=(s.size:Int)+(t.size:Int):=IntWalk.i64_in _ (by omega)
 clear hc
 by_cases hbig:2000<s.size+t.size
 ·have i1:(2000:Int)<(s.size:Int)+(t.size:Int):=by omega
  go_enter Tryz.func6,Tryz.ntmps6
  go_wp2_with (first
   |(go_at_call 8;(with_reducible refine(HAW.out _ HB0.out).mono ?_);rintro e w1 ⟨rfl,hb⟩;have HB1:=Lib.hid hb;clear hb)
   |fail)
  go_ret
  exact⟨rfl,HB1.out⟩
 ·have i1:¬(2000:Int)<(s.size:Int)+(t.size:Int):=by omega
  have hsz:s.size≤2000∧t.size≤2000:=by omega
  have HSZ:=Lib.hid (show s.size+t.size≤2000 from by omega)
  have HX:=Lib.hid (show ∀(u:ByteArray) (l:List UInt8) (a e:Nat) (T:Tr) (wx:World),u.data.toList=l→u.size≤281474976710656→exprP l=(T,a,e)→CntTab wx→Calls Tryz.prog 11 #[.string u] wx fun ed w'=>∃(A:Option Addr) (c:Nat) (l:List Ln) (r:Int),ed=.returned (.tuple #[.agg #[.slice A l.length c,.int .i64 r],.int .i64 (a:Int),.int .i64 (e:Int)])∧((⟨A,c,l,r⟩:Lt).tr=T∧l.length≤300000)∧TreeOwn w' (fun _=>True) ⟨A,c,l,r⟩∧Below wx.heap.size wx w' from fun u l a e T wx h1 h2 h3 hx=>by
   have h:=pexpr_any u wx h2 hx
   unfold PXPost at h
   rw[h1,h3]at h
   exact h.mono fun e w' ⟨⟨A,c,l,r⟩,h1,h2,h3,h4,h5⟩=>⟨A,c,l,r,h1,⟨h2,h3⟩,h4.mono (fun _ _ _=>trivial),h5⟩)
  have hsl:s.data.toList.length=s.size:=Array.length_toList
  have htl:t.data.toList.length=t.size:=Array.length_toList
  have HSL:=Lib.hid (And.intro hsl htl)
  generalize hls:s.data.toList=ls at *
  generalize hlt:t.data.toList=lt at *
  have HLS:=Lib.hid (And.intro hls hlt)
  clear hls hlt hsl htl hbig
  obtain⟨as',has⟩:∃a,(exprP ls).2.1=a:=⟨_,rfl⟩
  obtain⟨es,hes⟩:∃a,(exprP ls).2.2=a:=⟨_,rfl⟩
  obtain⟨at',hat⟩:∃a,(exprP lt).2.1=a:=⟨_,rfl⟩
  obtain⟨et,het⟩:∃a,(exprP lt).2.2=a:=⟨_,rfl⟩
  have HXS:=Lib.hid (show ∀wx,CntTab wx→_ from fun wx=>HX.out s ls as' es (exprP ls).1 wx HLS.out.1 hs (by rw[←has,←hes]))
  have HXT:=Lib.hid (show ∀wx,CntTab wx→_ from fun wx=>HX.out t lt at' et (exprP lt).1 wx HLS.out.2 ht (by rw[←hat,←het]))
  have HXE:=Lib.hid (show exprP ls=((exprP ls).1,as',es)from by rw[←has,←hes])
  have HES:=Lib.hid (And.intro hes het)
  clear has hes hat het
  go_enter Tryz.func6,Tryz.ntmps6
  go_upto_region 4 with(first
   |(go_at_call 8;(with_reducible refine(HAW.out _ HB0.out).mono ?_);rintro e w1 ⟨rfl,hb⟩;have HB1:=Lib.hid hb;clear hb)
   |(go_at_call 11;(with_reducible refine(HXS.out _ (HCT.out.below HB1.out)).mono ?_);rintro e w2 ⟨aA,ac,al,ar,rfl,h1,h3,h2⟩;have HA2:=Lib.hid (And.intro h1 h3);have HB2:=Lib.hid (Below.step HB1.out h2);clear h1 h2 h3)
   |fail)
  have hb3:=bx1 w2 (.cells #[.slice aA al.length ac,.int .i64 ar] 40)
  have HA3:=Lib.hid (HA2.out.2.below hb3)
  have HAT:=Lib.hid HA2.out.1
  have HKA3:=Lib.hid (bx_new w2 (.cells #[.slice aA al.length ac,.int .i64 ar] 40))
  have HB3:=Lib.hid (Below.step HB2.out hb3)
  clear hb3 HA2 HB2 HB1 HXS
  generalize (w2.alloc (.cells #[.slice aA al.length ac,.int .i64 ar] 40))=w3 at *
  generalize w2.heap.size=ga at *
  clear w2
  go_upto_region 5 with(first
   |(go_at_call 11;(with_reducible refine(HXT.out _ (HCT.out.below HB3.out)).mono ?_);rintro e w4 ⟨bA,bc,bl,br,rfl,h1,h3,h2⟩;have HP4:=Lib.hid (And.intro h1 h3);have HB34:=Lib.hid h2;clear h1 h2 h3)
   |fail)
  have hb5:=bx1 w4 (.cells #[.slice bA bl.length bc,.int .i64 br] 40)
  have hb35:=Below.step HB34.out hb5
  have HA:=Lib.hid (HA3.out.below hb35)
  have HP:=Lib.hid (HP4.out.2.below hb5)
  have HPT:=Lib.hid HP4.out.1
  have HKA:=Lib.hid (bx_kept hb35 HKA3.out)
  have HKP:=Lib.hid (bx_new w4 (.cells #[.slice bA bl.length bc,.int .i64 br] 40))
  have HBW:=Lib.hid (Below.step HB3.out hb35)
  clear hb5 hb35 HP4 HA3 HKA3 HB3 HB34 HXT
  generalize (w4.alloc (.cells #[.slice bA bl.length bc,.int .i64 br] 40))=W0 at *
  generalize w4.heap.size=gb at *
  clear w4
  by_cases he:es=0
  ·by_cases hf:et=0
   ·subst he hf
    obtain⟨m,hm,hmod⟩:=uint_rem n
    obtain⟨hC,x,y,fx,fy,ex,ey,mx,my,⟨pd,hD⟩,⟨px,hX⟩⟩:=brackets_p (s:=ls) (t:=lt) (n:=m) (by have:=HSL.out;have:=HSZ.out;omega) hm HES.out.1 HES.out.2
    have HFX:=Lib.hid (And.intro fx fy)
    have HEX:=Lib.hid (And.intro (HAT.out.1.trans ex) (HPT.out.1.trans ey))
    obtain⟨S,hS⟩:∃S,treeOf (makeTT (.mk seqN [makeTT x,makeTT y]))=S:=⟨_,rfl⟩
    obtain⟨O,hO⟩:∃S,treeOf (makeTT (.mk choN [makeTT x,makeTT y]))=S:=⟨_,rfl⟩
    rw[hS]at hD
    rw[hO]at hX
    have HSO:=Lib.hid (And.intro hS hO)
    have HC:=Lib.hid hC;have HD:=Lib.hid hD;have HXX:=Lib.hid hX
    have sz1:s.size+(⟨#[10]⟩:ByteArray).size≤9223372036854775807:=by have h:(⟨#[10]⟩:ByteArray).size=1:=rfl;rw[h];omega
    have sz2:t.size+(⟨#[10]⟩:ByteArray).size≤9223372036854775807:=by have h:(⟨#[10]⟩:ByteArray).size=1:=rfl;rw[h];omega
    clear hC hD hX ex ey mx my hS hO fx fy
    have r40:(⟨Array.replicate m 40⟩:ByteArray).size=m:=by simp[ByteArray.size]
    have r41:(⟨Array.replicate m 41⟩:ByteArray).size=m:=by simp[ByteArray.size]
    have s10:(s++⟨#[10]⟩:ByteArray).size=s.size+1:=by rw[ByteArray.size_append];rfl
    have t10:(t++⟨#[10]⟩:ByteArray).size=t.size+1:=by rw[ByteArray.size_append];rfl
    have sz3:(⟨Array.replicate m 40⟩:ByteArray).size+(s++⟨#[10]⟩:ByteArray).size≤9223372036854775807:=by rw[r40,s10];omega
    have sz4:(⟨Array.replicate m 40⟩++(s++⟨#[10]⟩):ByteArray).size+(⟨Array.replicate m 41⟩:ByteArray).size≤9223372036854775807:=by rw[ByteArray.size_append,r40,s10,r41];omega
    have hcl:(⟨Array.replicate m 40⟩++(s++⟨#[10]⟩)++⟨Array.replicate m 41⟩:ByteArray).data.toList=List.replicate m 40++(ls++10::List.replicate m 41):=by
     rw[←HLS.out.1,ByteArray.data_append,ByteArray.data_append,ByteArray.data_append,Array.toList_append,Array.toList_append,Array.toList_append,Array.toList_replicate,Array.toList_replicate,List.append_assoc,List.append_assoc];rfl
    have hcs:(⟨Array.replicate m 40⟩++(s++⟨#[10]⟩)++⟨Array.replicate m 41⟩:ByteArray).size≤281474976710656:=by rw[ByteArray.size_append,ByteArray.size_append,r40,s10,r41];omega
    generalize hu:(⟨Array.replicate m 40⟩++(s++⟨#[10]⟩)++⟨Array.replicate m 41⟩:ByteArray)=u at hcl hcs
    have HXC:=Lib.hid (show ∀wx,CntTab wx→_ from fun wx=>HX.out u _ as' 0 (exprP ls).1 wx hcl hcs (HC.out.trans HXE.out))
    subst hu
    clear hcl hcs
    have HMM:=Lib.hid (show ∀wx,Calls Tryz.prog 23 #[.string ⟨#[40]⟩,.int .i64 (m:Int)] wx _∧Calls Tryz.prog 23 #[.string ⟨#[41]⟩,.int .i64 (m:Int)] wx _ from fun wx=>⟨many_any 40 m (by omega) wx,many_any 41 m (by omega) wx⟩)
    clear r40 r41 s10 t10
    go_upto_region 10 with(first
     |(go_at_call 23;(with_reducible refine(HMM.out _).1.mono ?_);rintro e w5 ⟨rfl,hb⟩;have HB5:=Lib.hid hb;clear hb)
     |(go_at_call 23;(with_reducible refine(HMM.out _).2.mono ?_);rintro e w6 ⟨rfl,hb⟩;have HB6:=Lib.hid (Below.step HB5.out hb);clear hb)
     |(go_at_call 11;(with_reducible refine(HXC.out _ (HCT.out.below (Below.step HBW.out HB6.out))).mono ?_);rintro e w7 ⟨cA,cc,cl,cr,rfl,h1,h3,h2⟩;have HC7:=Lib.hid (And.intro h1 h3);have HB7:=Lib.hid (Below.step HB6.out h2);clear h1 h2 h3)
     |fail)
    have hb8:=bx1 w7 (.cells #[.slice cA cl.length cc,.int .i64 cr] 40)
    have hb:=Below.step HB7.out hb8
    have HA8:=Lib.hid (HA.out.below hb)
    have HP8:=Lib.hid (HP.out.below hb)
    have HCO:=Lib.hid (HC7.out.2.below hb8)
    have HCE:=Lib.hid HC7.out.1
    have HKA8:=Lib.hid (bx_kept hb HKA.out)
    have HKP8:=Lib.hid (bx_kept hb HKP.out)
    have HKC8:=Lib.hid (bx_new w7 (.cells #[.slice cA cl.length cc,.int .i64 cr] 40))
    have HBW8:=Lib.hid (Below.step HBW.out hb)
    clear hb hb8 HA HP HKA HKP HBW HC7 HB5 HB6 HB7 HMM HXC sz3 sz4
    generalize (w7.alloc (.cells #[.slice cA cl.length cc,.int .i64 cr] 40))=w8 at *
    generalize w7.heap.size=gc at *
    obtain⟨p1,p2,p3,p4⟩:=blk2 HKA8.out
    obtain⟨p5,p6,p7,p8⟩:=blk2 HKP8.out
    have hsame:rightT S=true∧rightT O=true:=⟨by rw[←HSO.out.1];exact(rightT_iff _).2 (right_treeOf (make_ok (fit_pair seqN (.inl rfl) (make_ok HFX.out.1).1 (make_ok HFX.out.2).1)).1),by rw[←HSO.out.2];exact(rightT_iff _).2 (right_treeOf (make_ok (fit_pair choN (.inr rfl) (make_ok HFX.out.1).1 (make_ok HFX.out.2).1)).1)⟩
    have HRT:=Lib.hid hsame
    have HRA:=Lib.hid (show rightT (exprP ls).1=true from by rw[←HAT.out.1,HEX.out.1];exact(rightT_iff _).2 (right_treeOf (make_ok HFX.out.1).1))
    clear hsame
    have hbn:=bx1 w8 (.cells #[.slice aA al.length ac,.int .i64 ar,.slice bA bl.length bc,.int .i64 br] 40)
    have HSQ:=Lib.hid (seq_two _ 2 ⟨aA,ac,al,ar⟩ ⟨bA,bc,bl,br⟩ (makeTT x) (makeTT y) _ (pair_row (bx_new w8 (.cells #[.slice aA al.length ac,.int .i64 ar,.slice bA bl.length bc,.int .i64 br] 40)) (HA8.out.below hbn) (HP8.out.below hbn)) HEX.out.1 HEX.out.2 (make_ok HFX.out.1).1 (make_ok HFX.out.2).1 HAT.out.2 HPT.out.2 (HCT.out.below (Below.step HBW8.out hbn)))
    rw[HSO.out.1]at HSQ
    have HBN:=Lib.hid hbn
    clear hbn
    go_upto_region 11 with(first
     |(go_at_call 24;(with_reducible refine HSQ.out.mono ?_);rintro e w9 ⟨⟨dA,dc,dl,dr⟩,rfl,h2,h3,h4⟩;have HS9:=Lib.hid h2;have HSO9:=Lib.hid h3;have HB89:=Lib.hid (Below.step HBN.out h4);clear h2 h3 h4)
     |fail)
    have hb10:=bx1 w9 (.cells #[.slice dA dl.length dc,.int .i64 dr] 40)
    have hb:=Below.step HB89.out hb10
    have HA10:=Lib.hid (HA8.out.below hb)
    have HP10:=Lib.hid (HP8.out.below hb)
    have HC10:=Lib.hid (HCO.out.below hb)
    have HS10:=Lib.hid ((HSO9.out.below hb10).mono (fun _ _ _=>trivial):TreeOwn _ (fun _=>True) _)
    have HKA10:=Lib.hid (bx_kept hb HKA8.out)
    have HKP10:=Lib.hid (bx_kept hb HKP8.out)
    have HKC10:=Lib.hid (bx_kept hb HKC8.out)
    have HKS10:=Lib.hid (bx_new w9 (.cells #[.slice dA dl.length dc,.int .i64 dr] 40))
    have HBW10:=Lib.hid (Below.step HBW8.out hb)
    clear hb hb10 HA8 HP8 HCO HSO9 HKA8 HKP8 HKC8 HBW8 HB89 HBN HSQ p1 p2 p3 p4 p5 p6 p7 p8
    generalize (w9.alloc (.cells #[.slice dA dl.length dc,.int .i64 dr] 40))=w10 at *
    generalize w9.heap.size=gd at *
    obtain⟨p1,p2,p3,p4⟩:=blk2 HKA10.out
    obtain⟨p5,p6,p7,p8⟩:=blk2 HKP10.out
    have hbn:=bx1 w10 (.cells #[.slice aA al.length ac,.int .i64 ar,.slice bA bl.length bc,.int .i64 br] 40)
    have HSQ:=Lib.hid (choice_two _ 2 ⟨aA,ac,al,ar⟩ ⟨bA,bc,bl,br⟩ (makeTT x) (makeTT y) _ (pair_row (bx_new w10 (.cells #[.slice aA al.length ac,.int .i64 ar,.slice bA bl.length bc,.int .i64 br] 40)) (HA10.out.below hbn) (HP10.out.below hbn)) HEX.out.1 HEX.out.2 (make_ok HFX.out.1).1 (make_ok HFX.out.2).1 HAT.out.2 HPT.out.2 (HCT.out.below (Below.step HBW10.out hbn)))
    rw[HSO.out.2]at HSQ
    have HBN:=Lib.hid hbn
    clear hbn
    go_upto_region 12 with(first
     |(go_at_call 25;(with_reducible refine HSQ.out.mono ?_);rintro e w11 ⟨⟨oA,oc,ol,or⟩,rfl,h2,h3,h4⟩;have HO11:=Lib.hid h2;have HOO11:=Lib.hid h3;have HB1011:=Lib.hid (Below.step HBN.out h4);clear h2 h3 h4)
     |fail)
    have hb12:=bx1 w11 (.cells #[.slice oA ol.length oc,.int .i64 or] 40)
    have hb:=Below.step HB1011.out hb12
    have HA:=Lib.hid (HA10.out.below hb)
    have HC2:=Lib.hid (HC10.out.below hb)
    have HSW:=Lib.hid (HS10.out.below hb)
    have HOW:=Lib.hid ((HOO11.out.below hb12).mono (fun _ _ _=>trivial):TreeOwn _ (fun _=>True) _)
    have HKA:=Lib.hid (bx_kept hb HKA10.out)
    have HKC:=Lib.hid (bx_kept hb HKC10.out)
    have HKS:=Lib.hid (bx_kept hb HKS10.out)
    have HKO:=Lib.hid (bx_new w11 (.cells #[.slice oA ol.length oc,.int .i64 or] 40))
    have HBW:=Lib.hid (Below.step HBW10.out hb)
    clear hb hb12 HA10 HP10 HC10 HS10 HOO11 HKA10 HKP10 HKC10 HKS10 HBW10 HB1011 HBN HSQ p1 p2 p3 p4 p5 p6 p7 p8
    generalize (w11.alloc (.cells #[.slice oA ol.length oc,.int .i64 or] 40))=w12 at *
    generalize w11.heap.size=go at *
    obtain⟨p1,p2,_,_⟩:=blk2 HKA.out
    obtain⟨p5,p6,_,_⟩:=blk2 HKC.out
    have HSM:=Lib.hid (show Calls Tryz.prog 12 #[.agg #[.slice cA cl.length cc,.int .i64 cr],.agg #[.slice aA al.length ac,.int .i64 ar]] w12 fun e w'=>e=.returned (.bool true)∧Below w12.heap.size w12 w' from by
     have h3:=tsame_any cA aA cc ac cl al cr ar _ _ w12 HC2.out.inn.2 HA.out.inn.2 (by have:=HCE.out.2;omega) (by have:=HAT.out.2;omega) (HCT.out.below HBW.out)
     have e:sameT ⟨cl.map Ln.nd,cr⟩ ⟨al.map Ln.nd,ar⟩=true:=by
      have e1:(⟨cl.map Ln.nd,cr⟩:Tr)=_:=HCE.out.1
      have e2:(⟨al.map Ln.nd,ar⟩:Tr)=_:=HAT.out.1
      rw[e1,e2];exact sameT_reflB HRA.out
     rw[e]at h3;exact h3)
    go_upto_region 14 with(first
     |(go_at_call 12;(with_reducible refine HSM.out.mono ?_);rintro e w13 ⟨rfl,hb⟩;have HB13:=Lib.hid hb;clear hb)
     |fail)
    have HSW3:=Lib.hid (HSW.out.below HB13.out)
    have HOW3:=Lib.hid (HOW.out.below HB13.out)
    have HKS3:=Lib.hid (bx_kept HB13.out HKS.out)
    have HKO3:=Lib.hid (bx_kept HB13.out HKO.out)
    have HBW3:=Lib.hid (Below.step HBW.out HB13.out)
    clear p1 p2 p5 p6 HSM HA HC2 HSW HOW HKA HKC HKS HKO HBW HB13
    obtain⟨TD,aD,eD,hD,HDC⟩:=if_cases HD.out
    obtain⟨TX,aX,eX,hX,HXC⟩:=if_cases HXX.out
    have q40:(⟨#[40]⟩:ByteArray).size=1:=rfl
    have q41:(⟨#[41]⟩:ByteArray).size=1:=rfl
    have q47:(⟨#[47]⟩:ByteArray).size=1:=rfl
    have q10:(⟨#[10]⟩:ByteArray).size=1:=rfl
    have q42:(⟨#[41,40]⟩:ByteArray).size=2:=rfl
    have z1:(⟨#[40]⟩:ByteArray).size+(s++⟨#[10]⟩:ByteArray).size≤9223372036854775807:=by simp only[ByteArray.size_append,q40,q10];omega
    have z2:(⟨#[40]⟩++(s++⟨#[10]⟩):ByteArray).size+(⟨#[41,40]⟩:ByteArray).size≤9223372036854775807:=by simp only[ByteArray.size_append,q40,q10,q42];omega
    have z3:(⟨#[40]⟩++(s++⟨#[10]⟩)++⟨#[41,40]⟩:ByteArray).size+(t++⟨#[10]⟩:ByteArray).size≤9223372036854775807:=by simp only[ByteArray.size_append,q40,q10,q42];omega
    have z4:(⟨#[40]⟩++(s++⟨#[10]⟩)++⟨#[41,40]⟩++(t++⟨#[10]⟩):ByteArray).size+(⟨#[41]⟩:ByteArray).size≤9223372036854775807:=by simp only[ByteArray.size_append,q40,q10,q42,q41];omega
    have z5:(s++⟨#[10]⟩:ByteArray).size+(⟨#[47]⟩:ByteArray).size≤9223372036854775807:=by simp only[ByteArray.size_append,q10,q47];omega
    have z6:(s++⟨#[10]⟩++⟨#[47]⟩:ByteArray).size+(t++⟨#[10]⟩:ByteArray).size≤9223372036854775807:=by simp only[ByteArray.size_append,q10,q47];omega
    have hdl:(⟨#[40]⟩++(s++⟨#[10]⟩)++⟨#[41,40]⟩++(t++⟨#[10]⟩)++⟨#[41]⟩:ByteArray).data.toList=40::(ls++10::41::40::(lt++10::[41])):=by
     simp only[ByteArray.data_append,Array.toList_append,HLS.out.1,HLS.out.2,List.append_assoc];rfl
    have hxl:(s++⟨#[10]⟩++⟨#[47]⟩++(t++⟨#[10]⟩):ByteArray).data.toList=ls++10::47::(lt++10::[]):=by
     simp only[ByteArray.data_append,Array.toList_append,HLS.out.1,HLS.out.2,List.append_assoc];rfl
    have hds:(⟨#[40]⟩++(s++⟨#[10]⟩)++⟨#[41,40]⟩++(t++⟨#[10]⟩)++⟨#[41]⟩:ByteArray).size≤281474976710656:=by simp only[ByteArray.size_append,q40,q10,q42,q41];omega
    have hxs:(s++⟨#[10]⟩++⟨#[47]⟩++(t++⟨#[10]⟩):ByteArray).size≤281474976710656:=by simp only[ByteArray.size_append,q10,q47];omega
    clear q40 q41 q47 q10 q42
    generalize hu:(⟨#[40]⟩++(s++⟨#[10]⟩)++⟨#[41,40]⟩++(t++⟨#[10]⟩)++⟨#[41]⟩:ByteArray)=u at hdl hds
    have HXD:=Lib.hid (show ∀wx,CntTab wx→_ from fun wx=>HX.out u _ aD eD TD wx hdl hds hD)
    subst hu
    generalize hu:(s++⟨#[10]⟩++⟨#[47]⟩++(t++⟨#[10]⟩):ByteArray)=u at hxl hxs
    have HXY:=Lib.hid (show ∀wx,CntTab wx→_ from fun wx=>HX.out u _ aX eX TX wx hxl hxs hX)
    subst hu
    clear hdl hxl hds hxs hD hX
    have HDC:=Lib.hid HDC
    have HXC:=Lib.hid HXC
    go_upto_region 15 with(first
     |(go_at_call 11;(with_reducible refine(HXD.out _ (HCT.out.below HBW3.out)).mono ?_);rintro e w14 ⟨eA,ec,el,er,rfl,h1,h3,h2⟩;have HD14:=Lib.hid (And.intro h1 h3);have HB14:=Lib.hid h2;clear h1 h2 h3)
     |fail)
    have hb15:=bx1 w14 (.cells #[.slice eA el.length ec,.int .i64 er] 40)
    have hb:=Below.step HB14.out hb15
    have HSW5:=Lib.hid (HSW3.out.below hb)
    have HOW5:=Lib.hid (HOW3.out.below hb)
    have HDW5:=Lib.hid (HD14.out.2.below hb15)
    have HDE:=Lib.hid HD14.out.1
    have HKS5:=Lib.hid (bx_kept hb HKS3.out)
    have HKO5:=Lib.hid (bx_kept hb HKO3.out)
    have HKD5:=Lib.hid (bx_new w14 (.cells #[.slice eA el.length ec,.int .i64 er] 40))
    have HBW5:=Lib.hid (Below.step HBW3.out hb)
    clear hb hb15 HSW3 HOW3 HD14 HKS3 HKO3 HBW3 HB14 HXD z1 z2 z3 z4
    generalize (w14.alloc (.cells #[.slice eA el.length ec,.int .i64 er] 40))=w15 at *
    generalize w14.heap.size=ge at *
    go_upto_region 16 with(first
     |(go_at_call 11;(with_reducible refine(HXY.out _ (HCT.out.below HBW5.out)).mono ?_);rintro e w16 ⟨fA,fc,fl,fr,rfl,h1,h3,h2⟩;have HX16:=Lib.hid (And.intro h1 h3);have HB16:=Lib.hid h2;clear h1 h2 h3)
     |fail)
    have hb17:=bx1 w16 (.cells #[.slice fA fl.length fc,.int .i64 fr] 40)
    have hb:=Below.step HB16.out hb17
    have HSW7:=Lib.hid (HSW5.out.below hb)
    have HOW7:=Lib.hid (HOW5.out.below hb)
    have HDW7:=Lib.hid (HDW5.out.below hb)
    have HXW7:=Lib.hid (HX16.out.2.below hb17)
    have HXE:=Lib.hid HX16.out.1
    have HKS7:=Lib.hid (bx_kept hb HKS5.out)
    have HKO7:=Lib.hid (bx_kept hb HKO5.out)
    have HKD7:=Lib.hid (bx_kept hb HKD5.out)
    have HKX7:=Lib.hid (bx_new w16 (.cells #[.slice fA fl.length fc,.int .i64 fr] 40))
    have HBW7:=Lib.hid (Below.step HBW5.out hb)
    clear hb hb17 HSW5 HOW5 HDW5 HX16 HKS5 HKO5 HKD5 HBW5 HB16 HXY z5 z6
    generalize (w16.alloc (.cells #[.slice fA fl.length fc,.int .i64 fr] 40))=w17 at *
    generalize w16.heap.size=gf at *
    have HCL:=Lib.hid (show ∀wx,Below w17.heap.size w17 wx→(wx.cell? ⟨gd,0,none⟩=some (.slice dA dl.length dc)∧wx.cell? ⟨gd,1,none⟩=some (.int .i64 dr))∧(wx.cell? ⟨go,0,none⟩=some (.slice oA ol.length oc)∧wx.cell? ⟨go,1,none⟩=some (.int .i64 or))∧(wx.cell? ⟨ge,0,none⟩=some (.slice eA el.length ec)∧wx.cell? ⟨ge,1,none⟩=some (.int .i64 er))∧wx.cell? ⟨gf,0,none⟩=some (.slice fA fl.length fc)∧wx.cell? ⟨gf,1,none⟩=some (.int .i64 fr)from fun wx hb=>by
     have h1:=blk2 (bx_kept hb HKS7.out)
     have h2:=blk2 (bx_kept hb HKO7.out)
     have h3:=blk2 (bx_kept hb HKD7.out)
     have h4:=blk2 (bx_kept hb HKX7.out)
     exact⟨⟨h1.1,h1.2.1⟩,⟨h2.1,h2.2.1⟩,⟨h3.1,h3.2.1⟩,h4.1,h4.2.1⟩)
    have HMS:=Lib.hid (show ∀wx,Below w17.heap.size w17 wx→Calls Tryz.prog 21 #[.agg #[.slice dA dl.length dc,.int .i64 dr]] wx fun e w'=>e=.returned (.bool (mayT S))∧Below wx.heap.size wx w' from fun wx hb=>by
     have h1:=tmay_any ⟨dA,dc,dl,dr⟩ _ wx (HSW7.out.inn.below hb) (by have:=HS9.out.2;show dl.length≤_;omega) (HCT.out.below (Below.step HBW7.out hb))
     rw[HS9.out.1]at h1;exact h1)
    have HMO:=Lib.hid (show ∀wx,Below w17.heap.size w17 wx→Calls Tryz.prog 21 #[.agg #[.slice oA ol.length oc,.int .i64 or]] wx fun e w'=>e=.returned (.bool (mayT O))∧Below wx.heap.size wx w' from fun wx hb=>by
     have h1:=tmay_any ⟨oA,oc,ol,or⟩ _ wx (HOW7.out.inn.below hb) (by have:=HO11.out.2;show ol.length≤_;omega) (HCT.out.below (Below.step HBW7.out hb))
     rw[HO11.out.1]at h1;exact h1)
    have HSS:=Lib.hid (show TD=S→ ∀wx,Below w17.heap.size w17 wx→Calls Tryz.prog 12 #[.agg #[.slice eA el.length ec,.int .i64 er],.agg #[.slice dA dl.length dc,.int .i64 dr]] wx fun e w'=>e=.returned (.bool true)∧Below wx.heap.size wx w' from fun hts wx hb=>by
     have h3:=tsame_any eA dA ec dc el dl er dr _ _ wx (HDW7.out.inn.below hb).2 (HSW7.out.inn.below hb).2 (by have:=HDE.out.2;omega) (by have:=HS9.out.2;omega) (HCT.out.below (Below.step HBW7.out hb))
     have e:sameT ⟨el.map Ln.nd,er⟩ ⟨dl.map Ln.nd,dr⟩=true:=by
      have e1:(⟨el.map Ln.nd,er⟩:Tr)=TD:=HDE.out.1
      have e2:(⟨dl.map Ln.nd,dr⟩:Tr)=S:=HS9.out.1
      rw[e1,e2,hts];exact sameT_reflB HRT.out.1
     rw[e]at h3;exact h3)
    have HSX:=Lib.hid (show TX=O→ ∀wx,Below w17.heap.size w17 wx→Calls Tryz.prog 12 #[.agg #[.slice fA fl.length fc,.int .i64 fr],.agg #[.slice oA ol.length oc,.int .i64 or]] wx fun e w'=>e=.returned (.bool true)∧Below wx.heap.size wx w' from fun hts wx hb=>by
     have h3:=tsame_any fA oA fc oc fl ol fr or _ _ wx (HXW7.out.inn.below hb).2 (HOW7.out.inn.below hb).2 (by have:=HXE.out.2;omega) (by have:=HO11.out.2;omega) (HCT.out.below (Below.step HBW7.out hb))
     have e:sameT ⟨fl.map Ln.nd,fr⟩ ⟨ol.map Ln.nd,or⟩=true:=by
      have e1:(⟨fl.map Ln.nd,fr⟩:Tr)=TX:=HXE.out.1
      have e2:(⟨ol.map Ln.nd,or⟩:Tr)=O:=HO11.out.1
      rw[e1,e2,hts];exact sameT_reflB HRT.out.2
     rw[e]at h3;exact h3)
    clear HSW7 HOW7 HDW7 HXW7 HKS7 HKO7 HKD7 HKX7 HX HC HD HXX HAT HPT HEX HFX HS9 HO11 HDE HXE HRT HRA HSO HCE
    have HB:=Lib.hid (Below.refl w17.heap.size w17)
    rcases HDC.out with⟨m1,k1,rfl⟩|⟨m1,rfl⟩
    ·rcases HXC.out with⟨m2,k3,rfl⟩|⟨m2,rfl⟩
     ·rw[m1]at HMS
      rw[m2]at HMO
      clear m1 m2
      have HSS:=Lib.hid (HSS.out k1)
      clear k1
      have HSX:=Lib.hid (HSX.out k3)
      clear k3
      obtain⟨⟨p1,p2⟩,⟨p3,p4⟩,⟨p5,p6⟩,p7,p8⟩:=HCL.out _ HB.out
      go_wp2_with (first
       |(go_at_call 21;(with_reducible refine(HMS.out _ HB.out).mono ?_);rintro e wx ⟨rfl,hb⟩;have HB':=Lib.hid (Below.step HB.out hb);clear HB;have HB:=HB';clear HB' hb p1 p2 p3 p4 p5 p6 p7 p8;obtain⟨⟨p1,p2⟩,⟨p3,p4⟩,⟨p5,p6⟩,p7,p8⟩:=HCL.out _ HB.out)
       |(go_at_call 21;(with_reducible refine(HMO.out _ HB.out).mono ?_);rintro e wx ⟨rfl,hb⟩;have HB':=Lib.hid (Below.step HB.out hb);clear HB;have HB:=HB';clear HB' hb p1 p2 p3 p4 p5 p6 p7 p8;obtain⟨⟨p1,p2⟩,⟨p3,p4⟩,⟨p5,p6⟩,p7,p8⟩:=HCL.out _ HB.out)
       |(go_at_call 12;(with_reducible refine(HSS.out _ HB.out).mono ?_);rintro e wx ⟨rfl,hb⟩;have HB':=Lib.hid (Below.step HB.out hb);clear HB;have HB:=HB';clear HB' hb p1 p2 p3 p4 p5 p6 p7 p8;obtain⟨⟨p1,p2⟩,⟨p3,p4⟩,⟨p5,p6⟩,p7,p8⟩:=HCL.out _ HB.out)
       |(go_at_call 12;(with_reducible refine(HSX.out _ HB.out).mono ?_);rintro e wx ⟨rfl,hb⟩;have HB':=Lib.hid (Below.step HB.out hb);clear HB;have HB:=HB';clear HB' hb p1 p2 p3 p4 p5 p6 p7 p8;obtain⟨⟨p1,p2⟩,⟨p3,p4⟩,⟨p5,p6⟩,p7,p8⟩:=HCL.out _ HB.out)
       |fail)
      go_ret
      exact⟨rfl,Below.step HBW7.out HB.out⟩
     ·rw[m1]at HMS
      rw[m2]at HMO
      clear m1 m2
      have HSS:=Lib.hid (HSS.out k1)
      clear k1
      obtain⟨⟨p1,p2⟩,⟨p3,p4⟩,⟨p5,p6⟩,p7,p8⟩:=HCL.out _ HB.out
      go_wp2_with (first
       |(go_at_call 21;(with_reducible refine(HMS.out _ HB.out).mono ?_);rintro e wx ⟨rfl,hb⟩;have HB':=Lib.hid (Below.step HB.out hb);clear HB;have HB:=HB';clear HB' hb p1 p2 p3 p4 p5 p6 p7 p8;obtain⟨⟨p1,p2⟩,⟨p3,p4⟩,⟨p5,p6⟩,p7,p8⟩:=HCL.out _ HB.out)
       |(go_at_call 21;(with_reducible refine(HMO.out _ HB.out).mono ?_);rintro e wx ⟨rfl,hb⟩;have HB':=Lib.hid (Below.step HB.out hb);clear HB;have HB:=HB';clear HB' hb p1 p2 p3 p4 p5 p6 p7 p8;obtain⟨⟨p1,p2⟩,⟨p3,p4⟩,⟨p5,p6⟩,p7,p8⟩:=HCL.out _ HB.out)
       |(go_at_call 12;(with_reducible refine(HSS.out _ HB.out).mono ?_);rintro e wx ⟨rfl,hb⟩;have HB':=Lib.hid (Below.step HB.out hb);clear HB;have HB:=HB';clear HB' hb p1 p2 p3 p4 p5 p6 p7 p8;obtain⟨⟨p1,p2⟩,⟨p3,p4⟩,⟨p5,p6⟩,p7,p8⟩:=HCL.out _ HB.out)
       |fail)
      go_ret
      exact⟨rfl,Below.step HBW7.out HB.out⟩
    ·rcases HXC.out with⟨m2,k3,rfl⟩|⟨m2,rfl⟩
     ·rw[m1]at HMS
      rw[m2]at HMO
      clear m1 m2
      have HSX:=Lib.hid (HSX.out k3)
      clear k3
      obtain⟨⟨p1,p2⟩,⟨p3,p4⟩,⟨p5,p6⟩,p7,p8⟩:=HCL.out _ HB.out
      go_wp2_with (first
       |(go_at_call 21;(with_reducible refine(HMS.out _ HB.out).mono ?_);rintro e wx ⟨rfl,hb⟩;have HB':=Lib.hid (Below.step HB.out hb);clear HB;have HB:=HB';clear HB' hb p1 p2 p3 p4 p5 p6 p7 p8;obtain⟨⟨p1,p2⟩,⟨p3,p4⟩,⟨p5,p6⟩,p7,p8⟩:=HCL.out _ HB.out)
       |(go_at_call 21;(with_reducible refine(HMO.out _ HB.out).mono ?_);rintro e wx ⟨rfl,hb⟩;have HB':=Lib.hid (Below.step HB.out hb);clear HB;have HB:=HB';clear HB' hb p1 p2 p3 p4 p5 p6 p7 p8;obtain⟨⟨p1,p2⟩,⟨p3,p4⟩,⟨p5,p6⟩,p7,p8⟩:=HCL.out _ HB.out)
       |(go_at_call 12;(with_reducible refine(HSX.out _ HB.out).mono ?_);rintro e wx ⟨rfl,hb⟩;have HB':=Lib.hid (Below.step HB.out hb);clear HB;have HB:=HB';clear HB' hb p1 p2 p3 p4 p5 p6 p7 p8;obtain⟨⟨p1,p2⟩,⟨p3,p4⟩,⟨p5,p6⟩,p7,p8⟩:=HCL.out _ HB.out)
       |fail)
      go_ret
      exact⟨rfl,Below.step HBW7.out HB.out⟩
     ·rw[m1]at HMS
      rw[m2]at HMO
      clear m1 m2
      obtain⟨⟨p1,p2⟩,⟨p3,p4⟩,⟨p5,p6⟩,p7,p8⟩:=HCL.out _ HB.out
      go_wp2_with (first
       |(go_at_call 21;(with_reducible refine(HMS.out _ HB.out).mono ?_);rintro e wx ⟨rfl,hb⟩;have HB':=Lib.hid (Below.step HB.out hb);clear HB;have HB:=HB';clear HB' hb p1 p2 p3 p4 p5 p6 p7 p8;obtain⟨⟨p1,p2⟩,⟨p3,p4⟩,⟨p5,p6⟩,p7,p8⟩:=HCL.out _ HB.out)
       |(go_at_call 21;(with_reducible refine(HMO.out _ HB.out).mono ?_);rintro e wx ⟨rfl,hb⟩;have HB':=Lib.hid (Below.step HB.out hb);clear HB;have HB:=HB';clear HB' hb p1 p2 p3 p4 p5 p6 p7 p8;obtain⟨⟨p1,p2⟩,⟨p3,p4⟩,⟨p5,p6⟩,p7,p8⟩:=HCL.out _ HB.out)
       |fail)
      go_ret
      exact⟨rfl,Below.step HBW7.out HB.out⟩
   ·have i2:((et:Int)==0)=false:=by rw[beq_eq_false_iff_ne];omega
    subst he
    go_wp2_with fail
    go_ret
    exact⟨rfl,HBW.out⟩
  ·have i2:((es:Int)==0)=false:=by rw[beq_eq_false_iff_ne];omega
   go_wp2_with fail
   go_ret
   exact⟨rfl,HBW.out⟩
end Go.Proofs.YtpfokabdpmjobaaGreatDoor
