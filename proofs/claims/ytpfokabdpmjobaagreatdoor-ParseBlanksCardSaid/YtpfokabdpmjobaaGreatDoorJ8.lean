/- A tree that is right is the same as itself. The contract of parse.Expr. Plain: the law of ParseBlanks. The walk of ParseBlanks. -/
import Derived.Test.YtpfokabdpmjobaaGreatDoorDa
import Derived.Test.YtpfokabdpmjobaaGreatDoorJ4
import Derived.Deep.RegionHeld3
import Derived.Deep.DeepCutAuto
import Derived.Deep.Cut
import Derived.Deep.CutRange
import Derived.Test.YtpfokabdpmjobaaGreatDoorJk
namespace Go.Proofs.YtpfokabdpmjobaaGreatDoor
theorem sameT_reflB {a:Tr} (h:rightT a=true):sameT a a=true:=by
 simp only[sameT,Bool.and_eq_true,decide_eq_true_eq]
 exact⟨⟨h,h⟩,trivial⟩
end Go.Proofs.YtpfokabdpmjobaaGreatDoor
namespace Go.Proofs.YtpfokabdpmjobaaGreatDoor
open Go.RowKit
set_option linter.unusedSimpArgs false
set_option linter.unusedVariables false
def PXPost (s:List UInt8) (w:World) (e:Ending) (w':World):Prop:=
 ∃v:Lt,e=.returned (.tuple #[.agg #[.slice v.A v.ls.length v.c,.int .i64 v.root],.int .i64 ((exprP s).2.1:Int),.int .i64 ((exprP s).2.2:Int)])∧v.tr=(exprP s).1∧v.ls.length≤300000∧TreeOwn w' (w.heap.size ≤ ·) v∧Below w.heap.size w w'
theorem px_none {s:List UInt8} {w w2:World} {a e0:Nat} (hx:exprP s=(⟨[],0⟩,a,e0)) (hb:Below w.heap.size w w2):PXPost s w (.returned (.tuple #[.agg #[.slice none 0 0,.int .i64 0],.int .i64 (a:Int),.int .i64 (e0:Int)])) w2:=by
 refine⟨⟨none,0,[],0⟩,by rw[hx];rfl,by rw[hx];rfl,by simp,⟨by simp,⟨World.ownsRow_nil _ _ _ _,fun k hk=>(by cases hk)⟩,fun l hl=>(by cases hl)⟩,hb⟩
theorem RdM.aside {D:Ow→Prop} {w w':World} {B H:Nat} {f:Nat→Ow} {R:Rd} (h:RdM D w B f H R) (hk:R.keep=[]) (hs:w.heap.size≤w'.heap.size) (hb:∀k,B≤k→w'.heap[k]?=w.heap[k]?):∃f',RdM D w' B f' H R:=by
 have key:∀{o:Ow} {e:TypeId} {size n c:Nat} {V:Option Addr} {xs:List Value},OwnF w B f o e size V n c xs→OwnF w B (fun k=>if k<B then .tmp else f k) o e size V n c xs:=fun h=>⟨h.1,fun k hk=>by
  show(if k<B then Ow.tmp else f k)=_
  rw[if_neg (by have:=(own_blk h.1 k hk).1;omega)];exact h.2 k hk⟩
 have h1:RdM D w B (fun k=>if k<B then .tmp else f k) H R:=fun o ho=>by
  have h0:=h o ho
  cases o with
  |out=>exact fun p hp=>by rw[hk]at hp;cases hp
  |tmp=>trivial
  |box=>exact⟨h0.1,h0.2.1,by show(if H<B then Ow.tmp else f H)=_;rw[if_neg (by have:=h0.2.1;omega)];exact h0.2.2⟩
  |words=>exact key h0
  |nodes=>exact key h0
  |kids=>exact fun l hl=>⟨(h0 l hl).1,key (h0 l hl).2⟩
  |list=>exact key h0
  |ways j=>exact fun hj=>key (h0 hj)
  |parts j=>exact fun hj=>key (h0 hj)
  |heads j=>exact fun hj=>key (h0 hj)
  |defs=>exact key h0
  |body j=>exact fun hj=>⟨(h0 hj).1,(h0 hj).2.mono fun k _ hk=>⟨by show(if k<B then Ow.tmp else f k)=_;rw[if_neg (by have:=hk.2;omega)];exact hk.1,hk.2⟩⟩
  |names=>exact key h0
  |calls=>exact key h0
 have K:KeepF (fun o=>o=.tmp) (fun k=>if k<B then .tmp else f k) (fun k=>if k<B then .tmp else f k) w w':=⟨hs,fun k _ hn=>hb k (by
  rcases Nat.lt_or_ge k B with h|h
  ·exact absurd (by show(if k<B then Ow.tmp else f k)=.tmp;rw[if_pos h]) hn
  ·exact h),fun _ _=>rfl⟩
 refine⟨fun k=>if k<B then .tmp else f k,fun o ho=> ?_⟩
 by_cases e:o=.tmp
 ·subst e;trivial
 ·exact(h1 o ho).keep K e
set_option maxRecDepth 100000 in
set_option maxHeartbeats 6400000 in
theorem pexpr_any (s:ByteArray) (w:World) (hs:s.size≤281474976710656) (ht:CntTab w):Calls Tryz.prog 11 #[.string s] w (PXPost s.data.toList w):=by
 have HB0:=Lib.hid (bx1 w (.cells #[.slice none 0 0,.int .i64 0] 40))
 have HZ0:=Lib.hid (bx_new w (.cells #[.slice none 0 0,.int .i64 0] 40))
 have HSZ:=Lib.hid (show(w.alloc (.cells #[.slice none 0 0,.int .i64 0] 40)).heap.size=w.heap.size+1 from by simp)
 have HBG:=Lib.hid (begun_any s (w.alloc (.cells #[.slice none 0 0,.int .i64 0] 40)) hs)
 have HCT:=Lib.hid (ht.below HB0.out)
 have HCW:=Lib.hid ht
 unfold BegunPost at HBG
 generalize hl:s.data.toList=l at *
 clear hl ht hs
 have HAL:=Lib.hid (begun_all l)
 obtain⟨er,her⟩:∃er,(begunW l).2.2=er:=⟨_,rfl⟩
 have h3:er=0∨er=4∨er=40:=by
  rw[←her]
  rcases begun_three l with⟨_,h⟩|⟨_,_,_,h⟩|⟨_,h,_⟩ <;> rw[h] <;> simp
 rw[her]at HBG
 have HER:=Lib.hid her
 clear her
 by_cases h40:er=40
 ·subst h40
  clear h3
  have HX:=Lib.hid (show exprP l=(⟨[],0⟩,(begunW l).2.1,40)from by unfold exprP;rw[if_pos HER.out])
  go_enter Tryz.func11,Tryz.ntmps11
  go_upto_region 1 with(fail)
  generalize (w.alloc (.cells #[.slice none 0 0,.int .i64 0] 40))=W0 at *
  go_upto_region 3 with(first
   |(go_at_call 40;(with_reducible refine HBG.out.mono ?_);rintro e w1 ⟨R,f,H,rfl,k1,k2,k3⟩;have HR:=Lib.hid k1;have HN:=Lib.hid k2;have HB1:=Lib.hid k3;clear k1 k2 k3)
   |fail)
  have HK:=Lib.hid (bx_kept HB1.out HZ0.out)
  have HBW:=Lib.hid (HB0.out.trans (HB1.out.mono (by have:=HSZ.out;omega)))
  obtain⟨_,p1,_,_,_,_,_,_,pf⟩:=blk8 (HR.out.box (fun h=>h))
  obtain⟨q0,q1,qf⟩:=blk2 HK.out
  have hltk:=heap_lt' HK.out
  rw[HN.out.fin]at p1
  have hH:¬H=w.heap.size:=by have h1:=(HR.out .box (fun h=>h)).2.1;have h2:=HSZ.out;omega
  have hH2:¬w.heap.size=H:=fun e=>hH e.symm
  go_region
  all_goals
   have hz:((w1.setCell ⟨w.heap.size,0,none⟩ (.slice none 0 0)).setCell ⟨w.heap.size,1,none⟩ (.int .i64 0)).drew.heap[w.heap.size]?=some (.cells #[.slice none 0 0,.int .i64 0] 40 (0,0)):=by
    have h0:((w1.setCell ⟨w.heap.size,0,none⟩ (.slice none 0 0)).setCell ⟨w.heap.size,1,none⟩ (.int .i64 0)).heap[w.heap.size]?=some (.cells #[.slice none 0 0,.int .i64 0] 40 (0,0)):=by simpa using box_cells (i:=1) (box_cells (i:=0) HK.out (.slice none 0 0)) (.int .i64 0)
    exact h0
   have HBZ:=Lib.hid (show Below w.heap.size w ((w1.setCell ⟨w.heap.size,0,none⟩ (.slice none 0 0)).setCell ⟨w.heap.size,1,none⟩ (.int .i64 0)).drew from((HBW.out.setCell (p:=⟨w.heap.size,0,none⟩) (Nat.le_refl _) _).setCell (p:=⟨w.heap.size,1,none⟩) (Nat.le_refl _) _).drew)
   clear q0 q1 qf
   generalize ((w1.setCell ⟨w.heap.size,0,none⟩ (.slice none 0 0)).setCell ⟨w.heap.size,1,none⟩ (.int .i64 0)).drew=wz at *
   obtain⟨q0,q1,_,_⟩:=blk2 hz
   go_wp2_with fail
   exact bodyPost_ret (v:=.tuple #[.agg #[.slice none 0 0,.int .i64 0],.int .i64 ((begunW l).2.1:Int),.int .i64 40]) (by simp[results,Tryz.results11,go_sem,q0,q1]) rfl (px_none HX.out HBZ.out)
 ·have i1:((er:Int)==40)=false:=by simp;omega
  have hne:(begunW l).2.2≠40:=by rw[HER.out];exact h40
  rcases hgo:choiceP (begunW l).1 0 []with⟨⟨k⟩|⟨j,t⟩,C'⟩
  ·have HX:=Lib.hid (show exprP l=(⟨[],0⟩,placeW (begunW l).1 (begunW l).2.1 k,4)from by unfold exprP;rw[if_neg hne,hgo])
   have HGO:=Lib.hid hgo
   clear hgo hne h3
   go_enter Tryz.func11,Tryz.ntmps11
   go_upto_region 1 with(fail)
   generalize (w.alloc (.cells #[.slice none 0 0,.int .i64 0] 40))=W0 at *
   go_upto_region 4 with(first
    |(go_at_call 40;(with_reducible refine HBG.out.mono ?_);rintro e w1 ⟨R,f,H,rfl,k1,k2,k3⟩;have HR:=Lib.hid k1;have HN:=Lib.hid k2;have HB1:=Lib.hid k3;clear k1 k2 k3)
    |fail)
   have HCH:=Lib.hid (show Calls Tryz.prog 41 #[.pointer (some ⟨H,0,none⟩)] w1 (ChoicePost W0.heap.size H R ⟨0,[botP],[]⟩ w1)from by
    have h1:=rchoice_any (fun _=>False) w1 W0.heap.size f H R [] (HR.out.mono (fun _ h=>h.elim)) (fun _ h=>h) (by rw[HN.out.W];exact fun x hx=>(HAL.out.1 x hx).1) (by rw[HN.out.cs];rfl) (by simp) (by rw[HN.out.i];omega) (by rw[HN.out.W];exact HAL.out.2) (by rw[HN.out.W];exact fun x hx=>(HAL.out.1 x hx).2) (fun w' hb=>HCT.out.below (HB1.out.trans hb)) HB1.out.size
    rw[HN.out.i]at h1;exact h1)
   unfold ChoicePost at HCH
   have HGR:=Lib.hid (show goP R.W ⟨0,[botP],[]⟩=choiceP (begunW l).1 0 []from by rw[HN.out.W];rfl)
   go_upto_region 5 with(first
    |(go_at_call 41;(with_reducible refine HCH.out.mono ?_);rintro e w2 ⟨_,h1⟩;obtain⟨nA5,nc5,ls5,lA5,lc5,os5,cA5,cc5,f5,rfl,h2,h3⟩:=h1 k C' (HGR.out.trans HGO.out);have HR2:=Lib.hid h2;have HB2:=Lib.hid h3;clear h1 h2 h3;obtain⟨q0,q1,_,qf⟩:=blk2 (bx_kept (HB1.out.trans HB2.out) HZ0.out))
    |fail)
   have HK:=Lib.hid (show((w2.setCell ⟨w.heap.size,0,none⟩ (.slice none 0 0)).setCell ⟨w.heap.size,1,none⟩ (.int .i64 0)).heap[w.heap.size]?=some (.cells #[.slice none 0 0,.int .i64 0] 40 (0,0))from by simpa using box_cells (i:=1) (box_cells (i:=0) (bx_kept (HB1.out.trans HB2.out) HZ0.out) (.slice none 0 0)) (.int .i64 0))
   have HKB:=Lib.hid (show ∀k,k≠w.heap.size→((w2.setCell ⟨w.heap.size,0,none⟩ (.slice none 0 0)).setCell ⟨w.heap.size,1,none⟩ (.int .i64 0)).heap[k]?=w2.heap[k]? from fun k hk=>(Below.heap_setCell _ ⟨w.heap.size,1,none⟩ _ k hk).trans (Below.heap_setCell _ ⟨w.heap.size,0,none⟩ _ k hk))
   have hsz0:=HSZ.out
   have HBW:=Lib.hid (show Below w.heap.size w ((w2.setCell ⟨w.heap.size,0,none⟩ (.slice none 0 0)).setCell ⟨w.heap.size,1,none⟩ (.int .i64 0))from(((HB0.out.trans ((HB1.out.trans HB2.out).mono (by omega))).setCell (p:=⟨w.heap.size,0,none⟩) (Nat.le_refl _) _).setCell (p:=⟨w.heap.size,1,none⟩) (Nat.le_refl _) _))
   obtain⟨f6,hr6⟩:∃f6,RdM Dch ((w2.setCell ⟨w.heap.size,0,none⟩ (.slice none 0 0)).setCell ⟨w.heap.size,1,none⟩ (.int .i64 0)) W0.heap.size f6 H {R with i:=k,nA:=nA5,nc:=nc5,ls:=ls5,lA:=lA5,lc:=lc5,os:=os5,cA:=cA5,cc:=cc5,cs:=C'.map (wdW R.W)}:=HR2.out.aside HN.out.keep (by simp) (fun k hk=>HKB.out k (by omega))
   have HR3:=Lib.hid hr6;clear hr6
   clear q0 q1 qf
   generalize ((w2.setCell ⟨w.heap.size,0,none⟩ (.slice none 0 0)).setCell ⟨w.heap.size,1,none⟩ (.int .i64 0))=w3 at *
   go_quiet (fail)
   go_upto_region 6 with(fail)
   have HKq:=Lib.hid (show(w3.drewN nq).heap[w.heap.size]?=_ from HK.out)
   have HBq:=Lib.hid (Below.drewN'' HBW.out nq)
   have HRq:=Lib.hid (HR3.out.below (Below.drewN'' (Below.refl _ w3) nq))
   clear HK HBW HR3 HKB
   generalize (w3.drewN nq)=w4 at *
   have HPL:=Lib.hid (place_any Dch w4 W0.heap.size f6 H _ HRq.out ⟨fun h=>h,fun h=>h⟩)
   simp only[HN.out.W,HN.out.fin]at HPL
   go_wp2_with (first
    |(go_at_call 42;(with_reducible refine HPL.out.mono ?_);rintro e w5 ⟨rfl,hb⟩;have HB5:=Lib.hid hb;clear hb;obtain⟨q0,q1,_,qf⟩:=blk2 (bx_kept HB5.out HKq.out))
    |fail)
   have HK:=Lib.hid (bx_kept HB5.out HKq.out)
   have HBW:=Lib.hid (HBq.out.trans (HB5.out.mono HBq.out.size))
   have hz:((w5.setCell ⟨w.heap.size,0,none⟩ (.slice none 0 0)).setCell ⟨w.heap.size,1,none⟩ (.int .i64 0)).heap[w.heap.size]?=some (.cells #[.slice none 0 0,.int .i64 0] 40 (0,0)):=by
    have h0:((w5.setCell ⟨w.heap.size,0,none⟩ (.slice none 0 0)).setCell ⟨w.heap.size,1,none⟩ (.int .i64 0)).heap[w.heap.size]?=some (.cells #[.slice none 0 0,.int .i64 0] 40 (0,0)):=by simpa using box_cells (i:=1) (box_cells (i:=0) HK.out (.slice none 0 0)) (.int .i64 0)
    exact h0
   have HBZ:=Lib.hid (show Below w.heap.size w ((w5.setCell ⟨w.heap.size,0,none⟩ (.slice none 0 0)).setCell ⟨w.heap.size,1,none⟩ (.int .i64 0))from((HBW.out.setCell (p:=⟨w.heap.size,0,none⟩) (Nat.le_refl _) _).setCell (p:=⟨w.heap.size,1,none⟩) (Nat.le_refl _) _))
   clear q0 q1 qf
   generalize ((w5.setCell ⟨w.heap.size,0,none⟩ (.slice none 0 0)).setCell ⟨w.heap.size,1,none⟩ (.int .i64 0))=wz at *
   obtain⟨q0,q1,_,_⟩:=blk2 hz
   skip
   exact bodyPost_ret (v:=.tuple #[.agg #[.slice none 0 0,.int .i64 0],.int .i64 (placeW (begunW l).1 (begunW l).2.1 k:Int),.int .i64 4]) (by simp[results,Tryz.results11,go_sem,q0,q1]) rfl (px_none HX.out HBZ.out)
  ·have HGO:=Lib.hid hgo
   have HT:=Lib.hid (show exprP l=if j<(begunW l).1.length then(⟨[],0⟩,placeW (begunW l).1 (begunW l).2.1 j,4)else if er≠0 then(⟨[],0⟩,(begunW l).2.1,er)else if !mayT (bodyT t)then(⟨[],0⟩,(begunW l).2.1,40)else(bodyT t,0,0)from by unfold exprP;rw[if_neg hne,hgo,←HER.out])
   clear hgo hne
   go_enter Tryz.func11,Tryz.ntmps11
   go_upto_region 1 with(fail)
   generalize (w.alloc (.cells #[.slice none 0 0,.int .i64 0] 40))=W0 at *
   go_upto_region 4 with(first
    |(go_at_call 40;(with_reducible refine HBG.out.mono ?_);rintro e w1 ⟨R,f,H,rfl,k1,k2,k3⟩;have HR:=Lib.hid k1;have HN:=Lib.hid k2;have HB1:=Lib.hid k3;clear k1 k2 k3)
    |fail)
   have HCH:=Lib.hid (show Calls Tryz.prog 41 #[.pointer (some ⟨H,0,none⟩)] w1 (ChoicePost W0.heap.size H R ⟨0,[botP],[]⟩ w1)from by
    have h1:=rchoice_any (fun _=>False) w1 W0.heap.size f H R [] (HR.out.mono (fun _ h=>h.elim)) (fun _ h=>h) (by rw[HN.out.W];exact fun x hx=>(HAL.out.1 x hx).1) (by rw[HN.out.cs];rfl) (by simp) (by rw[HN.out.i];omega) (by rw[HN.out.W];exact HAL.out.2) (by rw[HN.out.W];exact fun x hx=>(HAL.out.1 x hx).2) (fun w' hb=>HCT.out.below (HB1.out.trans hb)) HB1.out.size
    rw[HN.out.i]at h1;exact h1)
   unfold ChoicePost at HCH
   have HGR:=Lib.hid (show goP R.W ⟨0,[botP],[]⟩=choiceP (begunW l).1 0 []from by rw[HN.out.W];rfl)
   go_upto_region 5 with(first
    |(go_at_call 41;(with_reducible refine HCH.out.mono ?_);rintro e w2 ⟨h1,_⟩;obtain⟨⟨vA,vc,vls,vr⟩,nA5,nc5,ls5,lA5,lc5,os5,cA5,cc5,f5,rfl,h2,h2l,h3,h4,h5⟩:=h1 j t C' (HGR.out.trans HGO.out);have HV:=Lib.hid h2;have HVL:=Lib.hid h2l;have HVO:=Lib.hid h3;have HR2:=Lib.hid h4;have HB2:=Lib.hid h5;clear h1 h2 h2l h3 h4 h5;obtain⟨q0,q1,_,qf⟩:=blk2 (bx_kept (HB1.out.trans HB2.out) HZ0.out))
    |fail)
   have HK:=Lib.hid (show((w2.setCell ⟨w.heap.size,0,none⟩ (.slice vA vls.length vc)).setCell ⟨w.heap.size,1,none⟩ (.int .i64 vr)).heap[w.heap.size]?=some (.cells #[.slice vA vls.length vc,.int .i64 vr] 40 (0,0))from by simpa using box_cells (i:=1) (box_cells (i:=0) (bx_kept (HB1.out.trans HB2.out) HZ0.out) (.slice vA vls.length vc)) (.int .i64 vr))
   have HKB:=Lib.hid (show ∀k,k≠w.heap.size→((w2.setCell ⟨w.heap.size,0,none⟩ (.slice vA vls.length vc)).setCell ⟨w.heap.size,1,none⟩ (.int .i64 vr)).heap[k]?=w2.heap[k]? from fun k hk=>(Below.heap_setCell _ ⟨w.heap.size,1,none⟩ _ k hk).trans (Below.heap_setCell _ ⟨w.heap.size,0,none⟩ _ k hk))
   have hsz0:=HSZ.out
   have HBW:=Lib.hid (show Below w.heap.size w ((w2.setCell ⟨w.heap.size,0,none⟩ (.slice vA vls.length vc)).setCell ⟨w.heap.size,1,none⟩ (.int .i64 vr))from(((HB0.out.trans ((HB1.out.trans HB2.out).mono (by omega))).setCell (p:=⟨w.heap.size,0,none⟩) (Nat.le_refl _) _).setCell (p:=⟨w.heap.size,1,none⟩) (Nat.le_refl _) _))
   obtain⟨f6,hr6⟩:∃f6,RdM Dch ((w2.setCell ⟨w.heap.size,0,none⟩ (.slice vA vls.length vc)).setCell ⟨w.heap.size,1,none⟩ (.int .i64 vr)) W0.heap.size f6 H {R with i:=j,nA:=nA5,nc:=nc5,ls:=ls5,lA:=lA5,lc:=lc5,os:=os5,cA:=cA5,cc:=cc5,cs:=C'.map (wdW R.W)}:=HR2.out.aside HN.out.keep (by simp) (fun k hk=>HKB.out k (by omega))
   have HR3:=Lib.hid hr6;clear hr6
   clear q0 q1 qf
   have HV3:=Lib.hid (show TreeOwn ((w2.setCell ⟨w.heap.size,0,none⟩ (.slice vA vls.length vc)).setCell ⟨w.heap.size,1,none⟩ (.int .i64 vr)) (W0.heap.size ≤ ·) ⟨vA,vc,vls,vr⟩from(HVO.out.mono (T:=fun k=>W0.heap.size≤k) (fun k _ h=>h.2)).agree (fun k hk _=>HKB.out k (by have hk:W0.heap.size≤k:=hk;omega)))
   generalize ((w2.setCell ⟨w.heap.size,0,none⟩ (.slice vA vls.length vc)).setCell ⟨w.heap.size,1,none⟩ (.int .i64 vr))=w3 at *
   have HBX:=Lib.hid (show w3.heap[H]?=some (.cells #[.slice R.WA R.W.length R.Wc,.int .i64 (R.fin:Int),.int .i64 (j:Int),.slice nA5 ls5.length nc5,.slice lA5 os5.length lc5,.slice R.dA R.ds.length R.dc,.slice R.mA R.ms.length R.mc,.slice cA5 (C'.map (wdW R.W)).length cc5] 82 (0,0))from HR3.out.box (fun h=>h))
   obtain⟨p0,p1,p2,_,_,_,_,_,pf⟩:=blk8 HBX.out
   rw[HN.out.fin]at p1
   rw[HN.out.W]at p0
   by_cases hjl:j<(begunW l).1.length
   ·have HX:=Lib.hid (show exprP l=(⟨[],0⟩,placeW (begunW l).1 (begunW l).2.1 j,4)from by rw[HT.out,if_pos hjl])
    have hjl':(j:Int)<((begunW l).1.length:Int):=by omega
    clear HT hjl
    go_quiet (fail)
    go_upto_region 6 with(fail)
    have HKq:=Lib.hid (show(w3.drewN nq).heap[w.heap.size]?=_ from HK.out)
    have HBq:=Lib.hid (Below.drewN'' HBW.out nq)
    have HRq:=Lib.hid (HR3.out.below (Below.drewN'' (Below.refl _ w3) nq))
    have HVq:=Lib.hid (HV3.out.below (Below.drewN'' (Below.refl _ w3) nq))
    have HBXq:=Lib.hid (show(w3.drewN nq).heap[H]?=_ from HBX.out)
    have hH:¬H=w.heap.size:=by have h1:=(HRq.out .box (fun h=>h)).2.1;have h2:=HSZ.out;omega
    have hH2:¬w.heap.size=H:=fun e=>hH e.symm
    clear HK HBW HR3 HKB HV3 HBX p0 p1 p2 pf
    generalize (w3.drewN nq)=w4 at *
    have HPL:=Lib.hid (place_any Dch w4 W0.heap.size f6 H _ HRq.out ⟨fun h=>h,fun h=>h⟩)
    simp only[HN.out.W,HN.out.fin]at HPL
    go_wp2_with (first
     |(go_at_call 42;(with_reducible refine HPL.out.mono ?_);rintro e w5 ⟨rfl,hb⟩;have HB5:=Lib.hid hb;clear hb;obtain⟨q0,q1,_,qf⟩:=blk2 (bx_kept HB5.out HKq.out))
     |fail)
    have HK:=Lib.hid (bx_kept HB5.out HKq.out)
    have HBW:=Lib.hid (HBq.out.trans (HB5.out.mono HBq.out.size))
    have hz:((w5.setCell ⟨w.heap.size,0,none⟩ (.slice none 0 0)).setCell ⟨w.heap.size,1,none⟩ (.int .i64 0)).heap[w.heap.size]?=some (.cells #[.slice none 0 0,.int .i64 0] 40 (0,0)):=by
     have h0:((w5.setCell ⟨w.heap.size,0,none⟩ (.slice none 0 0)).setCell ⟨w.heap.size,1,none⟩ (.int .i64 0)).heap[w.heap.size]?=some (.cells #[.slice none 0 0,.int .i64 0] 40 (0,0)):=by simpa using box_cells (i:=1) (box_cells (i:=0) HK.out (.slice none 0 0)) (.int .i64 0)
     exact h0
    have HBZ:=Lib.hid (show Below w.heap.size w ((w5.setCell ⟨w.heap.size,0,none⟩ (.slice none 0 0)).setCell ⟨w.heap.size,1,none⟩ (.int .i64 0))from((HBW.out.setCell (p:=⟨w.heap.size,0,none⟩) (Nat.le_refl _) _).setCell (p:=⟨w.heap.size,1,none⟩) (Nat.le_refl _) _))
    clear q0 q1 qf
    generalize ((w5.setCell ⟨w.heap.size,0,none⟩ (.slice none 0 0)).setCell ⟨w.heap.size,1,none⟩ (.int .i64 0))=wz at *
    obtain⟨q0,q1,_,_⟩:=blk2 hz
    skip
    exact bodyPost_ret (v:=.tuple #[.agg #[.slice none 0 0,.int .i64 0],.int .i64 (placeW (begunW l).1 (begunW l).2.1 j:Int),.int .i64 4]) (by simp[results,Tryz.results11,go_sem,q0,q1]) rfl (px_none HX.out HBZ.out)
   ·have hjl':((begunW l).1.length:Int)≤(j:Int):=by omega
    have hjl2:¬(j:Int)<((begunW l).1.length:Int):=by omega
    rw[if_neg hjl]at HT
    clear hjl
    by_cases he:er=0
    ·subst he
     rw[if_neg (by simp)]at HT
     go_quiet (fail)
     go_upto_region 9 with(fail)
     have HKq:=Lib.hid (show(w3.drewN nq).heap[w.heap.size]?=_ from HK.out)
     have HBq:=Lib.hid (Below.drewN'' HBW.out nq)
     have HRq:=Lib.hid (HR3.out.below (Below.drewN'' (Below.refl _ w3) nq))
     have HVq:=Lib.hid (HV3.out.below (Below.drewN'' (Below.refl _ w3) nq))
     have HBXq:=Lib.hid (show(w3.drewN nq).heap[H]?=_ from HBX.out)
     have hH:¬H=w.heap.size:=by have h1:=(HRq.out .box (fun h=>h)).2.1;have h2:=HSZ.out;omega
     have hH2:¬w.heap.size=H:=fun e=>hH e.symm
     clear HK HBW HR3 HKB HV3 HBX p0 p1 p2 pf
     generalize (w3.drewN nq)=w4 at *
     obtain⟨mb,hmb⟩:∃b,mayT (bodyT t)=b:=⟨_,rfl⟩
     rw[hmb]at HT
     have HMY:=Lib.hid (show Calls Tryz.prog 21 #[.agg #[.slice vA vls.length vc,.int .i64 vr]] w4 fun e w'=>e=.returned (.bool mb)∧Below w4.heap.size w4 w' from by
      have h1:=tmay_any ⟨vA,vc,vls,vr⟩ _ w4 HVq.out.inn (by have h9:vls.length≤300000:=HVL.out;show vls.length≤_;omega) (HCW.out.below HBq.out)
      have e:(⟨vA,vc,vls,vr⟩:Lt).tr=bodyT t:=HV.out
      rw[e,hmb]at h1;exact h1)
     clear hmb
     obtain⟨q0,q1,qf⟩:=blk2 HKq.out
     cases mb
     ·have HX:=Lib.hid (show exprP l=(⟨[],0⟩,(begunW l).2.1,40)from by rw[HT.out];rfl)
      go_upto_region 10 with(first
       |(go_at_call 21;(with_reducible refine HMY.out.mono ?_);rintro e w5 ⟨rfl,hb⟩;have HB5:=Lib.hid hb;clear hb)
       |fail)
      clear q0 q1 qf
      have HK:=Lib.hid (bx_kept HB5.out HKq.out)
      have HBW:=Lib.hid (HBq.out.trans (HB5.out.mono HBq.out.size))
      obtain⟨_,p1,_,_,_,_,_,_,pf⟩:=blk8 (bx_kept HB5.out HBXq.out)
      rw[HN.out.fin]at p1
      obtain⟨q0,q1,qf⟩:=blk2 HK.out
      go_region
      all_goals
       have hz:((w5.setCell ⟨w.heap.size,0,none⟩ (.slice none 0 0)).setCell ⟨w.heap.size,1,none⟩ (.int .i64 0)).drew.heap[w.heap.size]?=some (.cells #[.slice none 0 0,.int .i64 0] 40 (0,0)):=by
        have h0:((w5.setCell ⟨w.heap.size,0,none⟩ (.slice none 0 0)).setCell ⟨w.heap.size,1,none⟩ (.int .i64 0)).heap[w.heap.size]?=some (.cells #[.slice none 0 0,.int .i64 0] 40 (0,0)):=by simpa using box_cells (i:=1) (box_cells (i:=0) HK.out (.slice none 0 0)) (.int .i64 0)
        exact h0
       have HBZ:=Lib.hid (show Below w.heap.size w ((w5.setCell ⟨w.heap.size,0,none⟩ (.slice none 0 0)).setCell ⟨w.heap.size,1,none⟩ (.int .i64 0)).drew from((HBW.out.setCell (p:=⟨w.heap.size,0,none⟩) (Nat.le_refl _) _).setCell (p:=⟨w.heap.size,1,none⟩) (Nat.le_refl _) _).drew)
       clear q0 q1 qf
       generalize ((w5.setCell ⟨w.heap.size,0,none⟩ (.slice none 0 0)).setCell ⟨w.heap.size,1,none⟩ (.int .i64 0)).drew=wz at *
       obtain⟨q0,q1,_,_⟩:=blk2 hz
       go_wp2_with fail
       exact bodyPost_ret (v:=.tuple #[.agg #[.slice none 0 0,.int .i64 0],.int .i64 ((begunW l).2.1:Int),.int .i64 40]) (by simp[results,Tryz.results11,go_sem,q0,q1]) rfl (px_none HX.out HBZ.out)
     ·have HX:=Lib.hid (show exprP l=(bodyT t,0,0)from by rw[HT.out];rfl)
      go_upto_region 11 with(first
       |(go_at_call 21;(with_reducible refine HMY.out.mono ?_);rintro e w5 ⟨rfl,hb⟩;have HB5:=Lib.hid hb;clear hb)
       |fail)
      clear q0 q1 qf
      have HK:=Lib.hid (bx_kept HB5.out HKq.out)
      have HBW:=Lib.hid (HBq.out.trans (HB5.out.mono HBq.out.size))
      obtain⟨q0,q1,_,qf⟩:=blk2 HK.out
      go_wp2_with fail
      have hz:((w5.setCell ⟨w.heap.size,0,none⟩ (.slice vA vls.length vc)).setCell ⟨w.heap.size,1,none⟩ (.int .i64 vr)).heap[w.heap.size]?=some (.cells #[.slice vA vls.length vc,.int .i64 vr] 40 (0,0)):=by simpa using box_cells (i:=1) (box_cells (i:=0) HK.out (.slice vA vls.length vc)) (.int .i64 vr)
      have hsz:=HSZ.out
      have HPX:=Lib.hid (show PXPost l w (.returned (.tuple #[.agg #[.slice vA vls.length vc,.int .i64 vr],.int .i64 0,.int .i64 0])) ((w5.setCell ⟨w.heap.size,0,none⟩ (.slice vA vls.length vc)).setCell ⟨w.heap.size,1,none⟩ (.int .i64 vr))from⟨⟨vA,vc,vls,vr⟩,by rw[HX.out];rfl,by rw[HX.out];exact HV.out,HVL.out,((HVq.out.below HB5.out).agree (fun k hk _=>(Below.heap_setCell _ ⟨w.heap.size,1,none⟩ _ k (by have hk:W0.heap.size≤k:=hk;show k≠w.heap.size;omega)).trans (Below.heap_setCell _ ⟨w.heap.size,0,none⟩ _ k (by have hk:W0.heap.size≤k:=hk;show k≠w.heap.size;omega)))).mono (fun k _ hk=>by have hk:W0.heap.size≤k:=hk;show w.heap.size≤k;omega),(HBW.out.setCell (p:=⟨w.heap.size,0,none⟩) (Nat.le_refl _) _).setCell (p:=⟨w.heap.size,1,none⟩) (Nat.le_refl _) _⟩)
      clear q0 q1 qf
      generalize ((w5.setCell ⟨w.heap.size,0,none⟩ (.slice vA vls.length vc)).setCell ⟨w.heap.size,1,none⟩ (.int .i64 vr))=wz at *
      obtain⟨q0,q1,_,_⟩:=blk2 hz
      exact bodyPost_ret (v:=.tuple #[.agg #[.slice vA vls.length vc,.int .i64 vr],.int .i64 0,.int .i64 0]) (by simp[results,Tryz.results11,go_sem,q0,q1]) rfl HPX.out
    ·have HX:=Lib.hid (show exprP l=(⟨[],0⟩,(begunW l).2.1,er)from by rw[HT.out,if_pos he])
     have i2:((er:Int)==0)=false:=by simp;omega
     go_quiet (fail)
     go_upto_region 8 with(fail)
     have HKq:=Lib.hid (show(w3.drewN nq).heap[w.heap.size]?=_ from HK.out)
     have HBq:=Lib.hid (Below.drewN'' HBW.out nq)
     have HRq:=Lib.hid (HR3.out.below (Below.drewN'' (Below.refl _ w3) nq))
     have HVq:=Lib.hid (HV3.out.below (Below.drewN'' (Below.refl _ w3) nq))
     have HBXq:=Lib.hid (show(w3.drewN nq).heap[H]?=_ from HBX.out)
     have hH:¬H=w.heap.size:=by have h1:=(HRq.out .box (fun h=>h)).2.1;have h2:=HSZ.out;omega
     have hH2:¬w.heap.size=H:=fun e=>hH e.symm
     clear HK HBW HR3 HKB HV3 HBX p0 p1 p2 pf
     generalize (w3.drewN nq)=w4 at *
     have HK:=HKq
     have HBW:=HBq
     obtain⟨_,p1,_,_,_,_,_,_,pf⟩:=blk8 HBXq.out
     rw[HN.out.fin]at p1
     obtain⟨q0,q1,qf⟩:=blk2 HK.out
     go_region
     all_goals
      have hz:((w4.setCell ⟨w.heap.size,0,none⟩ (.slice none 0 0)).setCell ⟨w.heap.size,1,none⟩ (.int .i64 0)).drew.heap[w.heap.size]?=some (.cells #[.slice none 0 0,.int .i64 0] 40 (0,0)):=by
       have h0:((w4.setCell ⟨w.heap.size,0,none⟩ (.slice none 0 0)).setCell ⟨w.heap.size,1,none⟩ (.int .i64 0)).heap[w.heap.size]?=some (.cells #[.slice none 0 0,.int .i64 0] 40 (0,0)):=by simpa using box_cells (i:=1) (box_cells (i:=0) HK.out (.slice none 0 0)) (.int .i64 0)
       exact h0
      have HBZ:=Lib.hid (show Below w.heap.size w ((w4.setCell ⟨w.heap.size,0,none⟩ (.slice none 0 0)).setCell ⟨w.heap.size,1,none⟩ (.int .i64 0)).drew from((HBW.out.setCell (p:=⟨w.heap.size,0,none⟩) (Nat.le_refl _) _).setCell (p:=⟨w.heap.size,1,none⟩) (Nat.le_refl _) _).drew)
      clear q0 q1 qf
      generalize ((w4.setCell ⟨w.heap.size,0,none⟩ (.slice none 0 0)).setCell ⟨w.heap.size,1,none⟩ (.int .i64 0)).drew=wz at *
      obtain⟨q0,q1,_,_⟩:=blk2 hz
      go_wp2_with fail
      exact bodyPost_ret (v:=.tuple #[.agg #[.slice none 0 0,.int .i64 0],.int .i64 ((begunW l).2.1:Int),.int .i64 (er:Int)]) (by simp[results,Tryz.results11,go_sem,q0,q1]) rfl (px_none HX.out HBZ.out)
end Go.Proofs.YtpfokabdpmjobaaGreatDoor
namespace Go.Proofs.YtpfokabdpmjobaaGreatDoor
set_option linter.unusedSimpArgs false
set_option linter.unusedVariables false
theorem text_same {W V:List Wd} (h:W.map bareW=V.map bareW) (i:Nat):textW W i=textW V i:=by
 unfold textW
 rw[←text_bare W i,h,text_bare]
theorem names_same {W V:List Wd} (h:W.map bareW=V.map bareW) (l:List (Nat×TT)):namesW W l=namesW V l:=List.map_congr_left fun p _=>text_same h p.1
theorem defW_same {W V:List Wd} (h:W.map bareW=V.map bareW):defW W=defW V:=funext fun p=>by unfold defW;rw[text_same h]
theorem judge_same {W V:List Wd} (h:W.map bareW=V.map bareW) (m n:Nat) (l:List (Nat×TT)) (cs:List Nat):(judgeW W m l cs).2=(judgeW V n l cs).2:=by
 unfold judgeW
 rw[names_same h]
 have e:lackW W (namesW V l) cs=lackW V (namesW V l) cs:=by
  unfold lackW
  congr 1
  funext c
  rw[text_same h]
 rw[e]
 cases twiceW (namesW V l)with
 |some i=>rfl
 |none=>
  cases lackW V (namesW V l) cs with
  |some c=>rfl
  |none=>
   simp only
   split <;> rfl
theorem gram_same {s t:List UInt8} {W V:List Wd} (hs:begunW s=(W,s.length,0)) (ht:begunW t=(V,t.length,0)) (h:W.map bareW=V.map bareW):(gramP s).2.2=(gramP t).2.2∧(gramP s).1=(gramP t).1:=by
 have hl:W.length=V.length:=by have:=congrArg List.length h;simpa using this
 have hr:=rules_same h
 cases e:rulesP V with
 |fail k=>
  rw[e]at hr
  have h1:readW s=(([],[]),placeW W s.length k,4):=by unfold readW;rw[hs];simp[hr]
  have h2:readW t=(([],[]),placeW V t.length k,4):=by unfold readW;rw[ht];simp[e]
  rw[gram_err h1 (by decide),gram_err h2 (by decide)]
  exact⟨rfl,rfl⟩
 |done l cs=>
  rw[e]at hr
  have h1:readW s=((l,cs),s.length,0):=by unfold readW;rw[hs];simp[hr]
  have h2:readW t=((l,cs),t.length,0):=by unfold readW;rw[ht];simp[e]
  unfold gramP
  rw[h1,h2,hs,ht]
  simp only[ne_eq,not_true_eq_false,if_false]
  have hj:=judge_same h s.length t.length l cs
  rw[hj]
  split
  ·exact⟨hj,rfl⟩
  ·exact⟨rfl,by rw[defW_same h]⟩
theorem expr_same {s t:List UInt8} {W V:List Wd} (hs:begunW s=(W,s.length,0)) (ht:begunW t=(V,t.length,0)) (h:W.map bareW=V.map bareW):(exprP s).2.2=(exprP t).2.2∧(exprP s).1=(exprP t).1:=by
 have hl:W.length=V.length:=by have:=congrArg List.length h;simpa using this
 have hc:=choice_same h 0 []
 unfold exprP
 rw[hs,ht,hc,hl]
 simp only[Nat.reduceEqDiff,if_false,ne_eq,not_true_eq_false]
 cases (choiceP V 0 []).1 with
 |fail k=>exact⟨rfl,rfl⟩
 |done j t=>
  simp only
  split
  ·exact⟨rfl,rfl⟩
  ·split <;> exact⟨rfl,rfl⟩
def blankL (s g:List UInt8):List Wd→List UInt8
 |[]=>[]
 |x::r=>(s.drop x.frm).take (x.til-x.frm)++(g++blankL s g r)
structure Gap (g:List UInt8):Prop where
 skip:∀t,skipM false (g++t)=g.length+skipM false t
 first:∀c,g[0]?=some c→alnum c=false∧c≠45
 ne:g≠[]
theorem gap5:Gap [32]∧Gap [10]∧Gap [9,13,10]∧Gap [35,120,60,45,10]∧Gap [32,35,32,34,40,10,32]:=by
 refine⟨⟨?_,?_,by simp⟩,⟨?_,?_,by simp⟩,⟨?_,?_,by simp⟩,⟨?_,?_,by simp⟩,⟨?_,?_,by simp⟩⟩
 all_goals first|(intro c hc;simp at hc;subst hc;decide)|(intro t;simp[skipM,partB];done)|(intro t;simp[skipM,partB];omega)
theorem blank_run (s g:List UInt8) (hg:Gap g):∀(ls:List Wd) (frm:Nat),Stand s frm ls→ ∀pre:List UInt8,
  (RW (pre++(g++blankL s g ls)) (nextL (pre++(g++blankL s g ls)) pre.length)).2=none∧(RW (pre++(g++blankL s g ls)) (nextL (pre++(g++blankL s g ls)) pre.length)).1.map bareW=ls.map bareW
 |[],frm,hst,pre=>by
  have e:nextL (pre++(g++blankL s g [])) pre.length=(pre++(g++blankL s g [])).length:=by
   unfold nextL
   rw[List.drop_left,hg.skip]
   simp[blankL,skipM]
  rw[e,RW_end (Nat.le_refl _)]
  exact⟨rfl,rfl⟩
 |x::r,frm,hst,pre=>by
  obtain⟨h1,h2,h3⟩:=hst
  have hq2:=h2
  unfold wordL at hq2
  cases hq:headW (s.drop (nextL s frm))with
  |none=>rw[hq]at hq2;cases hq2
  |some z=>
   rw[hq]at hq2
   cases hq2
   have hl:=head_len hq
   rw[List.length_drop]at hl
   have ih:=blank_run s g hg r _ h3 (pre++g++(s.drop (nextL s frm)).take z.til)
   have hown:(s.drop (nextL s frm)).take (nextL s frm+z.til-nextL s frm)=(s.drop (nextL s frm)).take z.til:=by rw[show nextL s frm+z.til-nextL s frm=z.til by omega]
   have hol:((s.drop (nextL s frm)).take z.til).length=z.til:=by rw[List.length_take,List.length_drop];omega
   generalize hO:g++blankL s g r=O at *
   have hOf:∀c,O[0]?=some c→alnum c=false∧c≠45:=fun c hc=>by
    rw[←hO,List.getElem?_append_left (List.length_pos_iff.2 hg.ne)]at hc
    exact hg.first c hc
   have hz:headW ((s.drop (nextL s frm)).take z.til++O)=some z:=by
    refine head_ag hq (fun j hj=> ?_) ⟨fun hk c hc=> ?_,fun hk hc=> ?_⟩
    ·rw[List.getElem?_append_left (by rw[hol];exact hj),List.getElem?_take_of_lt hj]
    ·rw[List.getElem?_append_right (by rw[hol];exact Nat.le_refl _),hol,Nat.sub_self]at hc
     exact(hOf c hc).1
    ·have hh:=head_sign hq hk
     rw[List.getElem?_append_right (by rw[hol];omega),hol,hh.1]at hc
     exact(hOf 45 hc).2 rfl
   have ep:g++blankL s g ({z with frm:=nextL s frm,til:=nextL s frm+z.til}::r)=g++((s.drop (nextL s frm)).take z.til++O):=by
    simp only[blankL]
    rw[hown,hO]
   rw[ep]
   have hgs:=hg.skip ((s.drop (nextL s frm)).take z.til++O)
   rw[head_stop hz,Nat.add_zero]at hgs
   clear ep hown
   generalize (s.drop (nextL s frm)).take z.til=W at *
   have en:nextL (pre++(g++(W++O))) pre.length=(pre++g).length:=by unfold nextL;rw[List.drop_left,hgs,List.length_append]
   have ea:pre++(g++(W++O))=(pre++g)++(W++O):=by simp
   have eb:(pre++g)++(W++O)=(pre++g++W)++O:=by simp
   have el:(pre++g).length+z.til=(pre++g++W).length:=by rw[show(pre++g++W).length=(pre++g).length+W.length from List.length_append,hol]
   have hw:wordL ((pre++g)++(W++O)) (pre++g).length=some {z with frm:=(pre++g).length,til:=(pre++g).length+z.til}:=by unfold wordL;rw[List.drop_left,hz];rfl
   have hlt:(pre++g).length<((pre++g)++(W++O)).length:=by rw[show((pre++g)++(W++O)).length=(pre++g).length+(W++O).length from List.length_append,show(W++O).length=W.length+O.length from List.length_append];omega
   rw[en,ea,RW_word hlt hw]
   simp only
   rw[eb,el]
   refine⟨ih.1,?_⟩
   rw[List.map_cons,List.map_cons,ih.2]
   rfl
theorem blank_len (s g:List UInt8):∀(ls:List Wd) (frm:Nat),Stand s frm ls→frm≤s.length→(blankL s g ls).length+frm≤s.length+g.length*ls.length∧ls.length+frm≤s.length
 |[],frm,hst,hf=>by simp[blankL];exact hf
 |x::r,frm,hst,hf=>by
  obtain⟨h1,h2,h3⟩:=hst
  have hx:=word_til h2
  have hfr:=word_frm h2
  have hn:=next_ge s frm
  have ih:=blank_len s g r x.til h3 hx.2
  simp only[blankL,List.length_append,List.length_take,List.length_drop,List.length_cons,Nat.mul_add,Nat.mul_one]
  omega
theorem words_blank {s g:List UInt8} {ls:List Wd} {a:Nat} (hs:s.length≤2000) (hg:Gap g) (hgl:g.length≤7) (h:wordsL s=(ls,a,0)):∃V,wordsL (g++blankL s g ls)=(V,0,0)∧ls.map bareW=V.map bareW∧(g++blankL s g ls).length≤65536:=by
 have h1:=(words_stand (by omega) h).2
 have h2:=blank_run s g hg ls 0 h1 []
 have h3:=blank_len s g ls 0 h1 (Nat.zero_le _)
 have h4:g.length*ls.length≤7*2000:=Nat.mul_le_mul hgl (by omega)
 have h5:(g++blankL s g ls).length≤65536:=by rw[List.length_append];omega
 simp only[List.nil_append,List.length_nil]at h2
 refine⟨_,?_,h2.2.symm,h5⟩
 rw[wordsL_of (by omega),h2.1]
theorem begun_words {s:List UInt8} {W:List Wd} (h:wordsL s=(W,0,0)):begunW s=(W,s.length,0):=by unfold begunW;rw[h];simp
end Go.Proofs.YtpfokabdpmjobaaGreatDoor
namespace Go.Proofs.YtpfokabdpmjobaaGreatDoor
open Go.RowKit
set_option linter.unusedSimpArgs false
set_option linter.unusedVariables false
theorem word_at_all (s:List UInt8):∀x∈(wordsL s).1,x.frm<x.til∧x.til≤s.length:=by
 intro x hx
 unfold wordsL at hx
 split at hx
 ·cases hx
 split at hx
 ·cases hx
 ·exact raw_all s _ _ x hx
 where raw_all (s:List UInt8):∀(f a:Nat),∀x∈(rawL s f a).1,x.frm<x.til∧x.til≤s.length
  |0,a,x,hx=>by simp[rawL]at hx
  |f+1,a,x,hx=>by
   rw[rawL]at hx
   split at hx
   ·cases hx
   ·cases hw:wordL s a with
    |none=>rw[hw]at hx;cases hx
    |some w=>
     rw[hw]at hx
     rcases List.mem_cons.1 hx with rfl|hx
     ·have h1:=word_til hw;have h2:=word_frm hw;omega
     ·exact raw_all s f _ x hx
theorem blank_snoc (s g:List UInt8) (l:List Wd) (x:Wd):blankL s g (l++[x])=blankL s g l++((s.drop x.frm).take (x.til-x.frm)++g):=by
 induction l with
 |nil=>simp[blankL]
 |cons y l ih=>simp only[List.cons_append,blankL];rw[ih];simp
theorem blank_size (s g:List UInt8):∀l:List Wd,(∀x∈l,x.frm<x.til∧x.til≤s.length)→(blankL s g l).length≤l.length*(s.length+g.length)
 |[],_=>by simp[blankL]
 |x::l,h=>by
  have h1:=blank_size s g l (fun y hy=>h y (List.mem_cons_of_mem _ hy))
  have h2:=h x List.mem_cons_self
  simp only[blankL,List.length_append,List.length_take,List.length_drop,List.length_cons,Nat.succ_mul]
  omega
theorem expr_right {s:List UInt8} (h:(exprP s).2.2=0):rightT (exprP s).1=true:=by
 unfold exprP at h ⊢
 split
 ·rename_i h1;simp[h1]at h
 ·rename_i h1
  rw[if_neg h1]at h
  split
  ·rename_i h2;simp[h2]at h
  ·rename_i j t h2
   rw[h2]at h
   simp only at h
   split
   ·rename_i h3;simp[h3]at h
   ·rename_i h3
    rw[if_neg h3]at h
    split
    ·rename_i h4;rw[if_pos h4]at h;exact absurd h h4
    ·rename_i h4
     rw[if_neg h4]at h
     split
     ·rename_i h5;simp[h5]at h
     ·rename_i h5
      have h6:mayT (bodyT t)=true:=by simpa using h5
      unfold mayT at h6
      simp only[Bool.and_eq_true]at h6
      exact h6.1.2
theorem gram_rightB {s:List UInt8} (hs:¬65536<s.length) (h:(gramP s).2.2=0):∀d∈(gramP s).1,rightT d.body=true:=by
 obtain⟨W,l,cs,hg⟩:=good_of hs h
 rw[hg.gram]
 intro d hd
 obtain⟨p,hp,rfl⟩:=List.mem_map.1 hd
 exact(rightT_iff _).2 (right_treeOf (make_ok (hg.reads.ofs p hp).2.1).1)
theorem gram_none {s:List UInt8} (h:(gramP s).2.2≠0):(gramP s).1=[]:=by
 unfold gramP at h ⊢
 split
 ·rfl
 ·rename_i h1
  rw[if_neg h1]at h
  split
  ·rfl
  ·rename_i h2
   rw[if_neg h2]at h
   exact absurd rfl h
theorem blank_laws {s g:List UInt8} {W:List Wd} (hs:s.length≤2000) (hg:Gap g) (hgl:g.length≤7) (hw:(wordsL s).1=W) (he:(wordsL s).2.2=0):
  ((gramP s).2.2=(gramP (g++blankL s g W)).2.2∧(gramP s).1=(gramP (g++blankL s g W)).1)∧((exprP s).2.2=(exprP (g++blankL s g W)).2.2∧(exprP s).1=(exprP (g++blankL s g W)).1)∧(g++blankL s g W).length≤65536:=by
 have h0:wordsL s=(W,(wordsL s).2.1,0):=by rw[←hw,←he]
 obtain⟨V,h1,h2,h3⟩:=words_blank hs hg hgl h0
 have h4:wordsL s=(W,0,0):=by
  have:=(words_stand (by omega) h0).1
  rw[h0,this]
 exact⟨gram_same (begun_words h4) (begun_words h1) h2,expr_same (begun_words h4) (begun_words h1) h2,h3⟩
def gap5L (r:Nat):List UInt8:=match r with
 |0=>[32]
 |1=>[10]
 |2=>[9,13,10]
 |3=>[35,120,60,45,10]
 |_=>[32,35,32,34,40,10,32]
theorem five_cell (w:World) {r:Nat} (h:r<5):(w.alloc (.cells #[.string ⟨#[32]⟩,.string ⟨#[10]⟩,.string ⟨#[9,13,10]⟩,.string ⟨#[35,120,60,45,10]⟩,.string ⟨#[32,35,32,34,40,10,32]⟩] 9)).cell? ⟨w.heap.size,r,none⟩=some (.string ⟨(gap5L r).toArray⟩):=by
 have h1:=bx_new w (.cells #[.string ⟨#[32]⟩,.string ⟨#[10]⟩,.string ⟨#[9,13,10]⟩,.string ⟨#[35,120,60,45,10]⟩,.string ⟨#[32,35,32,34,40,10,32]⟩] 9)
 obtain rfl|rfl|rfl|rfl|rfl:r=0∨r=1∨r=2∨r=3∨r=4:=by omega
 all_goals (simp only[World.cell?,h1];rfl)
theorem five_gap {r:Nat} (h:r<5):∃l,gap5L r=l∧(Gap l∧l.length≤7):=by
 obtain rfl|rfl|rfl|rfl|rfl:r=0∨r=1∨r=2∨r=3∨r=4:=by omega
 ·exact⟨_,rfl,gap5.1,by decide⟩
 ·exact⟨_,rfl,gap5.2.1,by decide⟩
 ·exact⟨_,rfl,gap5.2.2.1,by decide⟩
 ·exact⟨_,rfl,gap5.2.2.2.1,by decide⟩
 ·exact⟨_,rfl,gap5.2.2.2.2,by decide⟩
set_option maxRecDepth 100000 in
set_option maxHeartbeats 12800000 in
theorem parseblanks_walk (s:ByteArray) (by':Int) (w:World) (hs:s.size≤281474976710656) (hby:0≤by'∧by'≤255) (hc:CntTab w):
  Calls Tryz.prog 3 #[.string s,.int .u8 by'] w fun e w'=>e=.returned (.bool true)∧Below w.heap.size w w':=by
 have HCT:=Lib.hid hc
 have HAW:=Lib.hid (show ∀w',Below w.heap.size w w'→Calls Tryz.prog 8 #[] w' fun e w''=>e=.returned (.bool true)∧Below w'.heap.size w' w'' from fun w' hb=>awake7_any w' (HCT.out.below hb))
 have HB0:=Lib.hid (Below.refl w.heap.size w)
 clear hc
 by_cases hbig:2000<s.size
 ·have i1:(2000:Int)<(s.size:Int):=by omega
  go_enter Tryz.func3,Tryz.ntmps3
  go_wp2_with (first
   |(go_at_call 8;(with_reducible refine(HAW.out _ HB0.out).mono ?_);rintro e w1 ⟨rfl,hb⟩;have HB1:=Lib.hid hb;clear hb)
   |fail)
  go_ret
  exact⟨rfl,HB1.out⟩
 ·have i1:¬(2000:Int)<(s.size:Int):=by omega
  have hsl:s.data.toList.length=s.size:=Array.length_toList
  have HSL:=Lib.hid (show s.data.toList.length=s.size∧s.size≤2000 from⟨hsl,by omega⟩)
  have HWD:=Lib.hid (show ∀wx,_ from fun wx=>words_any s wx hs)
  unfold WordsPost at HWD
  clear hbig
  generalize hls:s.data.toList=ls at *
  have HLS:=Lib.hid hls
  clear hls
  obtain⟨W,hW⟩:∃a,(wordsL ls).1=a:=⟨_,rfl⟩
  obtain⟨er,her⟩:∃a,(wordsL ls).2.2=a:=⟨_,rfl⟩
  have HWA:=Lib.hid (word_at_all ls)
  rw[hW,her]at HWD
  rw[hW]at HWA
  have HER:=Lib.hid (And.intro hW her)
  clear hW her hsl
  by_cases he:er=0
  ·subst he
   go_enter Tryz.func3,Tryz.ntmps3
   go_upto_region 6 with(first
    |(go_at_call 8;(with_reducible refine(HAW.out _ HB0.out).mono ?_);rintro e w1 ⟨rfl,hb⟩;have HB1:=Lib.hid hb;clear hb)
    |(go_at_call 9;(with_reducible refine(HWD.out _).mono ?_);rintro e w2 ⟨A,c,rfl,h1,h2⟩;have HO2:=Lib.hid h1;have HB2:=Lib.hid (Below.step HB1.out h2);clear h1 h2)
    |fail)
   go_cut [8]from 40 to 44 (fun v8 wx=>∃g:List UInt8,v8=.string ⟨g.toArray⟩∧Hid (Gap g∧g.length≤7)∧Hid (Below w2.heap.size w2 wx))
   case first=>
    have hq:by'.tmod 5=by'%5:=Int.tmod_eq_emod_of_nonneg hby.1
    obtain⟨r,hr5,hr⟩:∃r:Nat,r<5∧by'.tmod 5=(r:Int):=⟨(by'.tmod 5).toNat,by omega,by omega⟩
    have hr0:(0:Int)≤(r:Int):=by omega
    have hr6:(r:Int)<5:=by omega
    have hcell:=five_cell w2 hr5
    obtain⟨l5,h51,h52⟩:=five_gap hr5
    rw[h51]at hcell
    have HG5:=Lib.hid h52
    have hsz:=World.size_alloc w2 (.cells #[.string ⟨#[32]⟩,.string ⟨#[10]⟩,.string ⟨#[9,13,10]⟩,.string ⟨#[35,120,60,45,10]⟩,.string ⟨#[32,35,32,34,40,10,32]⟩] 9)
    clear hq h51 h52 hr5
    go_wp2_with fail
    go_meet
    exact⟨l5,rfl,HG5,Lib.hid (bx1 w2 _)⟩
   case rest=>
    obtain⟨g,rfl,HG,HB3⟩:=hcut
    have HWL:=Lib.hid (show W.length≤65536 from by rw[←HER.out.1];exact words_le ls)
    go_upto_region 9 with(fail)
    go_loopw [9,10] (fun v9 v10 wx=>∃(i:Nat) (tb:ByteArray),i≤W.length∧v10=.int .i64 i∧v9=.string tb∧Hid (tb.data.toList=g++blankL ls g (W.take i))∧Hid (Below w2.heap.size w2 wx)) (fun _ v10 _=>W.length-(intOf v10).toNat)
    case atStart=>exact⟨0,⟨g.toArray⟩,by omega,rfl,rfl,Lib.hid (by simp[blankL]),HB3⟩
    case round=>
     obtain⟨i,tb,hi,rfl,rfl,HTB,HBi⟩:=hrel
     by_cases hil:i<W.length
     ·have i3:(i:Int)<(W.length:Int):=by omega
      have HOi:=Lib.hid (show wr.ownsRow w1.heap.size 32 10 (.slice A W.length c) W.length (wdL W)from own_agree HO2.out (fun k hk=>HBi.out.block k (own_blk HO2.out k hk).2))
      obtain⟨vg,hvg,_,_⟩:=own_some HOi.out (by omega)
      subst hvg
      have hx:=HWA.out _ (List.getElem_mem hil)
      have hxe:W[i]?=some W[i]:=List.getElem?_eq_getElem hil
      have hsn:=blank_snoc ls g (W.take i) W[i]
      rw[←List.take_succ_eq_append_getElem hil]at hsn
      have HSN:=Lib.hid hsn
      have htb:tb.size≤200000000:=by
       have h1:tb.data.toList.length=tb.size:=Array.length_toList
       rw[HTB.out]at h1
       have h2:=blank_size ls g (W.take i) (fun y hy=>HWA.out y (List.mem_of_mem_take hy))
       have h3:(W.take i).length*(ls.length+g.length)≤65536*2007:=Nat.mul_le_mul (by rw[List.length_take];have:=HWL.out;omega) (by have:=HSL.out;have:=HG.out.2;omega)
       rw[List.length_append]at h1
       have:=HG.out.2
       omega
      clear hsn
      generalize W[i]=x at *
      obtain⟨xk,xf,xt,xtx,x0,x1,x2,x3,xlo,xhi⟩:=x
      obtain⟨_,c1,c2,_,_,_,_,_,_,_⟩:=word_ten HOi.out i (i*10) rfl _ hxe
      simp only at c1 c2 hx
      have hsl:=HSL.out.1
      have j1:(xf:Int)≤(xt:Int):=by omega
      have j2:(xt:Int)≤(s.size:Int):=by omega
      have j3:(0:Int)≤(xf:Int):=by omega
      have hwl:=HWL.out
      have hsum:tb.size+(xt-xf)+g.length≤300000000:=by have:=HSL.out.2;have:=HG.out.2;omega
      have hsum2:tb.size+(xt-xf)≤300000000:=by omega
      clear hxe hsl htb
      go_upto_region 11 with(fail)
      go_quiet (fail)
      go_wp2_with fail
      refine⟨⟨i+1,tb++s.extract xf xt++⟨g.toArray⟩,by omega,by go_num,rfl,Lib.hid ?_,Lib.hid (Below.drewN'' HBi.out nq)⟩,by simp only[intOf];omega⟩
      rw[HSN.out,ByteArray.data_append,ByteArray.data_append,Array.toList_append,Array.toList_append,Lib.extract_data,HTB.out,HLS.out]
      simp[List.append_assoc]
     ·obtain rfl:i=W.length:=by omega
      have i3:¬(W.length:Int)<(W.length:Int):=by omega
      have HFIN:=Lib.hid (show tb.data.toList=g++blankL ls g W from by have h:=HTB.out;rwa [List.take_length]at h)
      clear HTB
      have HBW:=Lib.hid (Below.step HB2.out HBi.out)
      have hLL:=blank_laws (s:=ls) (g:=g) (W:=W) (by have:=HSL.out;omega) HG.out.1 HG.out.2 HER.out.1 HER.out.2
      obtain⟨⟨hg1,hg2⟩,⟨hx1,hx2⟩,hlen⟩:=hLL
      have htz:tb.size≤281474976710656:=by
       have h1:tb.data.toList.length=tb.size:=Array.length_toList
       rw[HFIN.out]at h1;omega
      have HTZ:=Lib.hid htz
      have HLEN:=Lib.hid hlen
      clear hlen
      generalize g++blankL ls g W=lt at *
      obtain⟨a1,ha1⟩:∃a,(gramP ls).2.1=a:=⟨_,rfl⟩
      obtain⟨e1,he1⟩:∃a,(gramP ls).2.2=a:=⟨_,rfl⟩
      obtain⟨a2,ha2⟩:∃a,(gramP lt).2.1=a:=⟨_,rfl⟩
      obtain⟨a3,ha3⟩:∃a,(exprP ls).2.1=a:=⟨_,rfl⟩
      obtain⟨e3,he3⟩:∃a,(exprP ls).2.2=a:=⟨_,rfl⟩
      obtain⟨a4,ha4⟩:∃a,(exprP lt).2.1=a:=⟨_,rfl⟩
      have HGA:=Lib.hid (show ∀wx,CntTab wx→Calls Tryz.prog 10 #[.string s] wx fun e w'=>∃A c ds,e=.returned (.tuple #[.agg #[.slice A ds.length c],.int .i64 (a1:Int),.int .i64 (e1:Int)])∧GrAt w' (gramP ls).1 A ds∧Below wx.heap.size wx w' from fun wx hx=>by
       have h:=pg_at s wx hs hx
       rw[HLS.out,ha1,he1]at h;exact h)
      have HGB:=Lib.hid (show ∀wx,CntTab wx→Calls Tryz.prog 10 #[.string tb] wx fun e w'=>∃A c ds,e=.returned (.tuple #[.agg #[.slice A ds.length c],.int .i64 (a2:Int),.int .i64 (e1:Int)])∧GrAt w' (gramP ls).1 A ds∧Below wx.heap.size wx w' from fun wx hx=>by
       have h:=pg_at tb wx HTZ.out hx
       rw[HFIN.out,ha2,←hg1,he1,←hg2]at h;exact h)
      have HXA:=Lib.hid (show ∀wx,CntTab wx→Calls Tryz.prog 11 #[.string s] wx fun e w'=>∃(A:Option Addr) (c:Nat) (l:List Ln) (r:Int),e=.returned (.tuple #[.agg #[.slice A l.length c,.int .i64 r],.int .i64 (a3:Int),.int .i64 (e3:Int)])∧((⟨A,c,l,r⟩:Lt).tr=(exprP ls).1∧l.length≤300000)∧TreeOwn w' (fun _=>True) ⟨A,c,l,r⟩∧Below wx.heap.size wx w' from fun wx hx=>by
       have h:=pexpr_any s wx hs hx
       unfold PXPost at h
       rw[HLS.out,ha3,he3]at h
       exact h.mono fun e w' ⟨⟨A,c,l,r⟩,h1,h2,h3,h4,h5⟩=>⟨A,c,l,r,h1,⟨h2,h3⟩,h4.mono (fun _ _ _=>trivial),h5⟩)
      have HXB:=Lib.hid (show ∀wx,CntTab wx→Calls Tryz.prog 11 #[.string tb] wx fun e w'=>∃(A:Option Addr) (c:Nat) (l:List Ln) (r:Int),e=.returned (.tuple #[.agg #[.slice A l.length c,.int .i64 r],.int .i64 (a4:Int),.int .i64 (e3:Int)])∧((⟨A,c,l,r⟩:Lt).tr=(exprP ls).1∧l.length≤300000)∧TreeOwn w' (fun _=>True) ⟨A,c,l,r⟩∧Below wx.heap.size wx w' from fun wx hx=>by
       have h:=pexpr_any tb wx HTZ.out hx
       unfold PXPost at h
       rw[HFIN.out,ha4,←hx1,he3,←hx2]at h
       exact h.mono fun e w' ⟨⟨A,c,l,r⟩,h1,h2,h3,h4,h5⟩=>⟨A,c,l,r,h1,⟨h2,h3⟩,h4.mono (fun _ _ _=>trivial),h5⟩)
      have HRG:=Lib.hid (show e1=0→ ∀d∈(gramP ls).1,rightT d.body=true from fun h=>gram_rightB (s:=ls) (by have:=HSL.out;omega) (he1.trans h))
      have HRX:=Lib.hid (show e3=0→rightT (exprP ls).1=true from fun h=>expr_right (he3.trans h))
      have HNR:=Lib.hid (show e1≠0→(gramP ls).1=[]from fun h=>gram_none (he1.symm▸h))
      clear hg1 hg2 hx1 hx2 ha1 he1 ha2 ha3 he3 ha4 htz
      go_upto_region 13 with(first
       |(go_at_call 10;(with_reducible refine(HGA.out _ (HCT.out.below HBW.out)).mono ?_);rintro e w3 ⟨A1,c1,la,rfl,h1,h2⟩;have HA3:=Lib.hid h1;have HB3:=Lib.hid (Below.step HBW.out h2);clear h1 h2)
       |fail)
      have hb4:=bx1 w3 (.cells #[.slice A1 la.length c1] 35)
      have HA4:=Lib.hid (HA3.out.below hb4)
      have HKA4:=Lib.hid (bx_new w3 (.cells #[.slice A1 la.length c1] 35))
      have HB4:=Lib.hid (Below.step HB3.out hb4)
      clear hb4 HA3 HB3 HGA HBW HBi
      generalize (w3.alloc (.cells #[.slice A1 la.length c1] 35))=w4 at *
      generalize w3.heap.size=ga at *
      clear w3
      go_upto_region 14 with(first
       |(go_at_call 10;(with_reducible refine(HGB.out _ (HCT.out.below HB4.out)).mono ?_);rintro e w5 ⟨A2,c2,lb,rfl,h1,h2⟩;have HP5:=Lib.hid h1;have HA5:=Lib.hid (HA4.out.below h2);have HKA5:=Lib.hid (bx_kept h2 HKA4.out);have HB5:=Lib.hid (Below.step HB4.out h2);clear h1 h2)
       |fail)
      have hb6:=bx1 w5 (.cells #[.slice A2 lb.length c2] 35)
      have HA6:=Lib.hid (HA5.out.below hb6)
      have HP6:=Lib.hid (HP5.out.below hb6)
      have HKA6:=Lib.hid (bx_kept hb6 HKA5.out)
      have HKP6:=Lib.hid (bx_new w5 (.cells #[.slice A2 lb.length c2] 35))
      have HB6:=Lib.hid (Below.step HB5.out hb6)
      clear hb6 HA4 HB4 HKA4 HA5 HB5 HKA5 HP5 HGB
      generalize (w5.alloc (.cells #[.slice A2 lb.length c2] 35))=w6 at *
      generalize w5.heap.size=gb at *
      clear w5
      go_upto_region 15 with(first
       |(go_at_call 11;(with_reducible refine(HXA.out _ (HCT.out.below HB6.out)).mono ?_);rintro e w7 ⟨xA,xc,xl,xr,rfl,h1,h3,h2⟩;have HX7:=Lib.hid (And.intro h1 h3);have HB67:=Lib.hid h2;clear h1 h2 h3)
       |fail)
      have hb8:=bx1 w7 (.cells #[.slice xA xl.length xc,.int .i64 xr] 40)
      have hb68:=Below.step HB67.out hb8
      have HA8:=Lib.hid (HA6.out.below hb68)
      have HP8:=Lib.hid (HP6.out.below hb68)
      have HX8:=Lib.hid (HX7.out.2.below hb8)
      have HXT:=Lib.hid HX7.out.1
      have HKA8:=Lib.hid (bx_kept hb68 HKA6.out)
      have HKP8:=Lib.hid (bx_kept hb68 HKP6.out)
      have HKX8:=Lib.hid (bx_new w7 (.cells #[.slice xA xl.length xc,.int .i64 xr] 40))
      have HB8:=Lib.hid (Below.step HB6.out hb68)
      clear hb8 hb68 HA6 HP6 HKA6 HKP6 HB6 HB67 HX7 HXA
      generalize (w7.alloc (.cells #[.slice xA xl.length xc,.int .i64 xr] 40))=w8 at *
      generalize w7.heap.size=gx at *
      clear w7
      go_upto_region 16 with(first
       |(go_at_call 11;(with_reducible refine(HXB.out _ (HCT.out.below HB8.out)).mono ?_);rintro e w9 ⟨yA,yc,yl,yr,rfl,h1,h3,h2⟩;have HY9:=Lib.hid (And.intro h1 h3);have HB89:=Lib.hid h2;clear h1 h2 h3)
       |fail)
      have hb10:=bx1 w9 (.cells #[.slice yA yl.length yc,.int .i64 yr] 40)
      have hb810:=Below.step HB89.out hb10
      have HA:=Lib.hid (HA8.out.below hb810)
      have HP:=Lib.hid (HP8.out.below hb810)
      have HX:=Lib.hid (HX8.out.below hb810)
      have HY:=Lib.hid (HY9.out.2.below hb10)
      have HYT:=Lib.hid HY9.out.1
      have HKA:=Lib.hid (bx_kept hb810 HKA8.out)
      have HKP:=Lib.hid (bx_kept hb810 HKP8.out)
      have HKX:=Lib.hid (bx_kept hb810 HKX8.out)
      have HKY:=Lib.hid (bx_new w9 (.cells #[.slice yA yl.length yc,.int .i64 yr] 40))
      have HBW:=Lib.hid (Below.step HB8.out hb810)
      clear hb10 hb810 HA8 HP8 HX8 HKA8 HKP8 HKX8 HB8 HB89 HY9 HXB
      generalize (w9.alloc (.cells #[.slice yA yl.length yc,.int .i64 yr] 40))=W0 at *
      generalize w9.heap.size=gy at *
      clear w9
      have hab:la.length=lb.length:=by
       have h1:=congrArg List.length HA.out.df
       have h2:=congrArg List.length HP.out.df
       rw[List.length_map]at h1 h2
       rw[h1,h2]
      have HAB:=Lib.hid hab
      have hl64:la.length≤64:=by
       have h1:=congrArg List.length HA.out.df
       rw[List.length_map]at h1
       rw[h1];exact gram_len (by have:=HSL.out;omega)
      rw[←hab]at HKP
      clear hab
      have HCL:=Lib.hid (show ∀w',Below W0.heap.size W0 w'→w'.cell? ⟨ga,0,none⟩=some (.slice A1 la.length c1)∧w'.cell? ⟨gb,0,none⟩=some (.slice A2 la.length c2)from fun w' hb=>⟨(blk1 (bx_kept hb HKA.out)).1,(blk1 (bx_kept hb HKP.out)).1⟩)
      have HC0:=Lib.hid (Below.refl W0.heap.size W0)
      go_cut [118]from 92 to 118 (fun v118 wx=>v118=.bool false∧Hid (Below W0.heap.size W0 wx))
      case first=>
       obtain⟨pa,pb⟩:=HCL.out W0 HC0.out
       by_cases h3:e3=0
       ·have HR3:=Lib.hid (HRX.out h3)
        subst h3
        obtain⟨px1,px2,_,_⟩:=blk2 HKX.out
        obtain⟨py1,py2,_,_⟩:=blk2 HKY.out
        have HSM:=Lib.hid (show Calls Tryz.prog 12 #[.agg #[.slice xA xl.length xc,.int .i64 xr],.agg #[.slice yA yl.length yc,.int .i64 yr]] W0 fun e w'=>e=.returned (.bool true)∧Below W0.heap.size W0 w' from by
         have h3:=tsame_any xA yA xc yc xl yl xr yr _ _ W0 HX.out.inn.2 HY.out.inn.2 (by have:=HXT.out.2;omega) (by have:=HYT.out.2;omega) (HCT.out.below HBW.out)
         have e:sameT ⟨xl.map Ln.nd,xr⟩ ⟨yl.map Ln.nd,yr⟩=true:=by
          have e1:(⟨xl.map Ln.nd,xr⟩:Tr)=_:=HXT.out.1
          have e2:(⟨yl.map Ln.nd,yr⟩:Tr)=_:=HYT.out.1
          rw[e1,e2];exact sameT_reflB HR3.out
         rw[e]at h3;exact h3)
        go_wp2_with (first
         |(go_at_call 12;(with_reducible refine HSM.out.mono ?_);rintro e wx ⟨rfl,hb⟩;have HC:=Lib.hid hb;clear hb)
         |fail)
        go_meet
        exact⟨rfl,HC⟩
       ·have i8:((e3:Int)==0)=false:=by rw[beq_eq_false_iff_ne];omega
        go_wp2_with fail
        go_meet
        exact⟨rfl,HC0⟩
      case rest=>
       obtain⟨rfl,HC⟩:=hcut
       clear HX HY HXT HYT HKX HKY
       obtain⟨pa,pb⟩:=HCL.out wc HC.out
       go_upto_region 19 with(fail)
       go_loopw [23] (fun v23 wx=>∃q:Nat,q≤la.length∧v23=.int .i64 q∧Hid (Below W0.heap.size W0 wx)) (fun v23 _=>la.length-(intOf v23).toNat)
       case atStart=>exact⟨0,by omega,rfl,HC⟩
       case round=>
        clear pa pb
        obtain⟨q,hq,rfl,HBq⟩:=hrel
        obtain⟨pa,pb⟩:=HCL.out wr HBq.out
        by_cases hql:q<la.length
        ·have i3:(q:Int)<(la.length:Int):=by omega
         have hqb:q<lb.length:=by have:=HAB.out;omega
         obtain⟨bx,ox,rfl,_,_,y0,y1,y2⟩:=dfRow (HA.out.row.below HBq.out) q hql
         obtain⟨bu,ou,rfl,_,_,u0,u1,u2⟩:=dfRow (HP.out.row.below HBq.out) q hqb
         obtain⟨hga,n1,n2⟩:=HA.out.at hql
         obtain⟨hgb,m1,m2⟩:=HP.out.at hqb
         have hnm:lb[q].name=la[q].name:=m1.trans n1.symm
         have hbd:lb[q].t.tr=la[q].t.tr:=m2.trans n2.symm
         have HRI:=Lib.hid (show rightT la[q].t.tr=true from by
          rw[n2]
          refine HRG.out (Decidable.byContradiction fun h=> ?_) _ (List.getElem_mem hga)
          have:=HNR.out h
          rw[this]at hga;cases hga)
         have HIU:=Lib.hid (((HP.out.row.below HBq.out).2 _ (List.getElem_mem hqb)).2)
         have HIX:=Lib.hid (((HA.out.row.below HBq.out).2 _ (List.getElem_mem hql)).2)
         have hlu:=HP.out.len _ (List.getElem_mem hqb)
         have hlx:=HA.out.len _ (List.getElem_mem hql)
         rw[hnm]at u0
         clear hnm n1 n2 m1 m2 hga hgb
         generalize la[q]=dx at *
         generalize lb[q]=du at *
         obtain⟨xn,⟨xA,xc,xls,xr⟩⟩:=dx
         obtain⟨un,⟨uA,uc,uls,ur⟩⟩:=du
         simp only at u0 u1 u2 y0 y1 y2 hlu hlx
         have HSM:=Lib.hid (show ∀w',Below wr.heap.size wr w'→Calls Tryz.prog 12 #[.agg #[.slice xA xls.length xc,.int .i64 xr],.agg #[.slice uA uls.length uc,.int .i64 ur]] w' fun e w''=>e=.returned (.bool true)∧Below w'.heap.size w' w'' from fun w' hb=>by
          have h3:=tsame_any xA uA xc uc xls uls xr ur _ _ w' (HIX.out.below hb).2 (HIU.out.below hb).2 (by omega) (by omega) (HCT.out.below (Below.step HBW.out (Below.step HBq.out hb)))
          have e:sameT ⟨xls.map Ln.nd,xr⟩ ⟨uls.map Ln.nd,ur⟩=true:=by
           have e1:(⟨uls.map Ln.nd,ur⟩:Tr)=⟨xls.map Ln.nd,xr⟩:=hbd
           rw[e1];exact sameT_reflB HRI.out
          rw[e]at h3;exact h3)
         have HSC:=Lib.hid (show ∀w',Below wr.heap.size wr w'→w'.cell? ⟨ga,0,none⟩=some (.slice (some ⟨bx,ox,none⟩) la.length c1)∧w'.cell? ⟨gb,0,none⟩=some (.slice (some ⟨bu,ou,none⟩) la.length c2)∧w'.cell? ⟨bx,ox+q*3,none⟩=some (.string xn)∧w'.cell? ⟨bx,ox+q*3+1,none⟩=some (.slice xA xls.length xc)∧w'.cell? ⟨bx,ox+q*3+2,none⟩=some (.int .i64 xr)∧w'.cell? ⟨bu,ou+q*3,none⟩=some (.string xn)∧w'.cell? ⟨bu,ou+q*3+1,none⟩=some (.slice uA uls.length uc)∧w'.cell? ⟨bu,ou+q*3+2,none⟩=some (.int .i64 ur)from fun w' hb=>
          ⟨(hb.cell (cellLt pa)).trans pa,(hb.cell (cellLt pb)).trans pb,(hb.cell (cellLt y0)).trans y0,(hb.cell (cellLt y1)).trans y1,(hb.cell (cellLt y2)).trans y2,(hb.cell (cellLt u0)).trans u0,(hb.cell (cellLt u1)).trans u1,(hb.cell (cellLt u2)).trans u2⟩)
         have HBr:=Lib.hid (Below.refl wr.heap.size wr)
         go_upto_region 21 with(fail)
         clear pa pb u0 u1 u2 y0 y1 y2 HIU HIX hbd
         have HC:=HBr
         go_region_held3 (fun w'=>w'.cell? ⟨ga,0,none⟩=some (.slice (some ⟨bx,ox,none⟩) la.length c1)∧w'.cell? ⟨gb,0,none⟩=some (.slice (some ⟨bu,ou,none⟩) la.length c2)∧w'.cell? ⟨bx,ox+q*3,none⟩=some (.string xn)∧w'.cell? ⟨bx,ox+q*3+1,none⟩=some (.slice xA xls.length xc)∧w'.cell? ⟨bx,ox+q*3+2,none⟩=some (.int .i64 xr)∧w'.cell? ⟨bu,ou+q*3,none⟩=some (.string xn)∧w'.cell? ⟨bu,ou+q*3+1,none⟩=some (.slice uA uls.length uc)∧w'.cell? ⟨bu,ou+q*3+2,none⟩=some (.int .i64 ur))
          (exact HSC.out _ (by first|exact HC.out|exact HC.out.drew))
          (first
           |(go_at_call 12;(with_reducible refine(HSM.out _ (by first|exact HC.out|exact HC.out.drew)).mono ?_);rintro e wx ⟨rfl,hb⟩;have HC':=Lib.hid (Below.step (by first|exact HC.out|exact HC.out.drew) hb);clear HC;have HC:=HC';clear HC' hb)
           |fail)
         all_goals
          go_wp2_with fail
          exact⟨⟨q+1,by omega,by go_num,Lib.hid (Below.step HBq.out HC.out)⟩,by simp only[intOf];omega⟩
        ·obtain rfl:q=la.length:=by omega
         have i3:¬(la.length:Int)<(la.length:Int):=by omega
         go_wp2_with fail
         go_ret
         exact⟨rfl,Below.step HBW.out HBq.out⟩
  ·have i2:((er:Int)==0)=false:=by rw[beq_eq_false_iff_ne];omega
   go_enter Tryz.func3,Tryz.ntmps3
   go_wp2_with (first
    |(go_at_call 8;(with_reducible refine(HAW.out _ HB0.out).mono ?_);rintro e w1 ⟨rfl,hb⟩;have HB1:=Lib.hid hb;clear hb)
    |(go_at_call 9;(with_reducible refine(HWD.out _).mono ?_);rintro e w2 ⟨A,c,rfl,h1,h2⟩;have HB2:=Lib.hid (Below.step HB1.out h2);clear h1 h2)
    |fail)
   go_ret
   exact⟨rfl,HB2.out⟩
end Go.Proofs.YtpfokabdpmjobaaGreatDoor
