/- The contract of parse.Expr. -/
import Derived.Test.YtdnochjajoiooaaGreatDoorEc
import Derived.Deep.RegionHeld3
import Derived.Deep.DeepCutAuto
import Derived.Deep.Cut
import Derived.Deep.CutRange
namespace Go.Proofs.YtdnochjajoiooaaGreatDoor
open Go.RowKit
set_option linter.unusedSimpArgs false
set_option linter.unusedVariables false
def NP (s:List UInt8) (w:World) (e:Ending) (w':World):Prop:=
 ∃v:Lt,e=.returned (.tuple #[.agg #[.slice v.A v.ls.length v.c,.int .i64 v.root],.int .i64 ((Ef s).2.1:Int),.int .i64 ((Ef s).2.2:Int)])/\v.tr=(Ef s).1/\v.ls.length<=300000/\TreeOwn w' (w.heap.size <= ·) v/\Below w.heap.size w w'
theorem Jp {s:List UInt8} {w w2:World} {a e0:Nat} (hx:Ef s=(⟨[],0⟩,a,e0)) (hb:Below w.heap.size w w2):NP s w (.returned (.tuple #[.agg #[.slice none 0 0,.int .i64 0],.int .i64 (a:Int),.int .i64 (e0:Int)])) w2:=by
 refine⟨⟨none,0,[],0⟩,by rw[hx];rfl,by rw[hx];rfl,by simp,⟨by simp,⟨World.ownsRow_nil _ _ _ _,fun k hk=>(by cases hk)⟩,fun l hl=>(by cases hl)⟩,hb⟩
theorem RdM.aside {D:Ow->Prop} {w w':World} {B H:Nat} {f:Nat->Ow} {R:Rd} (h:RdM D w B f H R) (hk:R.keep=[]) (hs:w.heap.size<=w'.heap.size) (hb:∀k,B<=k->w'.heap[k]?=w.heap[k]?):∃f',RdM D w' B f' H R:=by
 have key:∀{o:Ow} {e:TypeId} {size n c:Nat} {V:Option Addr} {xs:List Value},OwnF w B f o e size V n c xs->OwnF w B (fun k=>if k<B then .tmp else f k) o e size V n c xs:=fun h=>⟨h.1,fun k hk=>by
  show(if k<B then Ow.tmp else f k)=_;rw[if_neg (by have:=(Aq h.1 k hk).1;omega)];exact h.2 k hk⟩
 have h1:RdM D w B (fun k=>if k<B then .tmp else f k) H R:=fun o ho=>by
  have h0:=h o ho;cases o with
  |out=>exact fun p hp=>by rw[hk]at hp;cases hp
  |tmp=>trivial
  |box=>exact⟨h0.1,h0.2.1,by show(if H<B then Ow.tmp else f H)=_;rw[if_neg (by have:=h0.2.1;omega)];exact h0.2.2⟩
  |words=>exact key h0
  |nodes=>exact key h0
  |kids=>exact fun l hl=>⟨(h0 l hl).1,key (h0 l hl).2⟩
  |list=>exact key h0
  |ways j=>exact fun hj=>key (h0 hj)
  |parts j=>exact fun hj=>key (h0 hj)
  |heads j=>exact fun hj=>key (h0 hj)
  |defs=>exact key h0
  |body j=>exact fun hj=>⟨(h0 hj).1,(h0 hj).2.mono fun k _ hk=>⟨by show(if k<B then Ow.tmp else f k)=_;rw[if_neg (by have:=hk.2;omega)];exact hk.1,hk.2⟩⟩
  |names=>exact key h0
  |calls=>exact key h0
 have K:KeepF (fun o=>o=.tmp) (fun k=>if k<B then .tmp else f k) (fun k=>if k<B then .tmp else f k) w w':=⟨hs,fun k _ hn=>hb k (by
  rcases Nat.lt_or_ge k B with h|h
  ·exact absurd (by show(if k<B then Ow.tmp else f k)=.tmp;rw[if_pos h]) hn
  ·exact h),fun _ _=>rfl⟩
 refine⟨fun k=>if k<B then .tmp else f k,fun o ho=> ?_⟩;by_cases e:o=.tmp
 ·subst e;trivial
 ·exact(h1 o ho).keep K e
set_option maxRecDepth 100000 in
set_option maxHeartbeats 6400000 in
theorem TE (s:ByteArray) (w:World) (hs:s.size<=281474976710656) (ht:CntTab w):Calls Tryz.prog 7 #[.string s] w (NP s.data.toList w):=by
 have HB0:=qd (bx1 w (.cells #[.slice none 0 0,.int .i64 0] 24));have HZ0:=qd (Ad w (.cells #[.slice none 0 0,.int .i64 0] 24));have HSZ:=qd (show(w.alloc (.cells #[.slice none 0 0,.int .i64 0] 24)).heap.size=w.heap.size+1 from by simp);have HBG:=qd (S5 s (w.alloc (.cells #[.slice none 0 0,.int .i64 0] 24)) hs);have HCT:=qd (ht.below HB0.out);have HCW:=qd ht;unfold JA at HBG;generalize hl:s.data.toList=l at *;clear hl ht hs;have HAL:=qd (S4 l);obtain⟨er,her⟩:∃er,(A4 l).2.2=er:=⟨_,rfl⟩
 have h3:er=0\/er=4\/er=40:=by
  rw[<-her];rcases GF l with⟨_,h⟩|⟨_,_,_,h⟩|⟨_,h,_⟩ <;> rw[h] <;> simp
 rw[her]at HBG;have HER:=qd her;clear her;by_cases h40:er=40
 ·subst h40;clear h3;have HX:=qd (show Ef l=(⟨[],0⟩,(A4 l).2.1,40)from by unfold Ef;rw[if_pos HER.out]);go_enter Tryz.func7,Tryz.ntmps7
  go_upto_region 1 with(fail)
  generalize (w.alloc (.cells #[.slice none 0 0,.int .i64 0] 24))=W0 at *
  go_upto_region 3 with(first
   |(go_at_call 24;(with_reducible refine HBG.out.mono ?_);rintro e w1 ⟨R,f,H,rfl,k1,k2,k3⟩;have HR:=qd k1;have HN:=qd k2;have HB1:=qd k3;clear k1 k2 k3)
   |fail)
  have HK:=qd (Ae HB1.out HZ0.out);have HBW:=qd (HB0.out.trans (HB1.out.mono (by have:=HSZ.out;omega)));obtain⟨_,p1,_,_,_,_,_,_,pf⟩:=EC (HR.out.box (fun h=>h));obtain⟨q0,q1,qf⟩:=Bd HK.out;have hltk:=Av HK.out;rw[HN.out.fin]at p1;have hH:¬H=w.heap.size:=by have h1:=(HR.out .box (fun h=>h)).2.1;have h2:=HSZ.out;omega
  have hH2:¬w.heap.size=H:=fun e=>hH e.symm
  go_region
  all_goals
   have hz:((w1.setCell ⟨w.heap.size,0,none⟩ (.slice none 0 0)).setCell ⟨w.heap.size,1,none⟩ (.int .i64 0)).drew.heap[w.heap.size]?=some (.cells #[.slice none 0 0,.int .i64 0] 24 (0,0)):=by
    have h0:((w1.setCell ⟨w.heap.size,0,none⟩ (.slice none 0 0)).setCell ⟨w.heap.size,1,none⟩ (.int .i64 0)).heap[w.heap.size]?=some (.cells #[.slice none 0 0,.int .i64 0] 24 (0,0)):=by simpa using As (i:=1) (As (i:=0) HK.out (.slice none 0 0)) (.int .i64 0)
    exact h0
   have HBZ:=qd (show Below w.heap.size w ((w1.setCell ⟨w.heap.size,0,none⟩ (.slice none 0 0)).setCell ⟨w.heap.size,1,none⟩ (.int .i64 0)).drew from((HBW.out.setCell (p:=⟨w.heap.size,0,none⟩) (Nat.le_refl _) _).setCell (p:=⟨w.heap.size,1,none⟩) (Nat.le_refl _) _).drew);clear q0 q1 qf;generalize ((w1.setCell ⟨w.heap.size,0,none⟩ (.slice none 0 0)).setCell ⟨w.heap.size,1,none⟩ (.int .i64 0)).drew=wz at *;obtain⟨q0,q1,_,_⟩:=Bd hz;go_wp2_with fail
   exact bodyPost_ret (v:=.tuple #[.agg #[.slice none 0 0,.int .i64 0],.int .i64 ((A4 l).2.1:Int),.int .i64 40]) (by simp[results,Tryz.results7,go_sem,q0,q1]) rfl (Jp HX.out HBZ.out)
 ·have i1:((er:Int)==40)=false:=by simp;omega
  have hne:(A4 l).2.2≠40:=by rw[HER.out];exact h40
  rcases hgo:Dn (A4 l).1 0 []with⟨⟨k⟩|⟨j,t⟩,C'⟩
  ·have HX:=qd (show Ef l=(⟨[],0⟩,Ek (A4 l).1 (A4 l).2.1 k,4)from by unfold Ef;rw[if_neg hne,hgo]);have HGO:=qd hgo;clear hgo hne h3;go_enter Tryz.func7,Tryz.ntmps7
   go_upto_region 1 with(fail)
   generalize (w.alloc (.cells #[.slice none 0 0,.int .i64 0] 24))=W0 at *
   go_upto_region 4 with(first
    |(go_at_call 24;(with_reducible refine HBG.out.mono ?_);rintro e w1 ⟨R,f,H,rfl,k1,k2,k3⟩;have HR:=qd k1;have HN:=qd k2;have HB1:=qd k3;clear k1 k2 k3)
    |fail)
   have HCH:=qd (show Calls Tryz.prog 25 #[.pointer (some ⟨H,0,none⟩)] w1 (Dc W0.heap.size H R ⟨0,[DS],[]⟩ w1)from by
    have h1:=Kn (fun _=>False) w1 W0.heap.size f H R [] (HR.out.mono (fun _ h=>h.elim)) (fun _ h=>h) (by rw[HN.out.W];exact fun x hx=>(HAL.out.1 x hx).1) (by rw[HN.out.cs];rfl) (by simp) (by rw[HN.out.i];omega) (by rw[HN.out.W];exact HAL.out.2) (by rw[HN.out.W];exact fun x hx=>(HAL.out.1 x hx).2) (fun w' hb=>HCT.out.below (HB1.out.trans hb)) HB1.out.size;rw[HN.out.i]at h1;exact h1)
   unfold Dc at HCH;have HGR:=qd (show goP R.W ⟨0,[DS],[]⟩=Dn (A4 l).1 0 []from by rw[HN.out.W];rfl)
   go_upto_region 5 with(first
    |(go_at_call 25;(with_reducible refine HCH.out.mono ?_);rintro e w2 ⟨_,h1⟩;obtain⟨nA5,nc5,ls5,lA5,lc5,os5,cA5,cc5,f5,rfl,h2,h3⟩:=h1 k C' (HGR.out.trans HGO.out);have HR2:=qd h2;have HB2:=qd h3;clear h1 h2 h3;obtain⟨q0,q1,_,qf⟩:=Bd (Ae (HB1.out.trans HB2.out) HZ0.out))
    |fail)
   have HK:=qd (show((w2.setCell ⟨w.heap.size,0,none⟩ (.slice none 0 0)).setCell ⟨w.heap.size,1,none⟩ (.int .i64 0)).heap[w.heap.size]?=some (.cells #[.slice none 0 0,.int .i64 0] 24 (0,0))from by simpa using As (i:=1) (As (i:=0) (Ae (HB1.out.trans HB2.out) HZ0.out) (.slice none 0 0)) (.int .i64 0));have HKB:=qd (show ∀k,k≠w.heap.size->((w2.setCell ⟨w.heap.size,0,none⟩ (.slice none 0 0)).setCell ⟨w.heap.size,1,none⟩ (.int .i64 0)).heap[k]?=w2.heap[k]? from fun k hk=>(Below.heap_setCell _ ⟨w.heap.size,1,none⟩ _ k hk).trans (Below.heap_setCell _ ⟨w.heap.size,0,none⟩ _ k hk));have hsz0:=HSZ.out;have HBW:=qd (show Below w.heap.size w ((w2.setCell ⟨w.heap.size,0,none⟩ (.slice none 0 0)).setCell ⟨w.heap.size,1,none⟩ (.int .i64 0))from(((HB0.out.trans ((HB1.out.trans HB2.out).mono (by omega))).setCell (p:=⟨w.heap.size,0,none⟩) (Nat.le_refl _) _).setCell (p:=⟨w.heap.size,1,none⟩) (Nat.le_refl _) _));obtain⟨f6,hr6⟩:∃f6,RdM Dch ((w2.setCell ⟨w.heap.size,0,none⟩ (.slice none 0 0)).setCell ⟨w.heap.size,1,none⟩ (.int .i64 0)) W0.heap.size f6 H {R with i:=k,nA:=nA5,nc:=nc5,ls:=ls5,lA:=lA5,lc:=lc5,os:=os5,cA:=cA5,cc:=cc5,cs:=C'.map (wdW R.W)}:=HR2.out.aside HN.out.keep (by simp) (fun k hk=>HKB.out k (by omega));have HR3:=qd hr6;clear hr6;clear q0 q1 qf;generalize ((w2.setCell ⟨w.heap.size,0,none⟩ (.slice none 0 0)).setCell ⟨w.heap.size,1,none⟩ (.int .i64 0))=w3 at *;go_quiet (fail)
   go_upto_region 6 with(fail)
   have HKq:=qd (show(w3.drewN nq).heap[w.heap.size]?=_ from HK.out);have HBq:=qd (Below.drewN'' HBW.out nq);have HRq:=qd (HR3.out.below (Below.drewN'' (Below.refl _ w3) nq));clear HK HBW HR3 HKB;generalize (w3.drewN nq)=w4 at *;have HPL:=qd (MM Dch w4 W0.heap.size f6 H _ HRq.out ⟨fun h=>h,fun h=>h⟩);simp only[HN.out.W,HN.out.fin]at HPL
   go_wp2_with (first
    |(go_at_call 26;(with_reducible refine HPL.out.mono ?_);rintro e w5 ⟨rfl,hb⟩;have HB5:=qd hb;clear hb;obtain⟨q0,q1,_,qf⟩:=Bd (Ae HB5.out HKq.out))
    |fail)
   have HK:=qd (Ae HB5.out HKq.out);have HBW:=qd (HBq.out.trans (HB5.out.mono HBq.out.size))
   have hz:((w5.setCell ⟨w.heap.size,0,none⟩ (.slice none 0 0)).setCell ⟨w.heap.size,1,none⟩ (.int .i64 0)).heap[w.heap.size]?=some (.cells #[.slice none 0 0,.int .i64 0] 24 (0,0)):=by
    have h0:((w5.setCell ⟨w.heap.size,0,none⟩ (.slice none 0 0)).setCell ⟨w.heap.size,1,none⟩ (.int .i64 0)).heap[w.heap.size]?=some (.cells #[.slice none 0 0,.int .i64 0] 24 (0,0)):=by simpa using As (i:=1) (As (i:=0) HK.out (.slice none 0 0)) (.int .i64 0)
    exact h0
   have HBZ:=qd (show Below w.heap.size w ((w5.setCell ⟨w.heap.size,0,none⟩ (.slice none 0 0)).setCell ⟨w.heap.size,1,none⟩ (.int .i64 0))from((HBW.out.setCell (p:=⟨w.heap.size,0,none⟩) (Nat.le_refl _) _).setCell (p:=⟨w.heap.size,1,none⟩) (Nat.le_refl _) _));clear q0 q1 qf;generalize ((w5.setCell ⟨w.heap.size,0,none⟩ (.slice none 0 0)).setCell ⟨w.heap.size,1,none⟩ (.int .i64 0))=wz at *;obtain⟨q0,q1,_,_⟩:=Bd hz;skip
   exact bodyPost_ret (v:=.tuple #[.agg #[.slice none 0 0,.int .i64 0],.int .i64 (Ek (A4 l).1 (A4 l).2.1 k:Int),.int .i64 4]) (by simp[results,Tryz.results7,go_sem,q0,q1]) rfl (Jp HX.out HBZ.out)
  ·have HGO:=qd hgo;have HT:=qd (show Ef l=if j<(A4 l).1.length then(⟨[],0⟩,Ek (A4 l).1 (A4 l).2.1 j,4)else if er≠0 then(⟨[],0⟩,(A4 l).2.1,er)else if !JF (Il t)then(⟨[],0⟩,(A4 l).2.1,40)else(Il t,0,0)from by unfold Ef;rw[if_neg hne,hgo,<-HER.out]);clear hgo hne;go_enter Tryz.func7,Tryz.ntmps7
   go_upto_region 1 with(fail)
   generalize (w.alloc (.cells #[.slice none 0 0,.int .i64 0] 24))=W0 at *
   go_upto_region 4 with(first
    |(go_at_call 24;(with_reducible refine HBG.out.mono ?_);rintro e w1 ⟨R,f,H,rfl,k1,k2,k3⟩;have HR:=qd k1;have HN:=qd k2;have HB1:=qd k3;clear k1 k2 k3)
    |fail)
   have HCH:=qd (show Calls Tryz.prog 25 #[.pointer (some ⟨H,0,none⟩)] w1 (Dc W0.heap.size H R ⟨0,[DS],[]⟩ w1)from by
    have h1:=Kn (fun _=>False) w1 W0.heap.size f H R [] (HR.out.mono (fun _ h=>h.elim)) (fun _ h=>h) (by rw[HN.out.W];exact fun x hx=>(HAL.out.1 x hx).1) (by rw[HN.out.cs];rfl) (by simp) (by rw[HN.out.i];omega) (by rw[HN.out.W];exact HAL.out.2) (by rw[HN.out.W];exact fun x hx=>(HAL.out.1 x hx).2) (fun w' hb=>HCT.out.below (HB1.out.trans hb)) HB1.out.size;rw[HN.out.i]at h1;exact h1)
   unfold Dc at HCH;have HGR:=qd (show goP R.W ⟨0,[DS],[]⟩=Dn (A4 l).1 0 []from by rw[HN.out.W];rfl)
   go_upto_region 5 with(first
    |(go_at_call 25;(with_reducible refine HCH.out.mono ?_);rintro e w2 ⟨h1,_⟩;obtain⟨⟨vA,vc,vls,vr⟩,nA5,nc5,ls5,lA5,lc5,os5,cA5,cc5,f5,rfl,h2,h2l,h3,h4,h5⟩:=h1 j t C' (HGR.out.trans HGO.out);have HV:=qd h2;have HVL:=qd h2l;have HVO:=qd h3;have HR2:=qd h4;have HB2:=qd h5;clear h1 h2 h2l h3 h4 h5;obtain⟨q0,q1,_,qf⟩:=Bd (Ae (HB1.out.trans HB2.out) HZ0.out))
    |fail)
   have HK:=qd (show((w2.setCell ⟨w.heap.size,0,none⟩ (.slice vA vls.length vc)).setCell ⟨w.heap.size,1,none⟩ (.int .i64 vr)).heap[w.heap.size]?=some (.cells #[.slice vA vls.length vc,.int .i64 vr] 24 (0,0))from by simpa using As (i:=1) (As (i:=0) (Ae (HB1.out.trans HB2.out) HZ0.out) (.slice vA vls.length vc)) (.int .i64 vr));have HKB:=qd (show ∀k,k≠w.heap.size->((w2.setCell ⟨w.heap.size,0,none⟩ (.slice vA vls.length vc)).setCell ⟨w.heap.size,1,none⟩ (.int .i64 vr)).heap[k]?=w2.heap[k]? from fun k hk=>(Below.heap_setCell _ ⟨w.heap.size,1,none⟩ _ k hk).trans (Below.heap_setCell _ ⟨w.heap.size,0,none⟩ _ k hk));have hsz0:=HSZ.out;have HBW:=qd (show Below w.heap.size w ((w2.setCell ⟨w.heap.size,0,none⟩ (.slice vA vls.length vc)).setCell ⟨w.heap.size,1,none⟩ (.int .i64 vr))from(((HB0.out.trans ((HB1.out.trans HB2.out).mono (by omega))).setCell (p:=⟨w.heap.size,0,none⟩) (Nat.le_refl _) _).setCell (p:=⟨w.heap.size,1,none⟩) (Nat.le_refl _) _));obtain⟨f6,hr6⟩:∃f6,RdM Dch ((w2.setCell ⟨w.heap.size,0,none⟩ (.slice vA vls.length vc)).setCell ⟨w.heap.size,1,none⟩ (.int .i64 vr)) W0.heap.size f6 H {R with i:=j,nA:=nA5,nc:=nc5,ls:=ls5,lA:=lA5,lc:=lc5,os:=os5,cA:=cA5,cc:=cc5,cs:=C'.map (wdW R.W)}:=HR2.out.aside HN.out.keep (by simp) (fun k hk=>HKB.out k (by omega));have HR3:=qd hr6;clear hr6;clear q0 q1 qf;have HV3:=qd (show TreeOwn ((w2.setCell ⟨w.heap.size,0,none⟩ (.slice vA vls.length vc)).setCell ⟨w.heap.size,1,none⟩ (.int .i64 vr)) (W0.heap.size <= ·) ⟨vA,vc,vls,vr⟩from(HVO.out.mono (T:=fun k=>W0.heap.size<=k) (fun k _ h=>h.2)).agree (fun k hk _=>HKB.out k (by have hk:W0.heap.size<=k:=hk;omega)));generalize ((w2.setCell ⟨w.heap.size,0,none⟩ (.slice vA vls.length vc)).setCell ⟨w.heap.size,1,none⟩ (.int .i64 vr))=w3 at *;have HBX:=qd (show w3.heap[H]?=some (.cells #[.slice R.WA R.W.length R.Wc,.int .i64 (R.fin:Int),.int .i64 (j:Int),.slice nA5 ls5.length nc5,.slice lA5 os5.length lc5,.slice R.dA R.ds.length R.dc,.slice R.mA R.ms.length R.mc,.slice cA5 (C'.map (wdW R.W)).length cc5] 72 (0,0))from HR3.out.box (fun h=>h));obtain⟨p0,p1,p2,_,_,_,_,_,pf⟩:=EC HBX.out;rw[HN.out.fin]at p1;rw[HN.out.W]at p0;by_cases hjl:j<(A4 l).1.length
   ·have HX:=qd (show Ef l=(⟨[],0⟩,Ek (A4 l).1 (A4 l).2.1 j,4)from by rw[HT.out,if_pos hjl]);have hjl':(j:Int)<((A4 l).1.length:Int):=by omega
    clear HT hjl;go_quiet (fail)
    go_upto_region 6 with(fail)
    have HKq:=qd (show(w3.drewN nq).heap[w.heap.size]?=_ from HK.out);have HBq:=qd (Below.drewN'' HBW.out nq);have HRq:=qd (HR3.out.below (Below.drewN'' (Below.refl _ w3) nq));have HVq:=qd (HV3.out.below (Below.drewN'' (Below.refl _ w3) nq));have HBXq:=qd (show(w3.drewN nq).heap[H]?=_ from HBX.out);have hH:¬H=w.heap.size:=by have h1:=(HRq.out .box (fun h=>h)).2.1;have h2:=HSZ.out;omega
    have hH2:¬w.heap.size=H:=fun e=>hH e.symm
    clear HK HBW HR3 HKB HV3 HBX p0 p1 p2 pf;generalize (w3.drewN nq)=w4 at *;have HPL:=qd (MM Dch w4 W0.heap.size f6 H _ HRq.out ⟨fun h=>h,fun h=>h⟩);simp only[HN.out.W,HN.out.fin]at HPL
    go_wp2_with (first
     |(go_at_call 26;(with_reducible refine HPL.out.mono ?_);rintro e w5 ⟨rfl,hb⟩;have HB5:=qd hb;clear hb;obtain⟨q0,q1,_,qf⟩:=Bd (Ae HB5.out HKq.out))
     |fail)
    have HK:=qd (Ae HB5.out HKq.out);have HBW:=qd (HBq.out.trans (HB5.out.mono HBq.out.size))
    have hz:((w5.setCell ⟨w.heap.size,0,none⟩ (.slice none 0 0)).setCell ⟨w.heap.size,1,none⟩ (.int .i64 0)).heap[w.heap.size]?=some (.cells #[.slice none 0 0,.int .i64 0] 24 (0,0)):=by
     have h0:((w5.setCell ⟨w.heap.size,0,none⟩ (.slice none 0 0)).setCell ⟨w.heap.size,1,none⟩ (.int .i64 0)).heap[w.heap.size]?=some (.cells #[.slice none 0 0,.int .i64 0] 24 (0,0)):=by simpa using As (i:=1) (As (i:=0) HK.out (.slice none 0 0)) (.int .i64 0)
     exact h0
    have HBZ:=qd (show Below w.heap.size w ((w5.setCell ⟨w.heap.size,0,none⟩ (.slice none 0 0)).setCell ⟨w.heap.size,1,none⟩ (.int .i64 0))from((HBW.out.setCell (p:=⟨w.heap.size,0,none⟩) (Nat.le_refl _) _).setCell (p:=⟨w.heap.size,1,none⟩) (Nat.le_refl _) _));clear q0 q1 qf;generalize ((w5.setCell ⟨w.heap.size,0,none⟩ (.slice none 0 0)).setCell ⟨w.heap.size,1,none⟩ (.int .i64 0))=wz at *;obtain⟨q0,q1,_,_⟩:=Bd hz;skip
    exact bodyPost_ret (v:=.tuple #[.agg #[.slice none 0 0,.int .i64 0],.int .i64 (Ek (A4 l).1 (A4 l).2.1 j:Int),.int .i64 4]) (by simp[results,Tryz.results7,go_sem,q0,q1]) rfl (Jp HX.out HBZ.out)
   ·have hjl':((A4 l).1.length:Int)<=(j:Int):=by omega
    have hjl2:¬(j:Int)<((A4 l).1.length:Int):=by omega
    rw[if_neg hjl]at HT;clear hjl;by_cases he:er=0
    ·subst he;rw[if_neg (by simp)]at HT;go_quiet (fail)
     go_upto_region 9 with(fail)
     have HKq:=qd (show(w3.drewN nq).heap[w.heap.size]?=_ from HK.out);have HBq:=qd (Below.drewN'' HBW.out nq);have HRq:=qd (HR3.out.below (Below.drewN'' (Below.refl _ w3) nq));have HVq:=qd (HV3.out.below (Below.drewN'' (Below.refl _ w3) nq));have HBXq:=qd (show(w3.drewN nq).heap[H]?=_ from HBX.out);have hH:¬H=w.heap.size:=by have h1:=(HRq.out .box (fun h=>h)).2.1;have h2:=HSZ.out;omega
     have hH2:¬w.heap.size=H:=fun e=>hH e.symm
     clear HK HBW HR3 HKB HV3 HBX p0 p1 p2 pf;generalize (w3.drewN nq)=w4 at *;obtain⟨mb,hmb⟩:∃b,JF (Il t)=b:=⟨_,rfl⟩;rw[hmb]at HT
     have HMY:=qd (show Calls Tryz.prog 9 #[.agg #[.slice vA vls.length vc,.int .i64 vr]] w4 fun e w'=>e=.returned (.bool mb)/\Below w4.heap.size w4 w' from by
      have h1:=OJ ⟨vA,vc,vls,vr⟩ _ w4 HVq.out.inn (by have h9:vls.length<=300000:=HVL.out;show vls.length<=_;omega) (HCW.out.below HBq.out);have e:(⟨vA,vc,vls,vr⟩:Lt).tr=Il t:=HV.out;rw[e,hmb]at h1;exact h1)
     clear hmb;obtain⟨q0,q1,qf⟩:=Bd HKq.out;cases mb
     ·have HX:=qd (show Ef l=(⟨[],0⟩,(A4 l).2.1,40)from by rw[HT.out];rfl)
      go_upto_region 10 with(first
       |(go_at_call 9;(with_reducible refine HMY.out.mono ?_);rintro e w5 ⟨rfl,hb⟩;have HB5:=qd hb;clear hb)
       |fail)
      clear q0 q1 qf;have HK:=qd (Ae HB5.out HKq.out);have HBW:=qd (HBq.out.trans (HB5.out.mono HBq.out.size));obtain⟨_,p1,_,_,_,_,_,_,pf⟩:=EC (Ae HB5.out HBXq.out);rw[HN.out.fin]at p1;obtain⟨q0,q1,qf⟩:=Bd HK.out;go_region
      all_goals
       have hz:((w5.setCell ⟨w.heap.size,0,none⟩ (.slice none 0 0)).setCell ⟨w.heap.size,1,none⟩ (.int .i64 0)).drew.heap[w.heap.size]?=some (.cells #[.slice none 0 0,.int .i64 0] 24 (0,0)):=by
        have h0:((w5.setCell ⟨w.heap.size,0,none⟩ (.slice none 0 0)).setCell ⟨w.heap.size,1,none⟩ (.int .i64 0)).heap[w.heap.size]?=some (.cells #[.slice none 0 0,.int .i64 0] 24 (0,0)):=by simpa using As (i:=1) (As (i:=0) HK.out (.slice none 0 0)) (.int .i64 0)
        exact h0
       have HBZ:=qd (show Below w.heap.size w ((w5.setCell ⟨w.heap.size,0,none⟩ (.slice none 0 0)).setCell ⟨w.heap.size,1,none⟩ (.int .i64 0)).drew from((HBW.out.setCell (p:=⟨w.heap.size,0,none⟩) (Nat.le_refl _) _).setCell (p:=⟨w.heap.size,1,none⟩) (Nat.le_refl _) _).drew);clear q0 q1 qf;generalize ((w5.setCell ⟨w.heap.size,0,none⟩ (.slice none 0 0)).setCell ⟨w.heap.size,1,none⟩ (.int .i64 0)).drew=wz at *;obtain⟨q0,q1,_,_⟩:=Bd hz;go_wp2_with fail
       exact bodyPost_ret (v:=.tuple #[.agg #[.slice none 0 0,.int .i64 0],.int .i64 ((A4 l).2.1:Int),.int .i64 40]) (by simp[results,Tryz.results7,go_sem,q0,q1]) rfl (Jp HX.out HBZ.out)
     ·have HX:=qd (show Ef l=(Il t,0,0)from by rw[HT.out];rfl)
      go_upto_region 11 with(first
       |(go_at_call 9;(with_reducible refine HMY.out.mono ?_);rintro e w5 ⟨rfl,hb⟩;have HB5:=qd hb;clear hb)
       |fail)
      clear q0 q1 qf;have HK:=qd (Ae HB5.out HKq.out);have HBW:=qd (HBq.out.trans (HB5.out.mono HBq.out.size));obtain⟨q0,q1,_,qf⟩:=Bd HK.out;go_wp2_with fail
      have hz:((w5.setCell ⟨w.heap.size,0,none⟩ (.slice vA vls.length vc)).setCell ⟨w.heap.size,1,none⟩ (.int .i64 vr)).heap[w.heap.size]?=some (.cells #[.slice vA vls.length vc,.int .i64 vr] 24 (0,0)):=by simpa using As (i:=1) (As (i:=0) HK.out (.slice vA vls.length vc)) (.int .i64 vr)
      have hsz:=HSZ.out;have HPX:=qd (show NP l w (.returned (.tuple #[.agg #[.slice vA vls.length vc,.int .i64 vr],.int .i64 0,.int .i64 0])) ((w5.setCell ⟨w.heap.size,0,none⟩ (.slice vA vls.length vc)).setCell ⟨w.heap.size,1,none⟩ (.int .i64 vr))from⟨⟨vA,vc,vls,vr⟩,by rw[HX.out];rfl,by rw[HX.out];exact HV.out,HVL.out,((HVq.out.below HB5.out).agree (fun k hk _=>(Below.heap_setCell _ ⟨w.heap.size,1,none⟩ _ k (by have hk:W0.heap.size<=k:=hk;show k≠w.heap.size;omega)).trans (Below.heap_setCell _ ⟨w.heap.size,0,none⟩ _ k (by have hk:W0.heap.size<=k:=hk;show k≠w.heap.size;omega)))).mono (fun k _ hk=>by have hk:W0.heap.size<=k:=hk;show w.heap.size<=k;omega),(HBW.out.setCell (p:=⟨w.heap.size,0,none⟩) (Nat.le_refl _) _).setCell (p:=⟨w.heap.size,1,none⟩) (Nat.le_refl _) _⟩);clear q0 q1 qf;generalize ((w5.setCell ⟨w.heap.size,0,none⟩ (.slice vA vls.length vc)).setCell ⟨w.heap.size,1,none⟩ (.int .i64 vr))=wz at *;obtain⟨q0,q1,_,_⟩:=Bd hz;exact bodyPost_ret (v:=.tuple #[.agg #[.slice vA vls.length vc,.int .i64 vr],.int .i64 0,.int .i64 0]) (by simp[results,Tryz.results7,go_sem,q0,q1]) rfl HPX.out
    ·have HX:=qd (show Ef l=(⟨[],0⟩,(A4 l).2.1,er)from by rw[HT.out,if_pos he]);have i2:((er:Int)==0)=false:=by simp;omega
     go_quiet (fail)
     go_upto_region 8 with(fail)
     have HKq:=qd (show(w3.drewN nq).heap[w.heap.size]?=_ from HK.out);have HBq:=qd (Below.drewN'' HBW.out nq);have HRq:=qd (HR3.out.below (Below.drewN'' (Below.refl _ w3) nq));have HVq:=qd (HV3.out.below (Below.drewN'' (Below.refl _ w3) nq));have HBXq:=qd (show(w3.drewN nq).heap[H]?=_ from HBX.out);have hH:¬H=w.heap.size:=by have h1:=(HRq.out .box (fun h=>h)).2.1;have h2:=HSZ.out;omega
     have hH2:¬w.heap.size=H:=fun e=>hH e.symm
     clear HK HBW HR3 HKB HV3 HBX p0 p1 p2 pf;generalize (w3.drewN nq)=w4 at *;have HK:=HKq;have HBW:=HBq;obtain⟨_,p1,_,_,_,_,_,_,pf⟩:=EC HBXq.out;rw[HN.out.fin]at p1;obtain⟨q0,q1,qf⟩:=Bd HK.out;go_region
     all_goals
      have hz:((w4.setCell ⟨w.heap.size,0,none⟩ (.slice none 0 0)).setCell ⟨w.heap.size,1,none⟩ (.int .i64 0)).drew.heap[w.heap.size]?=some (.cells #[.slice none 0 0,.int .i64 0] 24 (0,0)):=by
       have h0:((w4.setCell ⟨w.heap.size,0,none⟩ (.slice none 0 0)).setCell ⟨w.heap.size,1,none⟩ (.int .i64 0)).heap[w.heap.size]?=some (.cells #[.slice none 0 0,.int .i64 0] 24 (0,0)):=by simpa using As (i:=1) (As (i:=0) HK.out (.slice none 0 0)) (.int .i64 0)
       exact h0
      have HBZ:=qd (show Below w.heap.size w ((w4.setCell ⟨w.heap.size,0,none⟩ (.slice none 0 0)).setCell ⟨w.heap.size,1,none⟩ (.int .i64 0)).drew from((HBW.out.setCell (p:=⟨w.heap.size,0,none⟩) (Nat.le_refl _) _).setCell (p:=⟨w.heap.size,1,none⟩) (Nat.le_refl _) _).drew);clear q0 q1 qf;generalize ((w4.setCell ⟨w.heap.size,0,none⟩ (.slice none 0 0)).setCell ⟨w.heap.size,1,none⟩ (.int .i64 0)).drew=wz at *;obtain⟨q0,q1,_,_⟩:=Bd hz;go_wp2_with fail
      exact bodyPost_ret (v:=.tuple #[.agg #[.slice none 0 0,.int .i64 0],.int .i64 ((A4 l).2.1:Int),.int .i64 (er:Int)]) (by simp[results,Tryz.results7,go_sem,q0,q1]) rfl (Jp HX.out HBZ.out)
end Go.Proofs.YtdnochjajoiooaaGreatDoor
