/- The contracts of the reader's head and begin. -/
import Derived.Test.YtdnochjajoiooaaGreatDoorJt
namespace Go.Proofs.YtdnochjajoiooaaGreatDoor
open Go.RowKit
set_option linter.unusedSimpArgs false
set_option linter.unusedVariables false
theorem Pa:(Tryz.prog.info? 99).map (fun i=>(i.zero,i.size,i.bytes))=some (some (.agg #[.int .u8 0,.string ByteArray.empty,.slice none 0 0,.slice none 0 0,.slice none 0 0]),5,96):=by kernel_rfl
abbrev C5 (fn:Nat) (nm:List UInt8):Ol:=⟨fn,nm,none,0,[],none,0,[],none,0,[]⟩
theorem WD {w:World} {b:Nat} {x0 x1 x2 x3 x4:Value} {T:TypeId} (h:w.heap[b]?=some (.cells #[x0,x1,x2,x3,x4] T (0,0))):
  w.cell? ⟨b,0,none⟩=some x0/\w.cell? ⟨b,1,none⟩=some x1/\w.cell? ⟨b,2,none⟩=some x2/\w.cell? ⟨b,3,none⟩=some x3/\w.cell? ⟨b,4,none⟩=some x4/\w.frozen? ⟨b,0,none⟩=false/\w.frozen? ⟨b,1,none⟩=false/\w.frozen? ⟨b,2,none⟩=false/\w.frozen? ⟨b,3,none⟩=false/\w.frozen? ⟨b,4,none⟩=false:=by
 simp[World.cell?,World.frozen?,h]
abbrev set5 (w:World) (b:Nat) (x0 x1 x2 x3 x4:Value):World:=((((w.setCell ⟨b,0,none⟩ x0).setCell ⟨b,1,none⟩ x1).setCell ⟨b,2,none⟩ x2).setCell ⟨b,3,none⟩ x3).setCell ⟨b,4,none⟩ x4
theorem UR {w:World} {b:Nat} {y0 y1 y2 y3 y4:Value} {T:TypeId} (h:w.heap[b]?=some (.cells #[y0,y1,y2,y3,y4] T (0,0))) (x0 x1 x2 x3 x4:Value):(set5 w b x0 x1 x2 x3 x4).heap[b]?=some (.cells #[x0,x1,x2,x3,x4] T (0,0)):=by
 have h:=As (i:=0) h x0;have h:=As (i:=1) h x1;have h:=As (i:=2) h x2;have h:=As (i:=3) h x3;have h:=As (i:=4) h x4;simpa using h
theorem Qx (w:World) {B b:Nat} (hb:B<=b) (x0 x1 x2 x3 x4:Value):Below B w (set5 w b x0 x1 x2 x3 x4):=
 (((((Below.refl B w).setCell (p:=⟨b,0,none⟩) hb x0).setCell (p:=⟨b,1,none⟩) hb x1).setCell (p:=⟨b,2,none⟩) hb x2).setCell (p:=⟨b,3,none⟩) hb x3).setCell (p:=⟨b,4,none⟩) hb x4
theorem KeepF.set5 {X:Ow->Prop} {f:Nat->Ow} {w:World} {b:Nat} (h:X (f b)) (x0 x1 x2 x3 x4:Value):KeepF X f f w (set5 w b x0 x1 x2 x3 x4):=
 ((((KeepF.set h).trans (KeepF.set h)).trans (KeepF.set h)).trans (KeepF.set h)).trans (KeepF.set h)
theorem MP {D:Ow->Prop} {w W1 w2:World} {B:Nat} {f:Nat->Ow} {H:Nat} {R:Rd} {fn:Nat} {nm:List UInt8} {V V':Option Addr} {vc' m:Nat} (h:RdM D w B f H R) (hD:¬D .box/\ ¬D .list) (hb:Below w.heap.size w W1) (hm:R.os.length=m) (hV:R.lA=V)
  (hO2:w2.ownsRow B 99 5 (.slice V' (m+1) vc') (m+1) (olL.all (R.os++[C5 fn nm]))) (hg:W1.grownBy w2 (Ai V)) (hv:Ai V'=Ai V\/Ai V'=some W1.heap.size) (hB:B<=w.heap.size):
  RdM D (w2.setCell ⟨H,4,none⟩ (.slice V' (m+1) vc')) B (BD f W1.heap.size .list) H {R with lA:=V',lc:=vc',os:=R.os++[C5 fn nm]}/\Below B w (w2.setCell ⟨H,4,none⟩ (.slice V' (m+1) vc')):=by
 subst hm hV;have k1:KeepF (fun o=>o=.box\/o=.list) f f w W1:=KeepF.below hb;have hO1:OwnF W1 B f .list 99 5 R.lA R.os.length R.lc (olL.all R.os):=OwnF.below (h .list hD.2) hb;have k2:KeepF (fun o=>o=.box\/o=.list) f (BD f W1.heap.size .list) W1 w2:=KeepF.grown hO1 (.inr rfl) hg;obtain⟨hbx,hBH,hfH⟩:=h .box hD.1;have hlt:H<w.heap.size:=(Array.getElem?_eq_some_iff.1 hbx).1;have hlt1:H<W1.heap.size:=Nat.lt_of_lt_of_le hlt hb.size;have fH:BD f W1.heap.size .list H=.box:=by unfold BD;rw[if_neg (by omega)];exact hfH
 have k3:KeepF (fun o=>o=.box\/o=.list) (BD f W1.heap.size .list) (BD f W1.heap.size .list) w2 (w2.setCell ⟨H,4,none⟩ (.slice V' (R.os.length+1) vc')):=KeepF.set (.inl fH);have K:=k1.trans (k2.trans k3);have hne:¬some H=Ai R.lA:=fun e=>by have:=hO1.2 H e.symm;rw[hfH]at this;cases this
 have key:∀j (hj:j<(R.os++[C5 fn nm]).length),(∃hj':j<R.os.length,(R.os++[C5 fn nm])[j]=R.os[j])\/(R.os++[C5 fn nm])[j]=C5 fn nm:=fun j hj=>by
  by_cases hj':j<R.os.length
  ·exact .inl ⟨hj',List.getElem_append_left hj'⟩
  ·refine .inr ?_;rw[List.getElem_append_right (by omega)];have:j-R.os.length=0:=by simp at hj;omega
   simp[this]
 refine⟨h.step K (fun o ho hX=> ?_) (fun o ho hX hr=> ?_),?_⟩
 ·rcases hX with rfl|rfl
  ·refine⟨?_,hBH,fH⟩;have h2:w2.heap[H]?=some (.cells R.cells 72 (0,0)):=(hg.block H hlt1 hne).trans (Ae hb hbx);have:=As (i:=4) h2 (.slice V' (R.os.length+1) vc');simpa[Rd.cells]using this
  ·have h4:=(OwnF.grown hO1 hO2 hv).keep (X:=fun o=>o=.box) (KeepF.set fH (i:=4) (u:=.slice V' (R.os.length+1) vc')) (by simp);show OwnF _ B _ .list _ 5 V' (R.os++[C5 fn nm]).length vc' _;rw[List.length_append];exact h4
 ·cases o with
  |box=>exact absurd (.inl rfl) hX
  |list=>exact absurd (.inr rfl) hX
  |ways j=>
   intro hj;show OwnF _ _ _ _ _ _ ((R.os++[C5 fn nm])[j]'hj).wA _ _ _;rcases key j hj with⟨hj',e⟩|e
   ·rw[e];exact hr hj'
   ·rw[e];exact OwnF.nil _ _ _ _ _ _
  |parts j=>
   intro hj;show OwnF _ _ _ _ _ _ ((R.os++[C5 fn nm])[j]'hj).pA _ _ _;rcases key j hj with⟨hj',e⟩|e
   ·rw[e];exact hr hj'
   ·rw[e];exact OwnF.nil _ _ _ _ _ _
  |heads j=>
   intro hj;show OwnF _ _ _ _ _ _ ((R.os++[C5 fn nm])[j]'hj).hA _ _ _;rcases key j hj with⟨hj',e⟩|e
   ·rw[e];exact hr hj'
   ·rw[e];exact OwnF.nil _ _ _ _ _ _
  |_=>exact hr
 ·exact((hb.mono hB).grown hg (Nat.le_trans hB hb.size) (fun k hk=>(Aq hO1.1 k hk).1)).setCell (p:=⟨H,4,none⟩) hBH _
def MQ (k:Nat):Nat:=if k=4 then 7 else 8
theorem MR (w:World) (k:Nat) (hk:k=4\/k=5):Calls Tryz.prog 45 #[.int .u8 (k:Int)] w fun e w'=>e=.returned (.int .u8 (MQ k:Int))/\w'=w:=by
 rcases hk with rfl|rfl
 all_goals
  go_enter Tryz.func45,Tryz.ntmps45
  go_wp2_with fail
  go_ret;exact⟨rfl,rfl⟩
def BF (W:List Wd) (i:Nat):Bool×Nat×Nat×List UInt8:=
 if kdW W i=9 then(true,i+1,10,[])else if kdW W (i+1)=1 then if kdW W (i+2)=13 then(true,i+3,12,(wdW W (i+1)).text)else(false,i+2,0,[])else(false,i+1,0,[])
def MS (D:Ow->Prop) (B:Nat) (H:Nat) (R:Rd) (w:World) (e:Ending) (w':World):Prop:=
 e=.returned (.bool (BF R.W R.i).1)/\Below B w w'/\((BF R.W R.i).1=true-> ∃f' lA lc,RdM D w' B f' H {R with i:=(BF R.W R.i).2.1,lA:=lA,lc:=lc,os:=R.os++[C5 (BF R.W R.i).2.2.1 (BF R.W R.i).2.2.2]}) /\
  ((BF R.W R.i).1=false-> ∃f',RdM D w' B f' H {R with i:=(BF R.W R.i).2.1})
attribute [local go_sem] Ez E0
set_option maxRecDepth 100000 in
set_option maxHeartbeats 6400000 in
theorem Qy (D:Ow->Prop) (w:World) (B:Nat) (f:Nat->Ow) (H:Nat) (R:Rd) (h:RdM D w B f H R) (hD:∀o,D o->False) (hk:kdW R.W R.i=9\/kdW R.W R.i=11) (hi:R.i<=R.W.length) (hwl:R.W.length<=65536) (hol:R.os.length<=1000000) (hB:B<=w.heap.size):
  Calls Tryz.prog 46 #[.pointer (some ⟨H,0,none⟩)] w (MS D B H R w):=by
 have HA9:=qd (show ∀(f1:Nat->Ow) (R1:Rd) (w1:World),RdM D w1 B f1 H R1->R1.i<=65536->B<=w1.heap.size->Calls Tryz.prog 48 #[.pointer (some ⟨H,0,none⟩),.int .u8 9] w1 (Da D B f1 H R1 9 w1)from fun f1 R1 w1 h1 h2 h3=>En D w1 B f1 H R1 9 h1 ⟨fun h=>hD _ h,fun h=>hD _ h⟩ h2 h3);have HA11:=qd (show ∀(f1:Nat->Ow) (R1:Rd) (w1:World),RdM D w1 B f1 H R1->R1.i<=65536->B<=w1.heap.size->Calls Tryz.prog 48 #[.pointer (some ⟨H,0,none⟩),.int .u8 11] w1 (Da D B f1 H R1 11 w1)from fun f1 R1 w1 h1 h2 h3=>En D w1 B f1 H R1 11 h1 ⟨fun h=>hD _ h,fun h=>hD _ h⟩ h2 h3);have HA1:=qd (show ∀(f1:Nat->Ow) (R1:Rd) (w1:World),RdM D w1 B f1 H R1->R1.i<=65536->B<=w1.heap.size->Calls Tryz.prog 48 #[.pointer (some ⟨H,0,none⟩),.int .u8 1] w1 (Da D B f1 H R1 1 w1)from fun f1 R1 w1 h1 h2 h3=>En D w1 B f1 H R1 1 h1 ⟨fun h=>hD _ h,fun h=>hD _ h⟩ h2 h3);have HA13:=qd (show ∀(f1:Nat->Ow) (R1:Rd) (w1:World),RdM D w1 B f1 H R1->R1.i<=65536->B<=w1.heap.size->Calls Tryz.prog 48 #[.pointer (some ⟨H,0,none⟩),.int .u8 13] w1 (Da D B f1 H R1 13 w1)from fun f1 R1 w1 h1 h2 h3=>En D w1 B f1 H R1 13 h1 ⟨fun h=>hD _ h,fun h=>hD _ h⟩ h2 h3);have HW1:=qd (show ∀(f1:Nat->Ow) (w1:World),RdM D w1 B f1 H R->B<=w1.heap.size->Calls Tryz.prog 44 #[.pointer (some ⟨H,0,none⟩),.int .i64 1] w1 fun e w''=>e=.returned (wdV (wdW R.W (R.i+1)))/\Below w1.heap.size w1 w'' from fun f1 w1 h1 h3=>FS D w1 B f1 H R 1 h1 ⟨fun h=>hD _ h,fun h=>hD _ h⟩ (by omega) (by omega));have HFR:=qd h.fresh;have HF0:=qd (show ∀k,w.heap.size<=k->Fk f w.heap.size k=.tmp from fun k hk=>by unfold Fk;rw[if_neg (by omega)]);generalize Fk f w.heap.size=f0 at *;have HDN:=qd hD;have hltH:H<w.heap.size:=Av (h.box (fun h=>hD _ h));have HI:=qd hi;have HWL:=qd hwl;clear h hD hi;have HB0:=qd (bx1 w (.cells #[.int .u8 10,.string ⟨#[]⟩,.slice none 0 0,.slice none 0 0,.slice none 0 0] 99));have HK0:=qd (Ad w (.cells #[.int .u8 10,.string ⟨#[]⟩,.slice none 0 0,.slice none 0 0,.slice none 0 0] 99));have HHB:=qd (show ∀(W1 W2:World) (f1:Nat->Ow),KeepF (fun o=>o=.box) f1 f1 W1 W2->f1 w.heap.size=.tmp-> ∀o,W1.heap[w.heap.size]?=some o->W2.heap[w.heap.size]?=some o from fun W1 W2 f1 hk hf o ho=>(hk.block _ (Av ho) (by rw[hf];simp)).trans ho);go_enter Tryz.func46,Tryz.ntmps46
 go_upto_region 2 with(fail)
 have HR0:=qd (HFR.out.below HB0.out);generalize (w.alloc (.cells #[.int .u8 10,.string ⟨#[]⟩,.slice none 0 0,.slice none 0 0,.slice none 0 0] 99))=W0 at *;by_cases h9:kdW R.W R.i=9
 ·have HBR:=qd (show BF R.W R.i=(true,R.i+1,10,[])from by unfold BF;rw[if_pos h9])
  go_upto_region 6 with(first
   |(go_at_call 48;(with_reducible refine(HA9.out f0 R W0 HR0.out (by have:=HI.out;omega) (by have:=HB0.out.size;omega)).mono ?_);rintro e W3 ⟨h1,_,h3,h4⟩;obtain⟨rfl,h5⟩:=h1 h9;have HR3:=qd h5;have HX3:=qd (HHB.out _ _ _ h3 (HF0.out _ (Nat.le_refl _)) _ HK0.out);have HBB:=qd ((HB0.out.mono hB).trans h4);clear h1 h3 h4 h5)
   |fail)
  have HBH:=qd (HR3.out.box (fun h=>HDN.out _ h));have HO:=qd (show OwnF W3 B f0 .list 99 5 R.lA R.os.length R.lc (olL.all R.os)from HR3.out .list (fun h=>HDN.out _ h));have HFX:=qd (HR3.out .box (fun h=>HDN.out _ h)).2;obtain⟨q0,q1,q2,q3,q4,_⟩:=WD HX3.out;obtain⟨_,_,_,_,p4,_,_,_,pf⟩:=EC HBH.out;obtain⟨j0,hj,hy0,hy1,hy2⟩:=info_parts Pa;have hzc:(Value.agg #[.int .u8 0,.string ByteArray.empty,.slice none 0 0,.slice none 0 0,.slice none 0 0]).cells.size=5:=rfl;have hltw:H<W3.heap.size:=Av HBH.out;have hltX:w.heap.size<W3.heap.size:=Av HX3.out;generalize hnn:R.os.length=m at *;have HNN:=qd hnn;clear hnn;obtain⟨V,hV⟩:∃V,R.lA=V:=⟨_,rfl⟩;obtain⟨vc,hvc⟩:∃vc,R.lc=vc:=⟨_,rfl⟩;rw[hV,hvc]at p4;have HNH:=qd (show ¬some H=Ai V from fun e=>by have h1:=HO.out.2 H (by rw[hV];exact e.symm);rw[HFX.out.2]at h1;cases h1);have HOV:=qd (show(W3.drew.alloc (.cells #[.int .u8 10,.string ⟨#[]⟩,.slice none 0 0,.slice none 0 0,.slice none 0 0] 99)).ownsRow B 99 5 (.slice V m vc) m (olL.all R.os)from World.ownsRow.alloc (show W3.drew.ownsRow B 99 5 (.slice V m vc) m (olL.all R.os)from by have h:=HO.out.1;rw[hV,hvc]at h;exact h) _);have HF:=qd (show m+1<=maxLen/\(m+1)*96<=140737488355328/\B<=(W3.drew.alloc (.cells #[.int .u8 10,.string ⟨#[]⟩,.slice none 0 0,.slice none 0 0,.slice none 0 0] 99)).heap.size from⟨by unfold maxLen;omega,by omega,by simp;omega⟩);have HKB:=qd (show(W3.drew.alloc (.cells #[.int .u8 10,.string ⟨#[]⟩,.slice none 0 0,.slice none 0 0,.slice none 0 0] 99)).heap[H]?=some (.cells #[.slice R.WA R.W.length R.Wc,.int .i64 (R.fin:Int),.int .i64 ((R.i+1:Nat):Int),.slice R.nA R.ls.length R.nc,.slice V m vc,.slice R.dA R.ds.length R.dc,.slice R.mA R.ms.length R.mc,.slice R.cA R.cs.length R.cc] 72 (0,0))from A7 (w:=W3.drew) (by have h:=HBH.out;rw[hV,hvc]at h;exact h));have HVV:=qd hV;clear hV hvc;go_region_law ((refine Bm (by rfl) (.tmp 29) (.tmp 31) 69 (by rfl) B 99 j0 (.agg #[.int .u8 0,.string ByteArray.empty,.slice none 0 0,.slice none 0 0,.slice none 0 0]) 5 96 Tryz.underlying69 hj hy0 hy1 hy2 hzc (by decide) V vc m (olL.all R.os) (by rfl) HOV.out (some ⟨W3.heap.size,0,none⟩) 1 1 [.int .u8 10,.string ⟨#[]⟩,.slice none 0 0,.slice none 0 0,.slice none 0 0] (by rfl) rfl (Be (Ad W3.drew _)) (fun u hu=>by simp only[List.mem_cons,List.not_mem_nil,or_false]at hu;rcases hu with rfl|rfl|rfl|rfl|rfl <;> rfl) HF.out.1 HF.out.2.1 HF.out.2.2 ?_;intro V' vc' w4 HO2 HG2 HA2;have HK2:=qd ((HG2.out.block H (Av HKB.out) HNH.out).trans HKB.out);have t1:w4.cell? ⟨H,4,none⟩=some (.slice V m vc):=(by simp[World.cell?,HK2.out]);have t2:w4.frozen? ⟨H,4,none⟩=false:=(by simp[World.frozen?,HK2.out])))
  all_goals
   clear t1 t2 p4 pf q0 q1 q2 q3 q4;have HBA:=qd (show Below W3.heap.size W3 (W3.drew.alloc (.cells #[.int .u8 10,.string ⟨#[]⟩,.slice none 0 0,.slice none 0 0,.slice none 0 0] 99))from((Below.refl W3.heap.size W3).drew).alloc (show W3.heap.size<=W3.heap.size from Nat.le_refl _) _);have HCD:=qd (MP (fn:=10) (nm:=[]) HR3.out ⟨fun h=>HDN.out _ h,fun h=>HDN.out _ h⟩ HBA.out HNN.out HVV.out (show w4.ownsRow B 99 5 (.slice V' (m+1) vc') (m+1) (olL.all (R.os++[C5 10 []]))from by rw[olL.all_append,olL.all_one];exact HO2.out) HG2.out HA2.out (by omega));generalize (w4.setCell ⟨H,4,none⟩ (.slice V' (m+1) vc'))=w5 at *;go_wp2_with fail
   go_ret;exact⟨by rw[HBR.out];rfl,HBB.out.trans HCD.out.2,fun _=>⟨_,V',vc',by rw[HBR.out];exact HCD.out.1⟩,fun h=>by rw[HBR.out]at h;cases h⟩
 have h11:kdW R.W R.i=11:=hk.resolve_left h9;have hlt1:R.i<R.W.length:=FO (by omega);have HX0:=HF0.out _ (Nat.le_refl _);have HFX0:=qd HX0;clear HX0;have H9:=qd h9;have H11:=qd h11;clear h9 h11 hk;obtain⟨nm,hnm⟩:∃nm,(wdW R.W (R.i+1)).text=nm:=⟨_,rfl⟩
 go_upto_region 3 with(first
  |(go_at_call 48;(with_reducible refine(HA9.out f0 R W0 HR0.out (by have:=HI.out;omega) (by have:=HB0.out.size;omega)).mono ?_);rintro e W1 ⟨_,h1,h3,h4⟩;obtain⟨rfl,h5⟩:=h1 H9.out;have HR1:=qd h5;have HX1:=qd (HHB.out _ _ _ h3 HFX0.out _ HK0.out);have HB1:=qd ((HB0.out.mono hB).trans h4);clear h1 h3 h4 h5)
  |fail)
 obtain⟨q0,q1,q2,q3,q4,qf0,qf1,qf2,qf3,qf4⟩:=WD HX1.out
 go_upto_region 4 with(first
  |(go_at_call 44;(with_reducible refine(HW1.out f0 W1 HR1.out (by have:=HB1.out.size;omega)).mono ?_);rintro e W2 ⟨rfl,hb⟩;have HB2:=qd hb;have HX2:=qd (Ae hb HX1.out);clear q0 q1 q2 q3 q4 qf0 qf1 qf2 qf3 qf4;obtain⟨q0,q1,q2,q3,q4,qf0,qf1,qf2,qf3,qf4⟩:=WD HX2.out;clear hb)
  |fail)
 have HX3:=qd (show(((((W2.setCell ⟨w.heap.size,0,none⟩ (.int .u8 12)).setCell ⟨w.heap.size,1,none⟩ (.string ⟨nm.toArray⟩)).setCell ⟨w.heap.size,2,none⟩ (.slice none 0 0)).setCell ⟨w.heap.size,3,none⟩ (.slice none 0 0)).setCell ⟨w.heap.size,4,none⟩ (.slice none 0 0)).heap[w.heap.size]?=some (.cells #[.int .u8 12,.string ⟨nm.toArray⟩,.slice none 0 0,.slice none 0 0,.slice none 0 0] 99 (0,0))from UR HX2.out (.int .u8 12) (.string ⟨nm.toArray⟩) (.slice none 0 0) (.slice none 0 0) (.slice none 0 0));have HB3:=qd (show Below B W2 (((((W2.setCell ⟨w.heap.size,0,none⟩ (.int .u8 12)).setCell ⟨w.heap.size,1,none⟩ (.string ⟨nm.toArray⟩)).setCell ⟨w.heap.size,2,none⟩ (.slice none 0 0)).setCell ⟨w.heap.size,3,none⟩ (.slice none 0 0)).setCell ⟨w.heap.size,4,none⟩ (.slice none 0 0))from Qx W2 hB (.int .u8 12) (.string ⟨nm.toArray⟩) (.slice none 0 0) (.slice none 0 0) (.slice none 0 0));have HR3:=qd ((HR1.out.below HB2.out).outs (show KeepF (fun o=>o=.tmp) f0 f0 W2 (((((W2.setCell ⟨w.heap.size,0,none⟩ (.int .u8 12)).setCell ⟨w.heap.size,1,none⟩ (.string ⟨nm.toArray⟩)).setCell ⟨w.heap.size,2,none⟩ (.slice none 0 0)).setCell ⟨w.heap.size,3,none⟩ (.slice none 0 0)).setCell ⟨w.heap.size,4,none⟩ (.slice none 0 0))from KeepF.set5 (X:=fun o=>o=.tmp) (w:=W2) HFX0.out (.int .u8 12) (.string ⟨nm.toArray⟩) (.slice none 0 0) (.slice none 0 0) (.slice none 0 0)));clear q0 q1 q2 q3 q4 qf0 qf1 qf2 qf3 qf4;generalize (((((W2.setCell ⟨w.heap.size,0,none⟩ (.int .u8 12)).setCell ⟨w.heap.size,1,none⟩ (.string ⟨nm.toArray⟩)).setCell ⟨w.heap.size,2,none⟩ (.slice none 0 0)).setCell ⟨w.heap.size,3,none⟩ (.slice none 0 0)).setCell ⟨w.heap.size,4,none⟩ (.slice none 0 0))=WA at *;have HS1:=qd (show Below B w WA from(HB1.out.trans (HB2.out.mono (by have:=HB1.out.size;omega))).trans HB3.out);by_cases n1:kdW R.W (R.i+1)=1
 ·have hlt2:R.i+1<R.W.length:=FO (by omega);by_cases n13:kdW R.W (R.i+2)=13
  ·have HBR:=qd (show BF R.W R.i=(true,R.i+3,12,(wdW R.W (R.i+1)).text)from by unfold BF;rw[if_neg H9.out,if_pos n1,if_pos n13]);rw[hnm]at HBR
   go_upto_region 6 with(first
    |(go_at_call 48;(with_reducible refine(HA11.out f0 R WA HR3.out (by omega) (by have:=HS1.out.size;omega)).mono ?_);rintro e WB ⟨h1,_,h3,h4⟩;obtain⟨rfl,h5⟩:=h1 H11.out;have HR4:=qd h5;have HX4:=qd (HHB.out _ _ _ h3 HFX0.out _ HX3.out);have HS2:=qd (HS1.out.trans h4);clear h1 h3 h4 h5)
    |(go_at_call 48;(with_reducible refine(HA1.out f0 {R with i:=R.i+1} WB HR4.out (by show R.i+1<=65536;omega) (by have:=HS2.out.size;omega)).mono ?_);rintro e WC ⟨h1,_,h3,h4⟩;obtain⟨rfl,h5⟩:=h1 n1;have HR5:=qd h5;have HX5:=qd (HHB.out _ _ _ h3 HFX0.out _ HX4.out);have HS3:=qd (HS2.out.trans h4);clear h1 h3 h4 h5)
    |(go_at_call 48;(with_reducible refine(HA13.out f0 {R with i:=R.i+1+1} WC HR5.out (by show R.i+1+1<=65536;omega) (by have:=HS3.out.size;omega)).mono ?_);rintro e W3 ⟨h1,_,h3,h4⟩;obtain⟨rfl,h5⟩:=h1 n13;have HR3:=qd h5;have HX3:=qd (HHB.out _ _ _ h3 HFX0.out _ HX5.out);have HBB:=qd (HS3.out.trans h4);clear h1 h3 h4 h5)
    |fail)
   have hBW:B<=W3.heap.size:=by have:=HBB.out.size;omega
   have HBH:=qd (HR3.out.box (fun h=>HDN.out _ h));have HO:=qd (show OwnF W3 B f0 .list 99 5 R.lA R.os.length R.lc (olL.all R.os)from HR3.out .list (fun h=>HDN.out _ h));have HFX:=qd (HR3.out .box (fun h=>HDN.out _ h)).2;obtain⟨q0,q1,q2,q3,q4,_⟩:=WD HX3.out;obtain⟨_,_,_,_,p4,_,_,_,pf⟩:=EC HBH.out;obtain⟨j0,hj,hy0,hy1,hy2⟩:=info_parts Pa;have hzc:(Value.agg #[.int .u8 0,.string ByteArray.empty,.slice none 0 0,.slice none 0 0,.slice none 0 0]).cells.size=5:=rfl;have hltw:H<W3.heap.size:=Av HBH.out;have hltX:w.heap.size<W3.heap.size:=Av HX3.out;generalize hnn:R.os.length=m at *;have HNN:=qd hnn;clear hnn;obtain⟨V,hV⟩:∃V,R.lA=V:=⟨_,rfl⟩;obtain⟨vc,hvc⟩:∃vc,R.lc=vc:=⟨_,rfl⟩;rw[hV,hvc]at p4;have HNH:=qd (show ¬some H=Ai V from fun e=>by have h1:=HO.out.2 H (by rw[hV];exact e.symm);rw[HFX.out.2]at h1;cases h1);have HOV:=qd (show(W3.drew.alloc (.cells #[.int .u8 12,.string ⟨nm.toArray⟩,.slice none 0 0,.slice none 0 0,.slice none 0 0] 99)).ownsRow B 99 5 (.slice V m vc) m (olL.all R.os)from World.ownsRow.alloc (show W3.drew.ownsRow B 99 5 (.slice V m vc) m (olL.all R.os)from by have h:=HO.out.1;rw[hV,hvc]at h;exact h) _);have HF:=qd (show m+1<=maxLen/\(m+1)*96<=140737488355328/\B<=(W3.drew.alloc (.cells #[.int .u8 12,.string ⟨nm.toArray⟩,.slice none 0 0,.slice none 0 0,.slice none 0 0] 99)).heap.size from⟨by unfold maxLen;omega,by omega,by simp;omega⟩);have HKB:=qd (show(W3.drew.alloc (.cells #[.int .u8 12,.string ⟨nm.toArray⟩,.slice none 0 0,.slice none 0 0,.slice none 0 0] 99)).heap[H]?=some (.cells #[.slice R.WA R.W.length R.Wc,.int .i64 (R.fin:Int),.int .i64 ((R.i+1+1+1:Nat):Int),.slice R.nA R.ls.length R.nc,.slice V m vc,.slice R.dA R.ds.length R.dc,.slice R.mA R.ms.length R.mc,.slice R.cA R.cs.length R.cc] 72 (0,0))from A7 (w:=W3.drew) (by have h:=HBH.out;rw[hV,hvc]at h;exact h));have HVV:=qd hV;clear hV hvc;go_region_law ((refine Bm (by rfl) (.tmp 29) (.tmp 31) 69 (by rfl) B 99 j0 (.agg #[.int .u8 0,.string ByteArray.empty,.slice none 0 0,.slice none 0 0,.slice none 0 0]) 5 96 Tryz.underlying69 hj hy0 hy1 hy2 hzc (by decide) V vc m (olL.all R.os) (by rfl) HOV.out (some ⟨W3.heap.size,0,none⟩) 1 1 [.int .u8 12,.string ⟨nm.toArray⟩,.slice none 0 0,.slice none 0 0,.slice none 0 0] (by rfl) rfl (Be (Ad W3.drew _)) (fun u hu=>by simp only[List.mem_cons,List.not_mem_nil,or_false]at hu;rcases hu with rfl|rfl|rfl|rfl|rfl <;> rfl) HF.out.1 HF.out.2.1 HF.out.2.2 ?_;intro V' vc' w4 HO2 HG2 HA2;have HK2:=qd ((HG2.out.block H (Av HKB.out) HNH.out).trans HKB.out);have t1:w4.cell? ⟨H,4,none⟩=some (.slice V m vc):=(by simp[World.cell?,HK2.out]);have t2:w4.frozen? ⟨H,4,none⟩=false:=(by simp[World.frozen?,HK2.out])))
   all_goals
    clear t1 t2 p4 pf q0 q1 q2 q3 q4;have HBA:=qd (show Below W3.heap.size W3 (W3.drew.alloc (.cells #[.int .u8 12,.string ⟨nm.toArray⟩,.slice none 0 0,.slice none 0 0,.slice none 0 0] 99))from((Below.refl W3.heap.size W3).drew).alloc (show W3.heap.size<=W3.heap.size from Nat.le_refl _) _);have HCD:=qd (MP (fn:=12) (nm:=nm) HR3.out ⟨fun h=>HDN.out _ h,fun h=>HDN.out _ h⟩ HBA.out HNN.out HVV.out (show w4.ownsRow B 99 5 (.slice V' (m+1) vc') (m+1) (olL.all (R.os++[C5 12 nm]))from by rw[olL.all_append,olL.all_one];exact HO2.out) HG2.out HA2.out (by omega));generalize (w4.setCell ⟨H,4,none⟩ (.slice V' (m+1) vc'))=w5 at *;go_wp2_with fail
    go_ret;exact⟨by rw[HBR.out];rfl,HBB.out.trans HCD.out.2,fun _=>⟨_,V',vc',by rw[HBR.out];exact HCD.out.1⟩,fun h=>by rw[HBR.out]at h;cases h⟩
  ·have HBR:=qd (show BF R.W R.i=(false,R.i+2,0,[])from by unfold BF;rw[if_neg H9.out,if_pos n1,if_neg n13])
   go_wp2_with (first
    |(go_at_call 48;(with_reducible refine(HA11.out f0 R WA HR3.out (by omega) (by have:=HS1.out.size;omega)).mono ?_);rintro e WB ⟨h1,_,h3,h4⟩;obtain⟨rfl,h5⟩:=h1 H11.out;have HR4:=qd h5;have HS2:=qd (HS1.out.trans h4);clear h1 h3 h4 h5)
    |(go_at_call 48;(with_reducible refine(HA1.out f0 {R with i:=R.i+1} WB HR4.out (by show R.i+1<=65536;omega) (by have:=HS2.out.size;omega)).mono ?_);rintro e WC ⟨h1,_,h3,h4⟩;obtain⟨rfl,h5⟩:=h1 n1;have HR5:=qd h5;have HS3:=qd (HS2.out.trans h4);clear h1 h3 h4 h5)
    |(go_at_call 48;(with_reducible refine(HA13.out f0 {R with i:=R.i+1+1} WC HR5.out (by show R.i+1+1<=65536;omega) (by have:=HS3.out.size;omega)).mono ?_);rintro e W3 ⟨_,h1,h3,h4⟩;obtain⟨rfl,h5⟩:=h1 n13;have HR3:=qd h5;have HBB:=qd (HS3.out.trans h4);clear h1 h3 h4 h5)
    |fail)
   go_ret;exact⟨by rw[HBR.out];rfl,HBB.out,fun h=>absurd h (by rw[HBR.out];exact Bool.false_ne_true),fun _=>⟨_,by rw[HBR.out];exact HR3.out⟩⟩
 ·have HBR:=qd (show BF R.W R.i=(false,R.i+1,0,[])from by unfold BF;rw[if_neg H9.out,if_neg n1])
  go_wp2_with (first
   |(go_at_call 48;(with_reducible refine(HA11.out f0 R WA HR3.out (by omega) (by have:=HS1.out.size;omega)).mono ?_);rintro e WB ⟨h1,_,h3,h4⟩;obtain⟨rfl,h5⟩:=h1 H11.out;have HR4:=qd h5;have HS2:=qd (HS1.out.trans h4);clear h1 h3 h4 h5)
   |(go_at_call 48;(with_reducible refine(HA1.out f0 {R with i:=R.i+1} WB HR4.out (by show R.i+1<=65536;omega) (by have:=HS2.out.size;omega)).mono ?_);rintro e W3 ⟨_,h1,h3,h4⟩;obtain⟨rfl,h5⟩:=h1 n1;have HR3:=qd h5;have HBB:=qd (HS2.out.trans h4);clear h1 h3 h4 h5)
   |fail)
  go_ret;exact⟨by rw[HBR.out];rfl,HBB.out,fun h=>absurd h (by rw[HBR.out];exact Bool.false_ne_true),fun _=>⟨_,by rw[HBR.out];exact HR3.out⟩⟩
end Go.Proofs.YtdnochjajoiooaaGreatDoor
