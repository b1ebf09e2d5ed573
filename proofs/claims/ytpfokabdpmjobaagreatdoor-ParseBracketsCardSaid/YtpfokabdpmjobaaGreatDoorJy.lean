/- The contract of the reader's rules. -/
import Derived.Test.YtpfokabdpmjobaaGreatDoorJw
import Derived.Test.YtpfokabdpmjobaaGreatDoorJi
namespace Go.Proofs.YtpfokabdpmjobaaGreatDoor
open Go.RowKit
set_option linter.unusedSimpArgs false
set_option linter.unusedVariables false
theorem infoDefP:(Tryz.prog.info? 45).map (fun i=>(i.zero,i.size,i.bytes))=some (some (.agg #[.string ByteArray.empty,.slice none 0 0,.int .i64 0]),3,48):=by kernel_rfl
theorem step_done {W:List Wd} {s:PS} {j:Nat} {t:TT} (h:stepP W s=.inr (.done j t)):j=s.i:=by
 unfold stepP at h
 repeat' split at h
 all_goals first|(cases h;done)|(cases h;rfl)
theorem run_done {W:List Wd} {j:Nat} {t:TT} {C:List Nat}:∀(f:Nat) (s:PS),runP W f s=(.done j t,C)→s.i≤W.length→s.calls.length≤s.i→s.i≤j∧j≤W.length∧C.length≤j
 |0,s,h,_,_=>by rw[runP]at h;cases h
 |f+1,s,h,hi,hc=>by
  rw[runP]at h
  cases hs:stepP W s with
  |inr r=>
   rw[hs]at h
   simp only[Prod.mk.injEq]at h
   obtain⟨rfl,rfl⟩:=h
   have e:=step_done hs
   rw[e]
   exact⟨Nat.le_refl _,hi,hc⟩
  |inl s'=>
   rw[hs]at h
   have h1:=step_lt hs
   have h2:=step_calls hs
   have:=run_done f s' h h1.2 (by omega)
   omega
theorem go_done {W:List Wd} {s:PS} {j:Nat} {t:TT} {C:List Nat} (h:goP W s=(.done j t,C)) (hi:s.i≤W.length) (hc:s.calls.length≤s.i):s.i≤j∧j≤W.length∧C.length≤j:=run_done _ _ h hi hc
theorem RdM.boxin {D:Ow→Prop} {w:World} {B H:Nat} {f:Nat→Ow} {R:Rd} (h:RdM D w B f H R) (o:Obj):∃f',RdM D (w.alloc o) B f' H {R with keep:=(w.heap.size,o)::R.keep}∧KeepF (fun _=>False) f f' w (w.alloc o):=by
 have h1:=h.fresh.below (bx1 w o)
 have h2:=h1.own (b:=w.heap.size) (o:=o) (by unfold freshF;rw[if_neg (by omega)]) (bx_new w o)
 refine⟨_,h2,(bx1 w o).size,fun k hk _=>(bx1 w o).block k hk,fun k hk=> ?_⟩
 unfold updF freshF;rw[if_neg (by omega),if_pos hk]
theorem RdM.drop {D:Ow→Prop} {w:World} {B H:Nat} {f:Nat→Ow} {R:Rd} (h:RdM D w B f H R):RdM D w B f H {R with keep:=R.keep.tail}:=fun o ho=>by
 cases o with
 |out=>exact fun q hq=>h .out ho q (List.mem_of_mem_tail hq)
 |_=>exact h _ ho
theorem RdM.kept {D:Ow→Prop} {w:World} {B H:Nat} {f:Nat→Ow} {R:Rd} (h:RdM D w B f H R) (hD:¬D .out) {p:Nat×Obj} (hp:p∈R.keep):w.heap[p.1]?=some p.2:=(h .out hD p hp).1
theorem names_done {D:Ow→Prop} {w W1 w2:World} {B:Nat} {f:Nat→Ow} {H:Nat} {R:Rd} {x:Wd} {V V':Option Addr} {vc' m:Nat} (h:RdM D w B f H R) (hD:¬D .box∧ ¬D .names) (hb:Below w.heap.size w W1) (hm:R.ms.length=m) (hV:R.mA=V)
  (hO2:w2.ownsRow B 32 10 (.slice V' (m+1) vc') (m+1) (wdL (R.ms++[x]))) (hg:W1.grownBy w2 (blkOf V)) (hv:blkOf V'=blkOf V∨blkOf V'=some W1.heap.size) (hB:B≤w.heap.size):
  RdM D (w2.setCell ⟨H,6,none⟩ (.slice V' (m+1) vc')) B (updF f W1.heap.size .names) H {R with mA:=V',mc:=vc',ms:=R.ms++[x]}∧KeepF (fun o=>o=.box∨o=.names) f (updF f W1.heap.size .names) w (w2.setCell ⟨H,6,none⟩ (.slice V' (m+1) vc'))∧Below B w (w2.setCell ⟨H,6,none⟩ (.slice V' (m+1) vc')):=by
 subst hm hV
 have k1:KeepF (fun o=>o=.box∨o=.names) f f w W1:=KeepF.below hb
 have hO1:OwnF W1 B f .names 32 10 R.mA R.ms.length R.mc (wdL R.ms):=OwnF.below (h .names hD.2) hb
 have k2:KeepF (fun o=>o=.box∨o=.names) f (updF f W1.heap.size .names) W1 w2:=KeepF.grown hO1 (.inr rfl) hg
 obtain⟨hbx,hBH,hfH⟩:=h .box hD.1
 have hlt:H<w.heap.size:=(Array.getElem?_eq_some_iff.1 hbx).1
 have hlt1:H<W1.heap.size:=Nat.lt_of_lt_of_le hlt hb.size
 have fH:updF f W1.heap.size .names H=.box:=by unfold updF;rw[if_neg (by omega)];exact hfH
 have k3:KeepF (fun o=>o=.box∨o=.names) (updF f W1.heap.size .names) (updF f W1.heap.size .names) w2 (w2.setCell ⟨H,6,none⟩ (.slice V' (R.ms.length+1) vc')):=KeepF.set (.inl fH)
 have K:=k1.trans (k2.trans k3)
 have hne:¬some H=blkOf R.mA:=fun e=>by have:=hO1.2 H e.symm;rw[hfH]at this;cases this
 refine⟨h.step K (fun o ho hX=> ?_) (fun o ho hX hr=> ?_),K,?_⟩
 ·rcases hX with rfl|rfl
  ·refine⟨?_,hBH,fH⟩
   have h2:w2.heap[H]?=some (.cells R.cells 82 (0,0)):=(hg.block H hlt1 hne).trans (bx_kept hb hbx)
   have:=box_cells (i:=6) h2 (.slice V' (R.ms.length+1) vc')
   simpa[Rd.cells]using this
  ·have h4:=(OwnF.grown hO1 hO2 hv).keep (X:=fun o=>o=.box) (KeepF.set fH (i:=6) (u:=.slice V' (R.ms.length+1) vc')) (by simp)
   show OwnF _ B _ .names _ 10 V' (R.ms++[x]).length vc' _
   rw[List.length_append]
   exact h4
 ·cases o with
  |box=>exact absurd (.inl rfl) hX
  |names=>exact absurd (.inr rfl) hX
  |_=>exact hr
 ·exact((hb.mono hB).grown hg (Nat.le_trans hB hb.size) (fun k hk=>(own_blk hO1.1 k hk).1)).setCell (p:=⟨H,6,none⟩) hBH _
theorem defs_done {D:Ow→Prop} {w W1 w2:World} {B:Nat} {f:Nat→Ow} {H:Nat} {R:Rd} {x:Ld} {V V':Option Addr} {vc' m:Nat} (h:RdM D w B f H R) (hD:¬D .box∧ ¬D .defs) (hb:Below w.heap.size w W1) (hm:R.ds.length=m) (hV:R.dA=V)
  (hO2:w2.ownsRow B 45 3 (.slice V' (m+1) vc') (m+1) (dfL.all (R.ds++[x]))) (hg:W1.grownBy w2 (blkOf V)) (hv:blkOf V'=blkOf V∨blkOf V'=some W1.heap.size) (hx:x.name.size≤281474976710656∧TreeOwn w (fun k=>f k=.body R.ds.length∧B≤k) x.t) (hB:B≤w.heap.size):
  RdM D (w2.setCell ⟨H,5,none⟩ (.slice V' (m+1) vc')) B (updF f W1.heap.size .defs) H {R with dA:=V',dc:=vc',ds:=R.ds++[x]}∧Below B w (w2.setCell ⟨H,5,none⟩ (.slice V' (m+1) vc')):=by
 subst hm hV
 have k1:KeepF (fun o=>o=.box∨o=.defs) f f w W1:=KeepF.below hb
 have hO1:OwnF W1 B f .defs 45 3 R.dA R.ds.length R.dc (dfL.all R.ds):=OwnF.below (h .defs hD.2) hb
 have k2:KeepF (fun o=>o=.box∨o=.defs) f (updF f W1.heap.size .defs) W1 w2:=KeepF.grown hO1 (.inr rfl) hg
 obtain⟨hbx,hBH,hfH⟩:=h .box hD.1
 have hlt:H<w.heap.size:=(Array.getElem?_eq_some_iff.1 hbx).1
 have hlt1:H<W1.heap.size:=Nat.lt_of_lt_of_le hlt hb.size
 have fH:updF f W1.heap.size .defs H=.box:=by unfold updF;rw[if_neg (by omega)];exact hfH
 have k3:KeepF (fun o=>o=.box∨o=.defs) (updF f W1.heap.size .defs) (updF f W1.heap.size .defs) w2 (w2.setCell ⟨H,5,none⟩ (.slice V' (R.ds.length+1) vc')):=KeepF.set (.inl fH)
 have K:=k1.trans (k2.trans k3)
 have hne:¬some H=blkOf R.dA:=fun e=>by have:=hO1.2 H e.symm;rw[hfH]at this;cases this
 refine⟨h.step K (fun o ho hX=> ?_) (fun o ho hX hr=> ?_),?_⟩
 ·rcases hX with rfl|rfl
  ·refine⟨?_,hBH,fH⟩
   have h2:w2.heap[H]?=some (.cells R.cells 82 (0,0)):=(hg.block H hlt1 hne).trans (bx_kept hb hbx)
   have:=box_cells (i:=5) h2 (.slice V' (R.ds.length+1) vc')
   simpa[Rd.cells]using this
  ·have h4:=(OwnF.grown hO1 hO2 hv).keep (X:=fun o=>o=.box) (KeepF.set fH (i:=5) (u:=.slice V' (R.ds.length+1) vc')) (by simp)
   show OwnF _ B _ .defs _ 3 V' (R.ds++[x]).length vc' _
   rw[List.length_append]
   exact h4
 ·cases o with
  |box=>exact absurd (.inl rfl) hX
  |defs=>exact absurd (.inr rfl) hX
  |body j=>
   intro hj
   have hj':j<R.ds.length+1:=by simpa using hj
   by_cases e:j<R.ds.length
   ·have e1:(R.ds++[x])[j]'hj=R.ds[j]:=List.getElem_append_left e
    show((R.ds++[x])[j]'hj).name.size≤_∧TreeOwn _ _ ((R.ds++[x])[j]'hj).t
    rw[e1];exact hr e
   ·have e2:j=R.ds.length:=by omega
    subst e2
    have e1:(R.ds++[x])[R.ds.length]'hj=x:=by simp
    show((R.ds++[x])[R.ds.length]'hj).name.size≤_∧TreeOwn _ _ ((R.ds++[x])[R.ds.length]'hj).t
    rw[e1];exact⟨hx.1,hx.2.keep K (by simp)⟩
  |_=>exact hr
 ·exact((hb.mono hB).grown hg (Nat.le_trans hB hb.size) (fun k hk=>(own_blk hO1.1 k hk).1)).setCell (p:=⟨H,5,none⟩) hBH _
structure RuInv (R0 R:Rd) (acc:List (Nat×TT)) (C:List Nat):Prop where
 W:R.W=R0.W
 fin:R.fin=R0.fin
 keep:R.keep=R0.keep
 ds:R.ds.map Ld.df=acc.map (defW R.W)
 len:∀d∈R.ds,d.t.ls.length≤300000
 num:acc.length≤R.W.length∧C.length≤R.W.length
 ms:R.ms=acc.map fun p=>wdW R.W p.1
 cs:R.cs=C.map (wdW R.W)
def RulesRel (B H:Nat) (R0:Rd) (w wr:World):Prop:=∃(R:Rd) (f:Nat→Ow) (acc:List (Nat×TT)) (C:List Nat) (fu:Nat),Hid (RdM Dch wr B f H R)∧Hid (Below B w wr)∧Hid (RuInv R0 R acc C) ∧
 Hid (R.i≤R.W.length∧C.length≤R.i∧acc.length≤R.i∧R.W.length<R.i+fu∧rulesF R.W fu R.i acc C=rulesP R0.W)
def RulesPost (B H:Nat) (R0:Rd) (w:World) (e:Ending) (w':World):Prop:=
 (∀l cs,rulesP R0.W=.done l cs→ ∃R f,e=.returned (.bool true)∧RdM Dch w' B f H R∧RuInv R0 R l cs∧Below B w w') ∧
 (∀k,rulesP R0.W=.fail k→ ∃R f,e=.returned (.bool false)∧RdM Dch w' B f H R∧(R.W=R0.W∧R.fin=R0.fin∧R.keep=R0.keep∧R.i=k)∧Below B w w')
theorem rules_no {W:List Wd} {fu i:Nat} {acc:List (Nat×TT)} {C:List Nat} (hf:W.length<i+fu) (hi:i≤W.length) (h:kdW W i≠1):rulesF W fu i acc C=.fail i:=by
 obtain⟨f,rfl⟩:∃f,fu=f+1:=⟨fu-1,by omega⟩
 rw[rulesF,if_pos h]
theorem rules_no2 {W:List Wd} {fu i:Nat} {acc:List (Nat×TT)} {C:List Nat} (hf:W.length<i+fu) (hi:i≤W.length) (h:kdW W i=1) (h2:kdW W (i+1)≠2):rulesF W fu i acc C=.fail (i+1):=by
 obtain⟨f,rfl⟩:∃f,fu=f+1:=⟨fu-1,by omega⟩
 rw[rulesF,if_neg (by omega),if_pos h2]
theorem rules_fail {W:List Wd} {fu i j:Nat} {acc:List (Nat×TT)} {C C':List Nat} (hf:W.length<i+fu) (hi:i≤W.length) (h:kdW W i=1) (h2:kdW W (i+1)=2) (h3:goP W ⟨i+1+1,[botP],C⟩=(.fail j,C')):rulesF W fu i acc C=.fail j:=by
 obtain⟨f,rfl⟩:∃f,fu=f+1:=⟨fu-1,by omega⟩
 have h4:choiceP W (i+2) C=(.fail j,C'):=h3
 rw[rulesF,if_neg (by omega),if_neg (by omega),h4]
theorem rules_last {W:List Wd} {fu i j:Nat} {t:TT} {acc:List (Nat×TT)} {C C':List Nat} (hf:W.length<i+fu) (hi:i≤W.length) (h:kdW W i=1) (h2:kdW W (i+1)=2) (h3:goP W ⟨i+1+1,[botP],C⟩=(.done j t,C')) (hj:W.length≤j):rulesF W fu i acc C=.done (acc++[(i,t)]) C':=by
 obtain⟨f,rfl⟩:∃f,fu=f+1:=⟨fu-1,by omega⟩
 have h4:choiceP W (i+2) C=(.done j t,C'):=h3
 rw[rulesF,if_neg (by omega),if_neg (by omega),h4];simp only;rw[if_pos hj]
theorem rules_more {W:List Wd} {fu i j:Nat} {t:TT} {acc:List (Nat×TT)} {C C':List Nat} (hf:W.length<i+fu) (hi:i≤W.length) (h:kdW W i=1) (h2:kdW W (i+1)=2) (h3:goP W ⟨i+1+1,[botP],C⟩=(.done j t,C')) (hj:j<W.length):rulesF W fu i acc C=rulesF W (fu-1) j (acc++[(i,t)]) C':=by
 obtain⟨f,rfl⟩:∃f,fu=f+1:=⟨fu-1,by omega⟩
 have h4:choiceP W (i+2) C=(.done j t,C'):=h3
 rw[rulesF,if_neg (by omega),if_neg (by omega),h4];simp only;rw[if_neg (by omega)];rfl
set_option maxRecDepth 100000 in
set_option maxHeartbeats 6400000 in
theorem rrules_any (w:World) (B:Nat) (f:Nat→Ow) (H:Nat) (R0:Rd) (h:RdM Dch w B f H R0) (hi0:R0.i=0) (hds:R0.ds=[]) (hms:R0.ms=[]) (hcs:R0.cs=[]) (hW:∀x∈R0.W,mayS x) (hwl:R0.W.length≤65536) (hsm:∀x∈R0.W,x.s0<18446744073709551616∧x.s1<18446744073709551616∧x.s2<18446744073709551616∧x.s3<18446744073709551616)
  (hct:∀w',Below B w w'→CntTab w') (hB:B≤w.heap.size):
  Calls Tryz.prog 68 #[.pointer (some ⟨H,0,none⟩)] w (RulesPost B H R0 w):=by
 have HW:=Lib.hid hW;have HCT:=Lib.hid hct;have HSM:=Lib.hid hsm;have HR0:=Lib.hid h
 have HI0:=Lib.hid (show RulesRel B H R0 w w from⟨R0,f,[],[],R0.W.length+1,Lib.hid h,Lib.hid (Below.refl _ _),Lib.hid ⟨rfl,rfl,rfl,by rw[hds];rfl,by rw[hds];exact fun d hd=>(by cases hd),⟨by simp,by simp⟩,by rw[hms];rfl,by rw[hcs];rfl⟩,Lib.hid ⟨by omega,by simp,by simp,by omega,by rw[hi0];rfl⟩⟩)
 have HWL:=Lib.hid hwl
 clear h hW hct hsm hds hms hcs hi0
 obtain⟨jd,hjd,hd0,hd1,hd2⟩:=info_parts infoDefP
 obtain⟨jw,hjw,hw0,hw1,hw2⟩:=info_parts infoWord
 have hzd:(Value.agg #[.string ByteArray.empty,.slice none 0 0,.int .i64 0]).cells.size=3:=rfl
 have hzw:(Value.agg #[.int .u8 0,.int .i64 0,.int .i64 0,.string ByteArray.empty,.int .u64 0,.int .u64 0,.int .u64 0,.int .u64 0,.int .i64 0,.int .i64 0]).cells.size=10:=rfl
 go_enter Tryz.func68,Tryz.ntmps68
 go_wp2_with fail
 go_loopw [2] (fun v2 wr=>RulesRel B H R0 w wr) (fun _ wr=>R0.W.length+1-memI H wr)
 case atStart=>exact HI0.out
 case round=>
  clear HI0 HR0
  obtain⟨R,f1,acc,C,fu,HR,HB,HIV,HFU⟩:=hrel
  have hB1:B≤wr.heap.size:=by have:=HB.out.size;omega
  have hwl':R.W.length≤65536:=by rw[HIV.out.W];exact HWL.out
  have hil:=HFU.out.1
  obtain⟨x,hx⟩:∃x,wdW R.W R.i=x:=⟨_,rfl⟩
  obtain⟨xk,xf,xt,xtx,x0,x1,x2,x3,xlo,xhi⟩:=x
  have HXW:=Lib.hid hx
  have HWD:=Lib.hid (show Calls Tryz.prog 72 #[.pointer (some ⟨H,0,none⟩),.int .i64 0] wr fun e w'=>e=.returned (.agg #[.int .u8 (xk:Int),.int .i64 (xf:Int),.int .i64 (xt:Int),.string ⟨xtx.toArray⟩,.int .u64 (x0:Int),.int .u64 (x1:Int),.int .u64 (x2:Int),.int .u64 (x3:Int),.int .i64 xlo,.int .i64 xhi])∧Below wr.heap.size wr w' from(word_any Dch wr B f1 H R 0 HR.out ⟨fun h=>h,fun h=>h⟩ (by omega) (by omega)).mono fun e w' hp=>⟨by rw[hp.1];show Ending.returned (wdV (wdW R.W R.i))=_;rw[hx],hp.2⟩)
  clear hx
  go_upto_region 2 with(first
   |(go_at_call 72;(with_reducible refine HWD.out.mono ?_);rintro e w1 ⟨rfl,hb⟩;have HB1:=Lib.hid hb;clear hb)
   |fail)
  have hxk:xk=kdW R.W R.i:=by rw[←kd_wd,HXW.out]
  have HXK:=Lib.hid hxk;clear hxk
  obtain⟨f2,hr2,_⟩:=(HR.out.below HB1.out).boxin (.cells #[.int .u8 (xk:Int),.int .i64 (xf:Int),.int .i64 (xt:Int),.string ⟨xtx.toArray⟩,.int .u64 (x0:Int),.int .u64 (x1:Int),.int .u64 (x2:Int),.int .u64 (x3:Int),.int .i64 xlo,.int .i64 xhi] 32)
  have HR2:=Lib.hid hr2;clear hr2
  have HB2:=Lib.hid ((HB.out.trans (HB1.out.mono hB1)).trans ((bx1 w1 (.cells #[.int .u8 (xk:Int),.int .i64 (xf:Int),.int .i64 (xt:Int),.string ⟨xtx.toArray⟩,.int .u64 (x0:Int),.int .u64 (x1:Int),.int .u64 (x2:Int),.int .u64 (x3:Int),.int .i64 xlo,.int .i64 xhi] 32)).mono (show B≤w1.heap.size by have:=HB1.out.size;omega)))
  have HSZ:=Lib.hid (show w1.heap.size<(w1.alloc (.cells #[.int .u8 (xk:Int),.int .i64 (xf:Int),.int .i64 (xt:Int),.string ⟨xtx.toArray⟩,.int .u64 (x0:Int),.int .u64 (x1:Int),.int .u64 (x2:Int),.int .u64 (x3:Int),.int .i64 xlo,.int .i64 xhi] 32)).heap.size from by simp)
  generalize hbw:w1.heap.size=bw at *
  generalize (w1.alloc (.cells #[.int .u8 (xk:Int),.int .i64 (xf:Int),.int .i64 (xt:Int),.string ⟨xtx.toArray⟩,.int .u64 (x0:Int),.int .u64 (x1:Int),.int .u64 (x2:Int),.int .u64 (x3:Int),.int .i64 xlo,.int .i64 xhi] 32))=w2 at *
  have hB2:B≤w2.heap.size:=by have:=HB2.out.size;omega
  have HA1:=Lib.hid (show Calls Tryz.prog 76 #[.pointer (some ⟨H,0,none⟩),.int .u8 1] w2 (AcceptPost Dch B f2 H {R with keep:=(bw,(.cells #[.int .u8 (xk:Int),.int .i64 (xf:Int),.int .i64 (xt:Int),.string ⟨xtx.toArray⟩,.int .u64 (x0:Int),.int .u64 (x1:Int),.int .u64 (x2:Int),.int .u64 (x3:Int),.int .i64 xlo,.int .i64 xhi] 32))::R.keep} 1 w2)from accept_any Dch w2 B f2 H _ 1 HR2.out ⟨fun h=>h,fun h=>h⟩ (by show R.i≤65536;omega) hB2)
  by_cases hk1:kdW R.W R.i=1
  ·have HK1:=Lib.hid hk1;clear hk1
   have HA2:=Lib.hid (show ∀w3,RdM Dch w3 B f2 H {R with i:=R.i+1,keep:=(bw,(.cells #[.int .u8 (xk:Int),.int .i64 (xf:Int),.int .i64 (xt:Int),.string ⟨xtx.toArray⟩,.int .u64 (x0:Int),.int .u64 (x1:Int),.int .u64 (x2:Int),.int .u64 (x3:Int),.int .i64 xlo,.int .i64 xhi] 32))::R.keep}→B≤w3.heap.size→Calls Tryz.prog 76 #[.pointer (some ⟨H,0,none⟩),.int .u8 2] w3 (AcceptPost Dch B f2 H {R with i:=R.i+1,keep:=(bw,(.cells #[.int .u8 (xk:Int),.int .i64 (xf:Int),.int .i64 (xt:Int),.string ⟨xtx.toArray⟩,.int .u64 (x0:Int),.int .u64 (x1:Int),.int .u64 (x2:Int),.int .u64 (x3:Int),.int .i64 xlo,.int .i64 xhi] 32))::R.keep} 2 w3)from fun w3 h3 h4=>accept_any Dch w3 B f2 H _ 2 h3 ⟨fun h=>h,fun h=>h⟩ (by show R.i+1≤65536;have:=kd_lt (W:=R.W) (i:=R.i) (by rw[HK1.out];decide);omega) h4)
   by_cases hk2:kdW R.W (R.i+1)=2
   ·have HK2:=Lib.hid hk2;clear hk2
    go_upto_region 4 with(first
     |(go_at_call 76;(with_reducible refine HA1.out.mono ?_);rintro e w3 ⟨h1,_,_,h3⟩;obtain⟨rfl,h2⟩:=h1 HK1.out;have HR3:=Lib.hid h2;have HB3:=Lib.hid (HB2.out.trans h3);clear h1 h2 h3)
     |(go_at_call 76;(with_reducible refine(HA2.out w3 HR3.out (by have:=HB3.out.size;omega)).mono ?_);rintro e w4 ⟨h1,_,_,h3⟩;obtain⟨rfl,h2⟩:=h1 HK2.out;have HR4:=Lib.hid h2;have HB4:=Lib.hid (HB3.out.trans h3);clear h1 h2 h3)
     |fail)
    have hlt:=kd_lt (W:=R.W) (i:=R.i+1) (by rw[HK2.out];decide)
    have HCH:=Lib.hid (show Calls Tryz.prog 41 #[.pointer (some ⟨H,0,none⟩)] w4 (ChoicePost B H {R with i:=R.i+1+1,keep:=(bw,(.cells #[.int .u8 (xk:Int),.int .i64 (xf:Int),.int .i64 (xt:Int),.string ⟨xtx.toArray⟩,.int .u64 (x0:Int),.int .u64 (x1:Int),.int .u64 (x2:Int),.int .u64 (x3:Int),.int .i64 xlo,.int .i64 xhi] 32))::R.keep} ⟨R.i+1+1,[botP],C⟩ w4)from
     rchoice_any (fun _=>False) w4 B f2 H {R with i:=R.i+1+1,keep:=(bw,(.cells #[.int .u8 (xk:Int),.int .i64 (xf:Int),.int .i64 (xt:Int),.string ⟨xtx.toArray⟩,.int .u64 (x0:Int),.int .u64 (x1:Int),.int .u64 (x2:Int),.int .u64 (x3:Int),.int .i64 xlo,.int .i64 xhi] 32))::R.keep} C HR4.out (fun _ h=>h) (by show ∀x∈R.W,mayS x;rw[HIV.out.W];exact HW.out) HIV.out.cs (by show C.length≤R.i+1+1;have:=HFU.out.2.1;omega) (by show R.i+1+1≤R.W.length;omega) hwl' (by show ∀x∈R.W,_;rw[HIV.out.W];exact HSM.out) (fun w' hb=>HCT.out w' (HB4.out.trans hb)) (by have:=HB4.out.size;omega))
    unfold ChoicePost at HCH
    rcases hgo:goP R.W ⟨R.i+1+1,[botP],C⟩with⟨⟨j⟩|⟨j,t⟩,C'⟩
    ·have HRF:=Lib.hid (rules_fail (acc:=acc) HFU.out.2.2.2.1 HFU.out.1 HK1.out HK2.out hgo)
     have HG:=Lib.hid hgo;clear hgo
     go_wp2_with (first
      |(go_at_call 41;(with_reducible refine HCH.out.mono ?_);rintro e w5 ⟨_,h1⟩;obtain⟨nA5,nc5,ls5,lA5,lc5,os5,cA5,cc5,f5,rfl,h2,h3⟩:=h1 j C' HG.out;have HR5:=Lib.hid h2.drop;have HB5:=Lib.hid (HB4.out.trans h3);clear h1 h2 h3)
      |fail)
     go_ret
     have hrf:rulesP R0.W=.fail j:=by rw[←HFU.out.2.2.2.2];exact HRF.out
     refine⟨fun l cs e=>(by rw[hrf]at e;cases e),fun k e=> ?_⟩
     rw[hrf]at e
     cases e
     have hbb:=bx1 w5 (.cells #[.slice none 0 0,.int .i64 0] 40)
     exact⟨_,f5,rfl,HR5.out.below hbb,⟨HIV.out.W,HIV.out.fin,HIV.out.keep,rfl⟩,HB5.out.trans (hbb.mono (by have:=HB5.out.size;omega))⟩
    ·have hdn:=go_done hgo (by show R.i+1+1≤R.W.length;omega) (by show C.length≤R.i+1+1;have:=HFU.out.2.1;omega)
     have HDN:=Lib.hid hdn
     have HG:=Lib.hid hgo;clear hgo hdn
     go_upto_region 7 with(first
      |(go_at_call 41;(with_reducible refine HCH.out.mono ?_);rintro e w5 ⟨h1,_⟩;obtain⟨⟨vA,vc,vls,vr⟩,nA5,nc5,ls5,lA5,lc5,os5,cA5,cc5,f5,rfl,h2,h2l,h3,h4,h5⟩:=h1 j t C' HG.out;have HV5:=Lib.hid h2;have HVL5:=Lib.hid h2l;clear h2l;have HO5:=Lib.hid h3;have HR5:=Lib.hid h4;have HB5:=Lib.hid (HB4.out.trans h5);clear h1 h2 h3 h4 h5)
      |fail)
     have hmx:xtx.length≤32:=by
      have h1:R.i<R.W.length:=by omega
      have h2:mayS (wdW R.W R.i):=by rw[wd_at h1];exact HW.out _ (by rw[←HIV.out.W];exact List.getElem_mem h1)
      rw[HXW.out]at h2
      have h3:=h2.1 (by show xk=1;rw[HXK.out];exact HK1.out)
      simp only[mayL,decide_eq_true_eq]at h3
      exact h3.2.1
     have hdl:R.ds.length=acc.length∧R.ms.length=acc.length:=⟨by have:=congrArg List.length HIV.out.ds;simpa using this,by rw[HIV.out.ms];simp⟩
     have hac:=HFU.out.2.2.1
     obtain⟨f6,hr6,hk6⟩:=HR5.out.boxin (.cells #[.slice vA vls.length vc,.int .i64 vr] 40)
     have HO6:=Lib.hid (show TreeOwn (w5.alloc (.cells #[.slice vA vls.length vc,.int .i64 vr] 40)) (fun k=>f6 k=.body R.ds.length∧B≤k) ⟨vA,vc,vls,vr⟩from HO5.out.keep hk6 id)
     have HR6:=Lib.hid (show RdM Dch (w5.alloc (.cells #[.slice vA vls.length vc,.int .i64 vr] 40)) B f6 H {R with i:=j,nA:=nA5,nc:=nc5,ls:=ls5,lA:=lA5,lc:=lc5,os:=os5,cA:=cA5,cc:=cc5,cs:=C'.map (wdW R.W),keep:=(w5.heap.size,(.cells #[.slice vA vls.length vc,.int .i64 vr] 40))::(bw,(.cells #[.int .u8 (xk:Int),.int .i64 (xf:Int),.int .i64 (xt:Int),.string ⟨xtx.toArray⟩,.int .u64 (x0:Int),.int .u64 (x1:Int),.int .u64 (x2:Int),.int .u64 (x3:Int),.int .i64 xlo,.int .i64 xhi] 32))::R.keep}from hr6)
     have HB6:=Lib.hid (HB5.out.trans ((bx1 w5 (.cells #[.slice vA vls.length vc,.int .i64 vr] 40)).mono (show B≤w5.heap.size by have:=HB5.out.size;omega)))
     clear hr6 hk6 HO5 HR5
     generalize hbb:w5.heap.size=bb at *
     generalize (w5.alloc (.cells #[.slice vA vls.length vc,.int .i64 vr] 40))=w6 at *
     have HBX6:=Lib.hid (show w6.heap[H]?=some (.cells #[.slice R.WA R.W.length R.Wc,.int .i64 (R.fin:Int),.int .i64 (j:Int),.slice nA5 ls5.length nc5,.slice lA5 os5.length lc5,.slice R.dA R.ds.length R.dc,.slice R.mA R.ms.length R.mc,.slice cA5 (C'.map (wdW R.W)).length cc5] 82 (0,0))from HR6.out.box (fun h=>h))
     have HKW6:=Lib.hid (show w6.heap[bw]?=some (.cells #[.int .u8 (xk:Int),.int .i64 (xf:Int),.int .i64 (xt:Int),.string ⟨xtx.toArray⟩,.int .u64 (x0:Int),.int .u64 (x1:Int),.int .u64 (x2:Int),.int .u64 (x3:Int),.int .i64 xlo,.int .i64 xhi] 32 (0,0))from HR6.out.kept (fun h=>h) (p:=(bw,(.cells #[.int .u8 (xk:Int),.int .i64 (xf:Int),.int .i64 (xt:Int),.string ⟨xtx.toArray⟩,.int .u64 (x0:Int),.int .u64 (x1:Int),.int .u64 (x2:Int),.int .u64 (x3:Int),.int .i64 xlo,.int .i64 xhi] 32))) (by simp))
     obtain⟨_,_,_,_,_,_,p6,_,pf⟩:=blk8 HBX6.out
     obtain⟨q0,q1,q2,q3,q4,q5,q6,q7,q8,q9,_⟩:=blk10 HKW6.out
     have hltH:H<w6.heap.size:=heap_lt' HBX6.out
     have hltW:bw<w6.heap.size:=heap_lt' HKW6.out
     have HNO:=Lib.hid (show OwnF w6 B f6 .names 32 10 R.mA R.ms.length R.mc (wdL R.ms)from HR6.out .names (fun h=>h))
     have HBX6f:=Lib.hid (HR6.out .box (fun h=>h)).2.2
     have HNN:=Lib.hid (show R.ms.length≤65536∧R.ds.length≤65536 from⟨by omega,by omega⟩)
     clear hdl hac
     obtain⟨m,hm⟩:∃m,R.ms.length=m:=⟨_,rfl⟩
     have HM:=Lib.hid hm
     rw[hm]at p6
     obtain⟨mV,hmV⟩:∃V,R.mA=V:=⟨_,rfl⟩
     obtain⟨mvc,hmc⟩:∃V,R.mc=V:=⟨_,rfl⟩
     rw[hmV,hmc]at p6
     have HMV:=Lib.hid (And.intro hmV hmc)
     have HF6:=Lib.hid (show m+1≤maxLen∧(m+1)*88≤140737488355328∧B≤(w6.drew.alloc (.cells #[.int .u8 (xk:Int),.int .i64 (xf:Int),.int .i64 (xt:Int),.string ⟨xtx.toArray⟩,.int .u64 (x0:Int),.int .u64 (x1:Int),.int .u64 (x2:Int),.int .u64 (x3:Int),.int .i64 xlo,.int .i64 xhi] 32)).heap.size from⟨by unfold maxLen;have:=HNN.out.1;omega,by have:=HNN.out.1;omega,by have:=HB6.out.size;simp;omega⟩)
     have HNE:=Lib.hid (show ¬some H=blkOf mV from fun e=>by have h1:=HNO.out.2 H (by rw[hmV];exact e.symm);rw[HBX6f.out]at h1;cases h1)
     have HOV:=Lib.hid (show(w6.drew.alloc (.cells #[.int .u8 (xk:Int),.int .i64 (xf:Int),.int .i64 (xt:Int),.string ⟨xtx.toArray⟩,.int .u64 (x0:Int),.int .u64 (x1:Int),.int .u64 (x2:Int),.int .u64 (x3:Int),.int .i64 xlo,.int .i64 xhi] 32)).ownsRow B 32 10 (.slice mV m mvc) m (wdL R.ms)from World.ownsRow.alloc (show w6.drew.ownsRow B 32 10 (.slice mV m mvc) m (wdL R.ms)from by have h:=HNO.out.1;rw[hmV,hmc,hm]at h;exact h) _)
     have HKB:=Lib.hid (show(w6.drew.alloc (.cells #[.int .u8 (xk:Int),.int .i64 (xf:Int),.int .i64 (xt:Int),.string ⟨xtx.toArray⟩,.int .u64 (x0:Int),.int .u64 (x1:Int),.int .u64 (x2:Int),.int .u64 (x3:Int),.int .i64 xlo,.int .i64 xhi] 32)).heap[H]?=some (.cells #[.slice R.WA R.W.length R.Wc,.int .i64 (R.fin:Int),.int .i64 (j:Int),.slice nA5 ls5.length nc5,.slice lA5 os5.length lc5,.slice R.dA R.ds.length R.dc,.slice mV m mvc,.slice cA5 (C'.map (wdW R.W)).length cc5] 82 (0,0))from bx_old (w:=w6.drew) (by have h:=HBX6.out;rw[hmV,hmc,hm]at h;exact h))
     clear hm hmV hmc
     go_cut []from 6 to 56 (fun wx=>∃(V':Option Addr) (vc':Nat) (f7:Nat→Ow),Hid (RdM Dch wx B f7 H {R with i:=j,nA:=nA5,nc:=nc5,ls:=ls5,lA:=lA5,lc:=lc5,os:=os5,mA:=V',mc:=vc',ms:=R.ms++[(⟨xk,xf,xt,xtx,x0,x1,x2,x3,xlo,xhi⟩:Wd)],cA:=cA5,cc:=cc5,cs:=C'.map (wdW R.W),keep:=(bb,(.cells #[.slice vA vls.length vc,.int .i64 vr] 40))::(bw,(.cells #[.int .u8 (xk:Int),.int .i64 (xf:Int),.int .i64 (xt:Int),.string ⟨xtx.toArray⟩,.int .u64 (x0:Int),.int .u64 (x1:Int),.int .u64 (x2:Int),.int .u64 (x3:Int),.int .i64 xlo,.int .i64 xhi] 32))::R.keep})∧Hid (TreeOwn wx (fun k=>f7 k=.body R.ds.length∧B≤k) ⟨vA,vc,vls,vr⟩)∧Hid (Below B w wx))
     case first=>
      go_region_law ((refine step_append_at (by rfl) (.tmp 27) (.tmp 29) 23 (by rfl) B 32 jw (.agg #[.int .u8 0,.int .i64 0,.int .i64 0,.string ByteArray.empty,.int .u64 0,.int .u64 0,.int .u64 0,.int .u64 0,.int .i64 0,.int .i64 0]) 10 88 Tryz.underlying23 hjw hw0 hw1 hw2 hzw (by decide) mV mvc m (wdL R.ms) (by rfl) HOV.out (some ⟨w6.heap.size,0,none⟩) 1 1 [.int .u8 (xk:Int),.int .i64 (xf:Int),.int .i64 (xt:Int),.string ⟨xtx.toArray⟩,.int .u64 (x0:Int),.int .u64 (x1:Int),.int .u64 (x2:Int),.int .u64 (x3:Int),.int .i64 xlo,.int .i64 xhi] (by rfl) rfl (row_blk (bx_new w6.drew _)) (fun u hu=>by simp only[List.mem_cons,List.not_mem_nil,or_false]at hu;rcases hu with rfl|rfl|rfl|rfl|rfl|rfl|rfl|rfl|rfl|rfl <;> rfl) HF6.out.1 HF6.out.2.1 HF6.out.2.2 ?_;intro V' vc' w7 HO2 HG2 HA2;have HK2:=Lib.hid ((HG2.out.block H (heap_lt' HKB.out) HNE.out).trans HKB.out);have t1:w7.cell? ⟨H,6,none⟩=some (.slice mV m mvc):=(by simp[World.cell?,HK2.out]);have t2:w7.frozen? ⟨H,6,none⟩=false:=(by simp[World.frozen?,HK2.out])))
      all_goals
       clear t1 t2 p6 pf q0 q1 q2 q3 q4 q5 q6 q7 q8 q9
       have HND:=Lib.hid (names_done (x:=(⟨xk,xf,xt,xtx,x0,x1,x2,x3,xlo,xhi⟩:Wd)) HR6.out ⟨fun h=>h,fun h=>h⟩ (((Below.refl w6.heap.size w6).drew).alloc (Nat.le_refl _) (.cells #[.int .u8 (xk:Int),.int .i64 (xf:Int),.int .i64 (xt:Int),.string ⟨xtx.toArray⟩,.int .u64 (x0:Int),.int .u64 (x1:Int),.int .u64 (x2:Int),.int .u64 (x3:Int),.int .i64 xlo,.int .i64 xhi] 32)) HM.out HMV.out.1 (show w7.ownsRow B 32 10 (.slice V' (m+1) vc') (m+1) (wdL (R.ms++[(⟨xk,xf,xt,xtx,x0,x1,x2,x3,xlo,xhi⟩:Wd)]))from by rw[wdL_snoc];exact HO2.out) HG2.out HA2.out (show B≤w6.heap.size by have:=HB6.out.size;omega))
       have HO7:=Lib.hid (HO6.out.keep HND.out.2.1 (by simp))
       generalize (w7.setCell ⟨H,6,none⟩ (.slice V' (m+1) vc'))=w8 at *
       (try go_wp2_with fail)
       go_meet
       exact⟨V',vc',_,Lib.hid HND.out.1,HO7,Lib.hid (HB6.out.trans HND.out.2.2)⟩
     case rest=>
      obtain⟨V',vc',f7,HR7,HO7,HB7⟩:=hcut
      clear HOV HKB HNE HF6 HM HMV HNO HKW6 HBX6 HBX6f p6 pf q0 q1 q2 q3 q4 q5 q6 q7 q8 q9 hltH hltW HR6 HO6 HB6
      go_upto_region 8 with(fail)
      have HCF:=Lib.hid (show ∀wx,RdM Dch wx B f7 H {R with i:=j,nA:=nA5,nc:=nc5,ls:=ls5,lA:=lA5,lc:=lc5,os:=os5,mA:=V',mc:=vc',ms:=R.ms++[(⟨xk,xf,xt,xtx,x0,x1,x2,x3,xlo,xhi⟩:Wd)],cA:=cA5,cc:=cc5,cs:=C'.map (wdW R.W),keep:=(bb,(.cells #[.slice vA vls.length vc,.int .i64 vr] 40))::(bw,(.cells #[.int .u8 (xk:Int),.int .i64 (xf:Int),.int .i64 (xt:Int),.string ⟨xtx.toArray⟩,.int .u64 (x0:Int),.int .u64 (x1:Int),.int .u64 (x2:Int),.int .u64 (x3:Int),.int .i64 xlo,.int .i64 xhi] 32))::R.keep}→wx.cell? ⟨H,5,none⟩=some (.slice R.dA R.ds.length R.dc)∧wx.frozen? ⟨H,5,none⟩=false∧wx.cell? ⟨bw,3,none⟩=some (.string ⟨xtx.toArray⟩)∧wx.cell? ⟨bb,0,none⟩=some (.slice vA vls.length vc)∧wx.cell? ⟨bb,1,none⟩=some (.int .i64 vr)∧H<wx.heap.size∧bw<wx.heap.size∧bb<wx.heap.size from fun wx hr=>by
       have hb:=hr.box (fun h=>h)
       have h1:=hr.kept (fun h=>h) (p:=(bw,(.cells #[.int .u8 (xk:Int),.int .i64 (xf:Int),.int .i64 (xt:Int),.string ⟨xtx.toArray⟩,.int .u64 (x0:Int),.int .u64 (x1:Int),.int .u64 (x2:Int),.int .u64 (x3:Int),.int .i64 xlo,.int .i64 xhi] 32))) (by simp)
       have h2:=hr.kept (fun h=>h) (p:=(bb,(.cells #[.slice vA vls.length vc,.int .i64 vr] 40))) (by simp)
       obtain⟨_,_,_,_,_,p5,_,_,pf⟩:=blk8 hb
       obtain⟨_,_,_,e3,_⟩:=blk10 h1
       obtain⟨q0,q1,_,_⟩:=blk2 h2
       exact⟨p5,by simp[World.frozen?,hb],e3,q0,q1,heap_lt' hb,heap_lt' h1,heap_lt' h2⟩)
      obtain⟨p5,pf,e3,q0,q1,hl1,hl2,hl3⟩:=HCF.out _ HR7.out
      have HCL:=Lib.hid (show Calls Tryz.prog 52 #[.string ⟨xtx.toArray⟩] wc.drew fun e w'=>e=.returned (.string ⟨xtx.toArray⟩)∧Below wc.heap.size wc w' from(clone_any ⟨xtx.toArray⟩ wc.drew (by simp[ByteArray.size];omega)).mono fun e w' hp=>⟨hp.1,((Below.refl wc.heap.size wc).drew).trans hp.2⟩)
      have HARM:=Lib.hid (show ∀w8,Below wc.heap.size wc w8→(w8.alloc (.cells #[.string ⟨xtx.toArray⟩,.slice vA vls.length vc,.int .i64 vr] 45)).ownsRow B 45 3 (.slice R.dA R.ds.length R.dc) R.ds.length (dfL.all R.ds)∧(R.ds.length+1≤maxLen∧(R.ds.length+1)*48≤140737488355328∧B≤(w8.alloc (.cells #[.string ⟨xtx.toArray⟩,.slice vA vls.length vc,.int .i64 vr] 45)).heap.size)∧ ¬some H=blkOf R.dA ∧
        (w8.alloc (.cells #[.string ⟨xtx.toArray⟩,.slice vA vls.length vc,.int .i64 vr] 45)).cell? ⟨H,5,none⟩=some (.slice R.dA R.ds.length R.dc)∧(w8.alloc (.cells #[.string ⟨xtx.toArray⟩,.slice vA vls.length vc,.int .i64 vr] 45)).frozen? ⟨H,5,none⟩=false∧H<(w8.alloc (.cells #[.string ⟨xtx.toArray⟩,.slice vA vls.length vc,.int .i64 vr] 45)).heap.size from fun w8 hb=>by
       have hr:=HR7.out.below hb
       have hO:=hr .defs (fun h=>h)
       obtain⟨c1,c2,_,_,_,c3,_⟩:=HCF.out _ hr
       have h0:=Below.heap_alloc w8 (.cells #[.string ⟨xtx.toArray⟩,.slice vA vls.length vc,.int .i64 vr] 45) H c3
       refine⟨World.ownsRow.alloc hO.1 _,⟨by unfold maxLen;have:=HNN.out.2;omega,by have:=HNN.out.2;omega,by have:=HB7.out.size;have:=hb.size;simp;omega⟩,fun e=> ?_,?_,?_,by simp;omega⟩
       ·have h1:=hO.2 H e.symm
        have h2:=(hr .box (fun h=>h)).2.2
        rw[h1]at h2;cases h2
       ·unfold World.cell? at c1 ⊢;simp only[h0];exact c1
       ·unfold World.frozen? at c2 ⊢;simp only[h0];exact c2)
      go_cut []from 6 to 56 (fun wx=>∃(dV':Option Addr) (dvc':Nat) (f9:Nat→Ow),Hid (RdM Dch wx B f9 H {R with i:=j,nA:=nA5,nc:=nc5,ls:=ls5,lA:=lA5,lc:=lc5,os:=os5,dA:=dV',dc:=dvc',ds:=R.ds++[(⟨⟨xtx.toArray⟩,⟨vA,vc,vls,vr⟩⟩:Ld)],mA:=V',mc:=vc',ms:=R.ms++[(⟨xk,xf,xt,xtx,x0,x1,x2,x3,xlo,xhi⟩:Wd)],cA:=cA5,cc:=cc5,cs:=C'.map (wdW R.W),keep:=(bb,(.cells #[.slice vA vls.length vc,.int .i64 vr] 40))::(bw,(.cells #[.int .u8 (xk:Int),.int .i64 (xf:Int),.int .i64 (xt:Int),.string ⟨xtx.toArray⟩,.int .u64 (x0:Int),.int .u64 (x1:Int),.int .u64 (x2:Int),.int .u64 (x3:Int),.int .i64 xlo,.int .i64 xhi] 32))::R.keep})∧Hid (Below B w wx))
      case first=>
       go_region_law (first
        |(go_simp;go_at_call 52;(with_reducible refine HCL.out.mono ?_);rintro e w8 ⟨rfl,hb⟩;have HAR:=Lib.hid (HARM.out w8 hb);have HB8:=Lib.hid hb;obtain⟨r5,rf,re3,rq0,rq1,rl1,rl2,rl3⟩:=HCF.out _ (HR7.out.below HB8.out);clear hb)
        |(refine step_append_at (by rfl) (.tmp 37) (.tmp 43) 33 (by rfl) B 45 jd (.agg #[.string ByteArray.empty,.slice none 0 0,.int .i64 0]) 3 48 Tryz.underlying33 hjd hd0 hd1 hd2 hzd (by decide) R.dA R.dc R.ds.length (dfL.all R.ds) (by rfl) HAR.out.1 (some ⟨w8.heap.size,0,none⟩) 1 1 [.string ⟨xtx.toArray⟩,.slice vA vls.length vc,.int .i64 vr] (by rfl) rfl (row_blk (bx_new w8 _)) (fun u hu=>by simp only[List.mem_cons,List.not_mem_nil,or_false]at hu;rcases hu with rfl|rfl|rfl <;> rfl) HAR.out.2.1.1 HAR.out.2.1.2.1 HAR.out.2.1.2.2 ?_;intro V4 vc4 w9 HO2 HG2 HA2;have t12:=cell_grown HG2.out HAR.out.2.2.1 HAR.out.2.2.2.2.2 5;have t1:=t12.1.trans HAR.out.2.2.2.1;have t2:=t12.2.trans HAR.out.2.2.2.2.1;clear t12))
       all_goals
        clear t1 t2 p5 pf e3 q0 q1 r5 rf re3 rq0 rq1
        have HND:=Lib.hid (defs_done (x:=(⟨⟨xtx.toArray⟩,⟨vA,vc,vls,vr⟩⟩:Ld)) (HR7.out.below HB8.out) ⟨fun h=>h,fun h=>h⟩ (bx1 w8 (.cells #[.string ⟨xtx.toArray⟩,.slice vA vls.length vc,.int .i64 vr] 45)) rfl rfl (show w9.ownsRow B 45 3 (.slice V4 (R.ds.length+1) vc4) (R.ds.length+1) (dfL.all (R.ds++[(⟨⟨xtx.toArray⟩,⟨vA,vc,vls,vr⟩⟩:Ld)]))from by rw[dfL.all_append,dfL.all_one];exact HO2.out) HG2.out HA2.out ⟨by simp[ByteArray.size];omega,(HO7.out).below HB8.out⟩ (show B≤w8.heap.size by have:=HB7.out.size;have:=HB8.out.size;omega))
        generalize (w9.setCell ⟨H,5,none⟩ (.slice V4 (R.ds.length+1) vc4))=w10 at *
        (try go_wp2_with fail)
        go_meet
        exact⟨V4,vc4,_,Lib.hid HND.out.1,Lib.hid ((HB7.out.trans (HB8.out.mono (by have:=HB7.out.size;omega))).trans HND.out.2)⟩
      case rest=>
       obtain⟨dV',dvc',f9,HR9,HB9⟩:=hcut
       clear HARM HCL HCF HR7 HO7 HB7 p5 pf e3 q0 q1 hl1 hl2 hl3
       have HBX9:=Lib.hid (show wc.heap[H]?=some (.cells #[.slice R.WA R.W.length R.Wc,.int .i64 (R.fin:Int),.int .i64 (j:Int),.slice nA5 ls5.length nc5,.slice lA5 os5.length lc5,.slice dV' (R.ds++[(⟨⟨xtx.toArray⟩,⟨vA,vc,vls,vr⟩⟩:Ld)]).length dvc',.slice V' (R.ms++[(⟨xk,xf,xt,xtx,x0,x1,x2,x3,xlo,xhi⟩:Wd)]).length vc',.slice cA5 (C'.map (wdW R.W)).length cc5] 82 (0,0))from HR9.out.box (fun h=>h))
       obtain⟨p0,_,p2,_,_,_,_,_,pf⟩:=blk8 HBX9.out
       have HINV:=Lib.hid (show RuInv R0 {R with i:=j,nA:=nA5,nc:=nc5,ls:=ls5,lA:=lA5,lc:=lc5,os:=os5,dA:=dV',dc:=dvc',ds:=R.ds++[(⟨⟨xtx.toArray⟩,⟨vA,vc,vls,vr⟩⟩:Ld)],mA:=V',mc:=vc',ms:=R.ms++[(⟨xk,xf,xt,xtx,x0,x1,x2,x3,xlo,xhi⟩:Wd)],cA:=cA5,cc:=cc5,cs:=C'.map (wdW R.W),keep:=R.keep} (acc++[(R.i,t)]) C' from by
        refine⟨HIV.out.W,HIV.out.fin,HIV.out.keep,?_,fun d hd=>((List.mem_append.1 hd).elim (HIV.out.len d) fun hd=>by rw[List.mem_singleton.1 hd];exact HVL5.out),⟨?_,Nat.le_trans HDN.out.2.2 HDN.out.2.1⟩,?_,rfl⟩
        ·show(R.ds++[(⟨⟨xtx.toArray⟩,⟨vA,vc,vls,vr⟩⟩:Ld)]).map Ld.df=(acc++[(R.i,t)]).map (defW R.W)
         rw[List.map_append,List.map_append,HIV.out.ds]
         have e:Ld.df (⟨⟨xtx.toArray⟩,⟨vA,vc,vls,vr⟩⟩:Ld)=defW R.W (R.i,t):=by
          show(⟨⟨xtx.toArray⟩,_⟩:Df)=⟨⟨(textW R.W R.i).toArray⟩,bodyT t⟩
          have e1:textW R.W R.i=xtx:=by unfold textW;rw[HXW.out]
          rw[e1]
          exact congrArg (Df.mk ⟨xtx.toArray⟩) HV5.out
         simp only[List.map_cons,List.map_nil,e]
        ·show(acc++[(R.i,t)]).length≤R.W.length
         have h1:=HDN.out
         have h2:=HFU.out.2.2.1
         simp only[List.length_append,List.length_singleton]
         omega
        ·show R.ms++[(⟨xk,xf,xt,xtx,x0,x1,x2,x3,xlo,xhi⟩:Wd)]=(acc++[(R.i,t)]).map fun p=>wdW R.W p.1
         rw[List.map_append,HIV.out.ms]
         simp only[List.map_cons,List.map_nil,HXW.out])
       go_upto_region 9 with(fail)
       by_cases hj:R.W.length≤j
       ·have HRF:=Lib.hid (rules_last (acc:=acc) HFU.out.2.2.2.1 HFU.out.1 HK1.out HK2.out HG.out hj)
        have hj':(R.W.length:Int)≤(j:Int):=by omega
        clear hj
        go_quiet (fail)
        go_wp2_with fail
        go_ret
        have hrf:rulesP R0.W=.done (acc++[(R.i,t)]) C':=by rw[←HFU.out.2.2.2.2];exact HRF.out
        refine⟨fun l cs e=> ?_,fun k e=>(by rw[hrf]at e;cases e)⟩
        rw[hrf]at e
        cases e
        exact⟨_,f9,rfl,(HR9.out.drop.drop).below (Below.drewN'' (Below.refl _ wc) nq),HINV.out,Below.drewN'' HB9.out nq⟩
       ·have HRF:=Lib.hid (rules_more (acc:=acc) HFU.out.2.2.2.1 HFU.out.1 HK1.out HK2.out HG.out (by omega))
        have hj':(j:Int)<(R.W.length:Int):=by omega
        have HJL:=Lib.hid (show j<R.W.length by omega)
        clear hj
        go_quiet (fail)
        go_wp2_with fail
        have HR10:=Lib.hid ((HR9.out.drop.drop).below (Below.drewN'' (Below.refl _ wc) nq))
        have hm1:=memI_of HR.out (fun h=>h)
        have hm2:memI H (wc.drewN nq)=j:=memI_of HR10.out (fun h=>h)
        have hW0:=HIV.out.W
        have hdn:=HDN.out
        have hfu:=HFU.out
        have hrf:rulesF R.W (fu-1) j (acc++[(R.i,t)]) C'=rulesP R0.W:=by rw[←hfu.2.2.2.2];exact HRF.out.symm
        refine⟨⟨_,f9,acc++[(R.i,t)],C',fu-1,HR10,Lib.hid (Below.drewN'' HB9.out nq),HINV,Lib.hid ⟨hdn.2.1,hdn.2.2,?_,?_,hrf⟩⟩,?_⟩
        ·show(acc++[(R.i,t)]).length≤j
         simp only[List.length_append,List.length_singleton];omega
        ·show R.W.length<j+(fu-1)
         omega
        ·rw[hm1,hm2,←hW0]
         have:=HJL.out
         omega
   ·have HK2:=Lib.hid hk2;clear hk2
    have HRF:=Lib.hid (rules_no2 (acc:=acc) (C:=C) HFU.out.2.2.2.1 HFU.out.1 HK1.out HK2.out)
    go_wp2_with (first
     |(go_at_call 76;(with_reducible refine HA1.out.mono ?_);rintro e w3 ⟨h1,_,_,h3⟩;obtain⟨rfl,h2⟩:=h1 HK1.out;have HR3:=Lib.hid h2;have HB3:=Lib.hid (HB2.out.trans h3);clear h1 h2 h3)
     |(go_at_call 76;(with_reducible refine(HA2.out w3 HR3.out (by have:=HB3.out.size;omega)).mono ?_);rintro e w4 ⟨_,h1,_,h3⟩;obtain⟨rfl,h2⟩:=h1 HK2.out;have HR4:=Lib.hid h2.drop;have HB4:=Lib.hid (HB3.out.trans h3);clear h1 h2 h3)
     |fail)
    go_ret
    have hrf:rulesP R0.W=.fail (R.i+1):=by rw[←HFU.out.2.2.2.2];exact HRF.out
    refine⟨fun l cs e=>(by rw[hrf]at e;cases e),fun k e=> ?_⟩
    rw[hrf]at e
    cases e
    exact⟨_,f2,rfl,HR4.out,⟨HIV.out.W,HIV.out.fin,HIV.out.keep,rfl⟩,HB4.out⟩
  ·have HK1:=Lib.hid hk1;clear hk1
   have HRF:=Lib.hid (rules_no (acc:=acc) (C:=C) HFU.out.2.2.2.1 HFU.out.1 HK1.out)
   go_wp2_with (first
    |(go_at_call 76;(with_reducible refine HA1.out.mono ?_);rintro e w3 ⟨_,h1,_,h3⟩;obtain⟨rfl,h2⟩:=h1 HK1.out;have HR3:=Lib.hid h2.drop;have HB3:=Lib.hid (HB2.out.trans h3);clear h1 h2 h3)
    |fail)
   go_ret
   have hrf:rulesP R0.W=.fail R.i:=by rw[←HFU.out.2.2.2.2];exact HRF.out
   refine⟨fun l cs e=>(by rw[hrf]at e;cases e),fun k e=> ?_⟩
   rw[hrf]at e
   cases e
   exact⟨_,f2,rfl,HR3.out,⟨HIV.out.W,HIV.out.fin,HIV.out.keep,rfl⟩,HB3.out⟩
end Go.Proofs.YtpfokabdpmjobaaGreatDoor
