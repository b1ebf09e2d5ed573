/- The contract of the reader's leaf. -/
import Derived.Test.YtpfokabdpmjobaaGreatDoorJs
namespace Go.Proofs.YtpfokabdpmjobaaGreatDoor
open Go.RowKit
set_option linter.unusedSimpArgs false
set_option linter.unusedVariables false
abbrev ndV0 (n:Nd):Value:=.agg (ndC n (.slice none 0 0))
def LeafPostR (D:Ow→Prop) (B:Nat) (H:Nat) (R:Rd) (w:World) (e:Ending) (w':World):Prop:=
 (isLeaf R.W R.i=true→e=.returned (.tuple #[ndV0 (leafW (wdW R.W R.i)),.bool true])∧ ∃f' cA cc,RdM D w' B f' H {R with i:=R.i+1,cA:=cA,cc:=cc,cs:=if kdW R.W R.i=1 then R.cs++[wdW R.W R.i]else R.cs}∧Below B w w') ∧
 (isLeaf R.W R.i=false→e=.returned (.tuple #[ndV0 emptyN,.bool false])∧ ∃f',RdM D w' B f' H R∧Below B w w')
theorem set_ne {w:World} {H b:Nat} {o:Obj} {u:Value} (h:w.heap[b]?=some o) (hb:b≠H):(w.setCell ⟨H,2,none⟩ u).heap[b]?=some o:=(Below.heap_setCell w ⟨H,2,none⟩ u b hb).trans h
abbrev set9 (w:World) (b:Nat) (x0 x1 x2 x3 x4 x5 x6 x7 x8:Value):World:=((((((((w.setCell ⟨b,0,none⟩ x0).setCell ⟨b,1,none⟩ x1).setCell ⟨b,2,none⟩ x2).setCell ⟨b,3,none⟩ x3).setCell ⟨b,4,none⟩ x4).setCell ⟨b,5,none⟩ x5).setCell ⟨b,6,none⟩ x6).setCell ⟨b,7,none⟩ x7).setCell ⟨b,8,none⟩ x8
theorem set9_box {w:World} {b:Nat} {y0 y1 y2 y3 y4 y5 y6 y7 y8:Value} {T:TypeId} (h:w.heap[b]?=some (.cells #[y0,y1,y2,y3,y4,y5,y6,y7,y8] T (0,0))) (x0 x1 x2 x3 x4 x5 x6 x7 x8:Value):
  (set9 w b x0 x1 x2 x3 x4 x5 x6 x7 x8).heap[b]?=some (.cells #[x0,x1,x2,x3,x4,x5,x6,x7,x8] T (0,0)):=by
 have h:=box_cells (i:=0) h x0;have h:=box_cells (i:=1) h x1;have h:=box_cells (i:=2) h x2;have h:=box_cells (i:=3) h x3;have h:=box_cells (i:=4) h x4
 have h:=box_cells (i:=5) h x5;have h:=box_cells (i:=6) h x6;have h:=box_cells (i:=7) h x7;have h:=box_cells (i:=8) h x8
 simpa using h
theorem set9_below (w:World) {B b:Nat} (hb:B≤b) (x0 x1 x2 x3 x4 x5 x6 x7 x8:Value):Below B w (set9 w b x0 x1 x2 x3 x4 x5 x6 x7 x8):=
 (((((((((Below.refl B w).setCell (p:=⟨b,0,none⟩) hb x0).setCell (p:=⟨b,1,none⟩) hb x1).setCell (p:=⟨b,2,none⟩) hb x2).setCell (p:=⟨b,3,none⟩) hb x3).setCell (p:=⟨b,4,none⟩) hb x4).setCell (p:=⟨b,5,none⟩) hb x5).setCell (p:=⟨b,6,none⟩) hb x6).setCell (p:=⟨b,7,none⟩) hb x7).setCell (p:=⟨b,8,none⟩) hb x8
theorem KeepF.set9 {X:Ow→Prop} {f:Nat→Ow} {w:World} {b:Nat} (h:X (f b)) (x0 x1 x2 x3 x4 x5 x6 x7 x8:Value):KeepF X f f w (set9 w b x0 x1 x2 x3 x4 x5 x6 x7 x8):=
 (((((((((KeepF.set h).trans (KeepF.set h)).trans (KeepF.set h)).trans (KeepF.set h)).trans (KeepF.set h)).trans (KeepF.set h)).trans (KeepF.set h)).trans (KeepF.set h)).trans (KeepF.set h))
def freshF (f:Nat→Ow) (n:Nat):Nat→Ow:=fun k=>if k<n then f k else .tmp
theorem RdM.fresh {D:Ow→Prop} {f:Nat→Ow} {w:World} {B H:Nat} {R:Rd} (h:RdM D w B f H R):RdM D w B (freshF f w.heap.size) H R:=fun o ho=>
 (h o ho).keep (X:=fun _=>False) ⟨Nat.le_refl _,fun _ _ _=>rfl,fun k hk=>by unfold freshF;rw[if_pos hk]⟩ id
theorem RdM.outs {D:Ow→Prop} {f f':Nat→Ow} {w w':World} {B H:Nat} {R:Rd} (h:RdM D w B f H R) (K:KeepF (fun o=>o=.tmp) f f' w w'):RdM D w' B f' H R:=
 h.step K (fun o _ hX=>by subst hX;trivial) (fun _ _ _ h=>h)
theorem calls_done {D:Ow→Prop} {w W1 w2:World} {B:Nat} {f:Nat→Ow} {H:Nat} {R:Rd} {x:Wd} {V V':Option Addr} {vc' m:Nat} (h:RdM D w B f H R) (hD:¬D .box∧ ¬D .calls) (hb:Below w.heap.size w W1) (hm:R.cs.length=m) (hV:R.cA=V)
  (hO2:w2.ownsRow B 32 10 (.slice V' (m+1) vc') (m+1) (wdL (R.cs++[x]))) (hg:W1.grownBy w2 (blkOf V)) (hv:blkOf V'=blkOf V∨blkOf V'=some W1.heap.size) (hB:B≤w.heap.size):
  RdM D (w2.setCell ⟨H,7,none⟩ (.slice V' (m+1) vc')) B (updF f W1.heap.size .calls) H {R with cA:=V',cc:=vc',cs:=R.cs++[x]}∧Below B w (w2.setCell ⟨H,7,none⟩ (.slice V' (m+1) vc')):=by
 subst hm hV
 have k1:KeepF (fun o=>o=.box∨o=.calls) f f w W1:=KeepF.below hb
 have hO1:OwnF W1 B f .calls 32 10 R.cA R.cs.length R.cc (wdL R.cs):=OwnF.below (h .calls hD.2) hb
 have k2:KeepF (fun o=>o=.box∨o=.calls) f (updF f W1.heap.size .calls) W1 w2:=KeepF.grown hO1 (.inr rfl) hg
 obtain⟨hbx,hBH,hfH⟩:=h .box hD.1
 have hlt:H<w.heap.size:=(Array.getElem?_eq_some_iff.1 hbx).1
 have hlt1:H<W1.heap.size:=Nat.lt_of_lt_of_le hlt hb.size
 have fH:updF f W1.heap.size .calls H=.box:=by unfold updF;rw[if_neg (by omega)];exact hfH
 have k3:KeepF (fun o=>o=.box∨o=.calls) (updF f W1.heap.size .calls) (updF f W1.heap.size .calls) w2 (w2.setCell ⟨H,7,none⟩ (.slice V' (R.cs.length+1) vc')):=KeepF.set (.inl fH)
 have K:=k1.trans (k2.trans k3)
 have hne:¬some H=blkOf R.cA:=fun e=>by have:=hO1.2 H e.symm;rw[hfH]at this;cases this
 refine⟨h.step K (fun o ho hX=> ?_) (fun o ho hX hr=> ?_),?_⟩
 ·rcases hX with rfl|rfl
  ·refine⟨?_,hBH,fH⟩
   have h2:w2.heap[H]?=some (.cells R.cells 82 (0,0)):=(hg.block H hlt1 hne).trans (bx_kept hb hbx)
   have:=box_cells (i:=7) h2 (.slice V' (R.cs.length+1) vc')
   simpa[Rd.cells]using this
  ·have h4:=(OwnF.grown hO1 hO2 hv).keep (X:=fun o=>o=.box) (KeepF.set fH (i:=7) (u:=.slice V' (R.cs.length+1) vc')) (by simp)
   show OwnF _ B _ .calls _ 10 V' (R.cs++[x]).length vc' _
   rw[List.length_append]
   exact h4
 ·cases o with
  |box=>exact absurd (.inl rfl) hX
  |calls=>exact absurd (.inr rfl) hX
  |_=>exact hr
 ·exact((hb.mono hB).grown hg (Nat.le_trans hB hb.size) (fun k hk=>(own_blk hO1.1 k hk).1)).setCell (p:=⟨H,7,none⟩) hBH _
attribute [local go_sem] field_word0 field_word3
set_option maxRecDepth 100000 in
set_option maxHeartbeats 6400000 in
theorem leafR_any (D:Ow→Prop) (w:World) (B:Nat) (f:Nat→Ow) (H:Nat) (R:Rd) (h:RdM D w B f H R) (hD:∀o,D o→False) (hi:R.i≤65536) (hcl:R.cs.length≤1000000) (hB:B≤w.heap.size):
  Calls Tryz.prog 69 #[.pointer (some ⟨H,0,none⟩)] w (LeafPostR D B H R w):=by
 have HW:=Lib.hid (show ∀w',Below w.heap.size w w'→Calls Tryz.prog 72 #[.pointer (some ⟨H,0,none⟩),.int .i64 0] w' fun e w''=>e=.returned (wdV (wdW R.W R.i))∧Below w'.heap.size w' w'' from fun w' hb=>word_any D w' B f H R 0 (h.below hb) ⟨fun h=>hD _ h,fun h=>hD _ h⟩ (by omega) (by omega))
 have HW1:=Lib.hid (show ∀w',Below w.heap.size w w'→Calls Tryz.prog 72 #[.pointer (some ⟨H,0,none⟩),.int .i64 1] w' fun e w''=>e=.returned (wdV (wdW R.W (R.i+1)))∧Below w'.heap.size w' w'' from fun w' hb=>word_any D w' B f H R 1 (h.below hb) ⟨fun h=>hD _ h,fun h=>hD _ h⟩ (by omega) (by omega))
 have HFR:=Lib.hid h.fresh
 have HF0:=Lib.hid (show ∀k,w.heap.size≤k→freshF f w.heap.size k=.tmp from fun k hk=>by unfold freshF;rw[if_neg (by omega)])
 generalize freshF f w.heap.size=f0 at *
 have HBX:=Lib.hid (h.box (fun h=>hD _ h));have HFX:=Lib.hid (h .box (fun h=>hD _ h)).2
 have HR:=Lib.hid h;have HDN:=Lib.hid hD
 have hltH:H<w.heap.size:=heap_lt' (h.box (fun h=>hD _ h))
 have hk0:=kd_wd R.W R.i
 have hk1:=kd_wd R.W (R.i+1)
 have hlf:=(show isLeaf R.W R.i=((decide ((wdW R.W R.i).kind=1)&&decide ((wdW R.W (R.i+1)).kind≠2))||decide ((wdW R.W R.i).kind=15)||decide ((wdW R.W R.i).kind=16))from by rw[hk0,hk1];rfl)
 unfold LeafPostR
 rw[←hk0]
 generalize isLeaf R.W R.i=lf at *
 generalize wdW R.W R.i=x at *
 generalize wdW R.W (R.i+1)=y at *
 clear hk0 hk1 h hD
 obtain⟨k,frm,til,tx,s0,s1,s2,s3,lo,hi'⟩:=x
 simp only at HW hlf
 have e5:IntKind.i64.wrap ((R.i:Int)+1)=(R.i:Int)+1:=IntWalk.i64_in _ (by omega)
 have HB0:=Lib.hid (bx1 w (.cells #[.int .u8 0,.int .u64 0,.int .u64 0,.int .u64 0,.int .u64 0,.string ⟨#[]⟩,.int .i64 0,.int .i64 0,.slice none 0 0] 54))
 have HK0:=Lib.hid (bx_new w (.cells #[.int .u8 0,.int .u64 0,.int .u64 0,.int .u64 0,.int .u64 0,.string ⟨#[]⟩,.int .i64 0,.int .i64 0,.slice none 0 0] 54))
 go_enter Tryz.func69,Tryz.ntmps69
 go_upto_region 1 with(fail)
 generalize (w.alloc (.cells #[.int .u8 0,.int .u64 0,.int .u64 0,.int .u64 0,.int .u64 0,.string ⟨#[]⟩,.int .i64 0,.int .i64 0,.slice none 0 0] 54))=W0 at *
 go_upto_region 4 with(first
  |(go_at_call 72;(with_reducible refine(HW.out _ HB0.out).mono ?_);rintro e w1 ⟨rfl,hb⟩;have HBw:=Lib.hid hb;clear hb)
  |fail)
 have HB1:=Lib.hid (show Below w.heap.size w w1 from HB0.out.trans (HBw.out.mono HB0.out.size))
 have HX:=Lib.hid (bx_kept (HBw.out) HK0.out)
 have hs1:w.heap.size<w1.heap.size:=heap_lt' HX.out
 generalize hz:(ndV0 (leafW ⟨k,frm,til,tx,s0,s1,s2,s3,lo,hi'⟩))=rv at *
 by_cases h16:k=16
 ·subst h16
  have HLF:=Lib.hid (show lf=true from by rw[hlf];simp)
  clear hlf
  go_upto_region 13 with(fail)
  have HB3:=Lib.hid (show Below w.heap.size w ((w1.alloc (.cells #[.int .u8 16,.int .i64 frm,.int .i64 til,.string ⟨tx.toArray⟩,.int .u64 s0,.int .u64 s1,.int .u64 s2,.int .u64 s3,.int .i64 lo,.int .i64 hi'] 32)).alloc (.cells #[.int .u8 1,.int .u64 s0,.int .u64 s1,.int .u64 s2,.int .u64 s3,.string ⟨#[]⟩,.int .i64 0,.int .i64 0,.slice none 0 0] 54))from(HB1.out.alloc HB1.out.size _).alloc (by have:=HB1.out.size;simp;omega) _)
  have HN3:=Lib.hid (show((w1.alloc (.cells #[.int .u8 16,.int .i64 frm,.int .i64 til,.string ⟨tx.toArray⟩,.int .u64 s0,.int .u64 s1,.int .u64 s2,.int .u64 s3,.int .i64 lo,.int .i64 hi'] 32)).alloc (.cells #[.int .u8 1,.int .u64 s0,.int .u64 s1,.int .u64 s2,.int .u64 s3,.string ⟨#[]⟩,.int .i64 0,.int .i64 0,.slice none 0 0] 54)).heap[w1.heap.size+1]?=some (.cells #[.int .u8 1,.int .u64 s0,.int .u64 s1,.int .u64 s2,.int .u64 s3,.string ⟨#[]⟩,.int .i64 0,.int .i64 0,.slice none 0 0] 54 (0,0))from by have:=bx_new (w1.alloc (.cells #[.int .u8 16,.int .i64 frm,.int .i64 til,.string ⟨tx.toArray⟩,.int .u64 s0,.int .u64 s1,.int .u64 s2,.int .u64 s3,.int .i64 lo,.int .i64 hi'] 32)) (.cells #[.int .u8 1,.int .u64 s0,.int .u64 s1,.int .u64 s2,.int .u64 s3,.string ⟨#[]⟩,.int .i64 0,.int .i64 0,.slice none 0 0] 54);simpa using this)
  have HX3:=Lib.hid (bx_old (p:=(.cells #[.int .u8 1,.int .u64 s0,.int .u64 s1,.int .u64 s2,.int .u64 s3,.string ⟨#[]⟩,.int .i64 0,.int .i64 0,.slice none 0 0] 54)) (bx_old (p:=(.cells #[.int .u8 16,.int .i64 frm,.int .i64 til,.string ⟨tx.toArray⟩,.int .u64 s0,.int .u64 s1,.int .u64 s2,.int .u64 s3,.int .i64 lo,.int .i64 hi'] 32)) HX.out))
  generalize ((w1.alloc (.cells #[.int .u8 16,.int .i64 frm,.int .i64 til,.string ⟨tx.toArray⟩,.int .u64 s0,.int .u64 s1,.int .u64 s2,.int .u64 s3,.int .i64 lo,.int .i64 hi'] 32)).alloc (.cells #[.int .u8 1,.int .u64 s0,.int .u64 s1,.int .u64 s2,.int .u64 s3,.string ⟨#[]⟩,.int .i64 0,.int .i64 0,.slice none 0 0] 54))=W3 at *
  have HR3:=Lib.hid (HFR.out.below HB3.out)
  have HF3:=Lib.hid (HF0.out _ (Nat.le_refl _))
  have HBB:=Lib.hid (HB3.out.mono hB)
  have HBX3:=Lib.hid (HR3.out.box (fun h=>HDN.out _ h))
  obtain⟨_,_,p2,_,_,_,_,_,pf⟩:=blk8 HBX3.out
  go_upto_region 14 with(fail)
  have HI4:=Lib.hid (HR3.out.setI (fun h=>HDN.out _ h) (R.i+1))
  have HX4:=Lib.hid (set_ne (H:=H) (u:=.int .i64 ((R.i:Int)+1)) HX3.out (by omega))
  have HN4:=Lib.hid (set_ne (H:=H) (u:=.int .i64 ((R.i:Int)+1)) HN3.out (by have:=HB1.out.size;omega))
  clear p2 pf
  simp only[Int.natCast_add,Int.natCast_one]at HI4
  generalize (W3.setCell ⟨H,2,none⟩ (.int .i64 ((R.i:Int)+1)))=W4 at *
  obtain⟨r0,r1,r2,r3,r4,r5,r6,r7,r8,rf⟩:=blk9 HX4.out
  obtain⟨n0,n1,n2,n3,n4,n5,n6,n7,n8,_⟩:=blk9 HN4.out
  go_wp2_with fail
  have HX5:=Lib.hid (show(((((((((W4.setCell ⟨w.heap.size,0,none⟩ (.int .u8 1)).setCell ⟨w.heap.size,1,none⟩ (.int .u64 s0)).setCell ⟨w.heap.size,2,none⟩ (.int .u64 s1)).setCell ⟨w.heap.size,3,none⟩ (.int .u64 s2)).setCell ⟨w.heap.size,4,none⟩ (.int .u64 s3)).setCell ⟨w.heap.size,5,none⟩ (.string ⟨#[]⟩)).setCell ⟨w.heap.size,6,none⟩ (.int .i64 0)).setCell ⟨w.heap.size,7,none⟩ (.int .i64 0)).setCell ⟨w.heap.size,8,none⟩ (.slice none 0 0)).heap[w.heap.size]?=some (.cells #[.int .u8 1,.int .u64 s0,.int .u64 s1,.int .u64 s2,.int .u64 s3,.string ⟨#[]⟩,.int .i64 0,.int .i64 0,.slice none 0 0] 54 (0,0))from set9_box HX4.out (.int .u8 1) (.int .u64 s0) (.int .u64 s1) (.int .u64 s2) (.int .u64 s3) (.string ⟨#[]⟩) (.int .i64 0) (.int .i64 0) (.slice none 0 0))
  have HB5:=Lib.hid (show Below B W4 (((((((((W4.setCell ⟨w.heap.size,0,none⟩ (.int .u8 1)).setCell ⟨w.heap.size,1,none⟩ (.int .u64 s0)).setCell ⟨w.heap.size,2,none⟩ (.int .u64 s1)).setCell ⟨w.heap.size,3,none⟩ (.int .u64 s2)).setCell ⟨w.heap.size,4,none⟩ (.int .u64 s3)).setCell ⟨w.heap.size,5,none⟩ (.string ⟨#[]⟩)).setCell ⟨w.heap.size,6,none⟩ (.int .i64 0)).setCell ⟨w.heap.size,7,none⟩ (.int .i64 0)).setCell ⟨w.heap.size,8,none⟩ (.slice none 0 0))from set9_below W4 (show B≤w.heap.size from hB) (.int .u8 1) (.int .u64 s0) (.int .u64 s1) (.int .u64 s2) (.int .u64 s3) (.string ⟨#[]⟩) (.int .i64 0) (.int .i64 0) (.slice none 0 0))
  have HK5:=Lib.hid (show KeepF (fun o=>o=.tmp) f0 f0 W4 (((((((((W4.setCell ⟨w.heap.size,0,none⟩ (.int .u8 1)).setCell ⟨w.heap.size,1,none⟩ (.int .u64 s0)).setCell ⟨w.heap.size,2,none⟩ (.int .u64 s1)).setCell ⟨w.heap.size,3,none⟩ (.int .u64 s2)).setCell ⟨w.heap.size,4,none⟩ (.int .u64 s3)).setCell ⟨w.heap.size,5,none⟩ (.string ⟨#[]⟩)).setCell ⟨w.heap.size,6,none⟩ (.int .i64 0)).setCell ⟨w.heap.size,7,none⟩ (.int .i64 0)).setCell ⟨w.heap.size,8,none⟩ (.slice none 0 0))from KeepF.set9 (X:=fun o=>o=.tmp) (w:=W4) HF3.out (.int .u8 1) (.int .u64 s0) (.int .u64 s1) (.int .u64 s2) (.int .u64 s3) (.string ⟨#[]⟩) (.int .i64 0) (.int .i64 0) (.slice none 0 0))
  generalize (((((((((W4.setCell ⟨w.heap.size,0,none⟩ (.int .u8 1)).setCell ⟨w.heap.size,1,none⟩ (.int .u64 s0)).setCell ⟨w.heap.size,2,none⟩ (.int .u64 s1)).setCell ⟨w.heap.size,3,none⟩ (.int .u64 s2)).setCell ⟨w.heap.size,4,none⟩ (.int .u64 s3)).setCell ⟨w.heap.size,5,none⟩ (.string ⟨#[]⟩)).setCell ⟨w.heap.size,6,none⟩ (.int .i64 0)).setCell ⟨w.heap.size,7,none⟩ (.int .i64 0)).setCell ⟨w.heap.size,8,none⟩ (.slice none 0 0))=W5 at *
  clear r0 r1 r2 r3 r4 r5 r6 r7 r8 rf n0 n1 n2 n3 n4 n5 n6 n7 n8
  obtain⟨r0,r1,r2,r3,r4,r5,r6,r7,r8,rf⟩:=blk9 HX5.out
  refine bodyPost_ret (v:=.tuple #[rv,.bool true]) (by rw[←hz];simp[results,Tryz.results69,go_sem,r0,r1,r2,r3,r4,r5,r6,r7,r8,leafW,setW,emptyN,textN,ruleN]) rfl ?_
  exact⟨fun _=>⟨rfl,⟨_,_,_,HI4.out.1.outs HK5.out⟩,(HBB.out.trans HI4.out.2.2).trans HB5.out⟩,fun h=>absurd h (by rw[HLF.out];decide)⟩
 by_cases h15:k=15
 ·subst h15
  by_cases htx:tx=[]
  ·subst htx
   have HLF:=Lib.hid (show lf=true from by rw[hlf];simp)
   clear hlf
   go_upto_region 13 with(fail)
   have HB3:=Lib.hid (show Below w.heap.size w ((w1.alloc (.cells #[.int .u8 15,.int .i64 frm,.int .i64 til,.string ⟨#[]⟩,.int .u64 s0,.int .u64 s1,.int .u64 s2,.int .u64 s3,.int .i64 lo,.int .i64 hi'] 32)).alloc (.cells #[.int .u8 0,.int .u64 0,.int .u64 0,.int .u64 0,.int .u64 0,.string ⟨#[]⟩,.int .i64 0,.int .i64 0,.slice none 0 0] 54))from(HB1.out.alloc HB1.out.size _).alloc (by have:=HB1.out.size;simp;omega) _)
   have HN3:=Lib.hid (show((w1.alloc (.cells #[.int .u8 15,.int .i64 frm,.int .i64 til,.string ⟨#[]⟩,.int .u64 s0,.int .u64 s1,.int .u64 s2,.int .u64 s3,.int .i64 lo,.int .i64 hi'] 32)).alloc (.cells #[.int .u8 0,.int .u64 0,.int .u64 0,.int .u64 0,.int .u64 0,.string ⟨#[]⟩,.int .i64 0,.int .i64 0,.slice none 0 0] 54)).heap[w1.heap.size+1]?=some (.cells #[.int .u8 0,.int .u64 0,.int .u64 0,.int .u64 0,.int .u64 0,.string ⟨#[]⟩,.int .i64 0,.int .i64 0,.slice none 0 0] 54 (0,0))from by have:=bx_new (w1.alloc (.cells #[.int .u8 15,.int .i64 frm,.int .i64 til,.string ⟨#[]⟩,.int .u64 s0,.int .u64 s1,.int .u64 s2,.int .u64 s3,.int .i64 lo,.int .i64 hi'] 32)) (.cells #[.int .u8 0,.int .u64 0,.int .u64 0,.int .u64 0,.int .u64 0,.string ⟨#[]⟩,.int .i64 0,.int .i64 0,.slice none 0 0] 54);simpa using this)
   have HX3:=Lib.hid (bx_old (p:=(.cells #[.int .u8 0,.int .u64 0,.int .u64 0,.int .u64 0,.int .u64 0,.string ⟨#[]⟩,.int .i64 0,.int .i64 0,.slice none 0 0] 54)) (bx_old (p:=(.cells #[.int .u8 15,.int .i64 frm,.int .i64 til,.string ⟨#[]⟩,.int .u64 s0,.int .u64 s1,.int .u64 s2,.int .u64 s3,.int .i64 lo,.int .i64 hi'] 32)) HX.out))
   generalize ((w1.alloc (.cells #[.int .u8 15,.int .i64 frm,.int .i64 til,.string ⟨#[]⟩,.int .u64 s0,.int .u64 s1,.int .u64 s2,.int .u64 s3,.int .i64 lo,.int .i64 hi'] 32)).alloc (.cells #[.int .u8 0,.int .u64 0,.int .u64 0,.int .u64 0,.int .u64 0,.string ⟨#[]⟩,.int .i64 0,.int .i64 0,.slice none 0 0] 54))=W3 at *
   have HR3:=Lib.hid (HFR.out.below HB3.out)
   have HF3:=Lib.hid (HF0.out _ (Nat.le_refl _))
   have HBB:=Lib.hid (HB3.out.mono hB)
   have HBX3:=Lib.hid (HR3.out.box (fun h=>HDN.out _ h))
   obtain⟨_,_,p2,_,_,_,_,_,pf⟩:=blk8 HBX3.out
   go_upto_region 14 with(fail)
   have HI4:=Lib.hid (HR3.out.setI (fun h=>HDN.out _ h) (R.i+1))
   have HX4:=Lib.hid (set_ne (H:=H) (u:=.int .i64 ((R.i:Int)+1)) HX3.out (by omega))
   have HN4:=Lib.hid (set_ne (H:=H) (u:=.int .i64 ((R.i:Int)+1)) HN3.out (by have:=HB1.out.size;omega))
   clear p2 pf
   simp only[Int.natCast_add,Int.natCast_one]at HI4
   generalize (W3.setCell ⟨H,2,none⟩ (.int .i64 ((R.i:Int)+1)))=W4 at *
   obtain⟨r0,r1,r2,r3,r4,r5,r6,r7,r8,rf⟩:=blk9 HX4.out
   obtain⟨n0,n1,n2,n3,n4,n5,n6,n7,n8,_⟩:=blk9 HN4.out
   go_wp2_with fail
   have HX5:=Lib.hid (show(((((((((W4.setCell ⟨w.heap.size,0,none⟩ (.int .u8 0)).setCell ⟨w.heap.size,1,none⟩ (.int .u64 0)).setCell ⟨w.heap.size,2,none⟩ (.int .u64 0)).setCell ⟨w.heap.size,3,none⟩ (.int .u64 0)).setCell ⟨w.heap.size,4,none⟩ (.int .u64 0)).setCell ⟨w.heap.size,5,none⟩ (.string ⟨#[]⟩)).setCell ⟨w.heap.size,6,none⟩ (.int .i64 0)).setCell ⟨w.heap.size,7,none⟩ (.int .i64 0)).setCell ⟨w.heap.size,8,none⟩ (.slice none 0 0)).heap[w.heap.size]?=some (.cells #[.int .u8 0,.int .u64 0,.int .u64 0,.int .u64 0,.int .u64 0,.string ⟨#[]⟩,.int .i64 0,.int .i64 0,.slice none 0 0] 54 (0,0))from set9_box HX4.out (.int .u8 0) (.int .u64 0) (.int .u64 0) (.int .u64 0) (.int .u64 0) (.string ⟨#[]⟩) (.int .i64 0) (.int .i64 0) (.slice none 0 0))
   have HB5:=Lib.hid (show Below B W4 (((((((((W4.setCell ⟨w.heap.size,0,none⟩ (.int .u8 0)).setCell ⟨w.heap.size,1,none⟩ (.int .u64 0)).setCell ⟨w.heap.size,2,none⟩ (.int .u64 0)).setCell ⟨w.heap.size,3,none⟩ (.int .u64 0)).setCell ⟨w.heap.size,4,none⟩ (.int .u64 0)).setCell ⟨w.heap.size,5,none⟩ (.string ⟨#[]⟩)).setCell ⟨w.heap.size,6,none⟩ (.int .i64 0)).setCell ⟨w.heap.size,7,none⟩ (.int .i64 0)).setCell ⟨w.heap.size,8,none⟩ (.slice none 0 0))from set9_below W4 (show B≤w.heap.size from hB) (.int .u8 0) (.int .u64 0) (.int .u64 0) (.int .u64 0) (.int .u64 0) (.string ⟨#[]⟩) (.int .i64 0) (.int .i64 0) (.slice none 0 0))
   have HK5:=Lib.hid (show KeepF (fun o=>o=.tmp) f0 f0 W4 (((((((((W4.setCell ⟨w.heap.size,0,none⟩ (.int .u8 0)).setCell ⟨w.heap.size,1,none⟩ (.int .u64 0)).setCell ⟨w.heap.size,2,none⟩ (.int .u64 0)).setCell ⟨w.heap.size,3,none⟩ (.int .u64 0)).setCell ⟨w.heap.size,4,none⟩ (.int .u64 0)).setCell ⟨w.heap.size,5,none⟩ (.string ⟨#[]⟩)).setCell ⟨w.heap.size,6,none⟩ (.int .i64 0)).setCell ⟨w.heap.size,7,none⟩ (.int .i64 0)).setCell ⟨w.heap.size,8,none⟩ (.slice none 0 0))from KeepF.set9 (X:=fun o=>o=.tmp) (w:=W4) HF3.out (.int .u8 0) (.int .u64 0) (.int .u64 0) (.int .u64 0) (.int .u64 0) (.string ⟨#[]⟩) (.int .i64 0) (.int .i64 0) (.slice none 0 0))
   generalize (((((((((W4.setCell ⟨w.heap.size,0,none⟩ (.int .u8 0)).setCell ⟨w.heap.size,1,none⟩ (.int .u64 0)).setCell ⟨w.heap.size,2,none⟩ (.int .u64 0)).setCell ⟨w.heap.size,3,none⟩ (.int .u64 0)).setCell ⟨w.heap.size,4,none⟩ (.int .u64 0)).setCell ⟨w.heap.size,5,none⟩ (.string ⟨#[]⟩)).setCell ⟨w.heap.size,6,none⟩ (.int .i64 0)).setCell ⟨w.heap.size,7,none⟩ (.int .i64 0)).setCell ⟨w.heap.size,8,none⟩ (.slice none 0 0))=W5 at *
   clear r0 r1 r2 r3 r4 r5 r6 r7 r8 rf n0 n1 n2 n3 n4 n5 n6 n7 n8
   obtain⟨r0,r1,r2,r3,r4,r5,r6,r7,r8,rf⟩:=blk9 HX5.out
   refine bodyPost_ret (v:=.tuple #[rv,.bool true]) (by rw[←hz];simp[results,Tryz.results69,go_sem,r0,r1,r2,r3,r4,r5,r6,r7,r8,leafW,setW,emptyN,textN,ruleN]) rfl ?_
   exact⟨fun _=>⟨rfl,⟨_,_,_,HI4.out.1.outs HK5.out⟩,(HBB.out.trans HI4.out.2.2).trans HB5.out⟩,fun h=>absurd h (by rw[HLF.out];decide)⟩
  ·have ht:tx.isEmpty=false:=by cases tx with
    |nil=>exact absurd rfl htx
    |cons _ _=>rfl
   have HTN:=Lib.hid htx
   clear htx
   have HLF:=Lib.hid (show lf=true from by rw[hlf];simp[HTN.out])
   clear hlf
   go_upto_region 13 with(fail)
   have HB3:=Lib.hid (show Below w.heap.size w ((w1.alloc (.cells #[.int .u8 15,.int .i64 frm,.int .i64 til,.string ⟨tx.toArray⟩,.int .u64 s0,.int .u64 s1,.int .u64 s2,.int .u64 s3,.int .i64 lo,.int .i64 hi'] 32)).alloc (.cells #[.int .u8 2,.int .u64 0,.int .u64 0,.int .u64 0,.int .u64 0,.string ⟨tx.toArray⟩,.int .i64 0,.int .i64 0,.slice none 0 0] 54))from(HB1.out.alloc HB1.out.size _).alloc (by have:=HB1.out.size;simp;omega) _)
   have HN3:=Lib.hid (show((w1.alloc (.cells #[.int .u8 15,.int .i64 frm,.int .i64 til,.string ⟨tx.toArray⟩,.int .u64 s0,.int .u64 s1,.int .u64 s2,.int .u64 s3,.int .i64 lo,.int .i64 hi'] 32)).alloc (.cells #[.int .u8 2,.int .u64 0,.int .u64 0,.int .u64 0,.int .u64 0,.string ⟨tx.toArray⟩,.int .i64 0,.int .i64 0,.slice none 0 0] 54)).heap[w1.heap.size+1]?=some (.cells #[.int .u8 2,.int .u64 0,.int .u64 0,.int .u64 0,.int .u64 0,.string ⟨tx.toArray⟩,.int .i64 0,.int .i64 0,.slice none 0 0] 54 (0,0))from by have:=bx_new (w1.alloc (.cells #[.int .u8 15,.int .i64 frm,.int .i64 til,.string ⟨tx.toArray⟩,.int .u64 s0,.int .u64 s1,.int .u64 s2,.int .u64 s3,.int .i64 lo,.int .i64 hi'] 32)) (.cells #[.int .u8 2,.int .u64 0,.int .u64 0,.int .u64 0,.int .u64 0,.string ⟨tx.toArray⟩,.int .i64 0,.int .i64 0,.slice none 0 0] 54);simpa using this)
   have HX3:=Lib.hid (bx_old (p:=(.cells #[.int .u8 2,.int .u64 0,.int .u64 0,.int .u64 0,.int .u64 0,.string ⟨tx.toArray⟩,.int .i64 0,.int .i64 0,.slice none 0 0] 54)) (bx_old (p:=(.cells #[.int .u8 15,.int .i64 frm,.int .i64 til,.string ⟨tx.toArray⟩,.int .u64 s0,.int .u64 s1,.int .u64 s2,.int .u64 s3,.int .i64 lo,.int .i64 hi'] 32)) HX.out))
   generalize ((w1.alloc (.cells #[.int .u8 15,.int .i64 frm,.int .i64 til,.string ⟨tx.toArray⟩,.int .u64 s0,.int .u64 s1,.int .u64 s2,.int .u64 s3,.int .i64 lo,.int .i64 hi'] 32)).alloc (.cells #[.int .u8 2,.int .u64 0,.int .u64 0,.int .u64 0,.int .u64 0,.string ⟨tx.toArray⟩,.int .i64 0,.int .i64 0,.slice none 0 0] 54))=W3 at *
   have HR3:=Lib.hid (HFR.out.below HB3.out)
   have HF3:=Lib.hid (HF0.out _ (Nat.le_refl _))
   have HBB:=Lib.hid (HB3.out.mono hB)
   have HBX3:=Lib.hid (HR3.out.box (fun h=>HDN.out _ h))
   obtain⟨_,_,p2,_,_,_,_,_,pf⟩:=blk8 HBX3.out
   go_upto_region 14 with(fail)
   have HI4:=Lib.hid (HR3.out.setI (fun h=>HDN.out _ h) (R.i+1))
   have HX4:=Lib.hid (set_ne (H:=H) (u:=.int .i64 ((R.i:Int)+1)) HX3.out (by omega))
   have HN4:=Lib.hid (set_ne (H:=H) (u:=.int .i64 ((R.i:Int)+1)) HN3.out (by have:=HB1.out.size;omega))
   clear p2 pf
   simp only[Int.natCast_add,Int.natCast_one]at HI4
   generalize (W3.setCell ⟨H,2,none⟩ (.int .i64 ((R.i:Int)+1)))=W4 at *
   obtain⟨r0,r1,r2,r3,r4,r5,r6,r7,r8,rf⟩:=blk9 HX4.out
   obtain⟨n0,n1,n2,n3,n4,n5,n6,n7,n8,_⟩:=blk9 HN4.out
   go_wp2_with fail
   have HX5:=Lib.hid (show(((((((((W4.setCell ⟨w.heap.size,0,none⟩ (.int .u8 2)).setCell ⟨w.heap.size,1,none⟩ (.int .u64 0)).setCell ⟨w.heap.size,2,none⟩ (.int .u64 0)).setCell ⟨w.heap.size,3,none⟩ (.int .u64 0)).setCell ⟨w.heap.size,4,none⟩ (.int .u64 0)).setCell ⟨w.heap.size,5,none⟩ (.string ⟨tx.toArray⟩)).setCell ⟨w.heap.size,6,none⟩ (.int .i64 0)).setCell ⟨w.heap.size,7,none⟩ (.int .i64 0)).setCell ⟨w.heap.size,8,none⟩ (.slice none 0 0)).heap[w.heap.size]?=some (.cells #[.int .u8 2,.int .u64 0,.int .u64 0,.int .u64 0,.int .u64 0,.string ⟨tx.toArray⟩,.int .i64 0,.int .i64 0,.slice none 0 0] 54 (0,0))from set9_box HX4.out (.int .u8 2) (.int .u64 0) (.int .u64 0) (.int .u64 0) (.int .u64 0) (.string ⟨tx.toArray⟩) (.int .i64 0) (.int .i64 0) (.slice none 0 0))
   have HB5:=Lib.hid (show Below B W4 (((((((((W4.setCell ⟨w.heap.size,0,none⟩ (.int .u8 2)).setCell ⟨w.heap.size,1,none⟩ (.int .u64 0)).setCell ⟨w.heap.size,2,none⟩ (.int .u64 0)).setCell ⟨w.heap.size,3,none⟩ (.int .u64 0)).setCell ⟨w.heap.size,4,none⟩ (.int .u64 0)).setCell ⟨w.heap.size,5,none⟩ (.string ⟨tx.toArray⟩)).setCell ⟨w.heap.size,6,none⟩ (.int .i64 0)).setCell ⟨w.heap.size,7,none⟩ (.int .i64 0)).setCell ⟨w.heap.size,8,none⟩ (.slice none 0 0))from set9_below W4 (show B≤w.heap.size from hB) (.int .u8 2) (.int .u64 0) (.int .u64 0) (.int .u64 0) (.int .u64 0) (.string ⟨tx.toArray⟩) (.int .i64 0) (.int .i64 0) (.slice none 0 0))
   have HK5:=Lib.hid (show KeepF (fun o=>o=.tmp) f0 f0 W4 (((((((((W4.setCell ⟨w.heap.size,0,none⟩ (.int .u8 2)).setCell ⟨w.heap.size,1,none⟩ (.int .u64 0)).setCell ⟨w.heap.size,2,none⟩ (.int .u64 0)).setCell ⟨w.heap.size,3,none⟩ (.int .u64 0)).setCell ⟨w.heap.size,4,none⟩ (.int .u64 0)).setCell ⟨w.heap.size,5,none⟩ (.string ⟨tx.toArray⟩)).setCell ⟨w.heap.size,6,none⟩ (.int .i64 0)).setCell ⟨w.heap.size,7,none⟩ (.int .i64 0)).setCell ⟨w.heap.size,8,none⟩ (.slice none 0 0))from KeepF.set9 (X:=fun o=>o=.tmp) (w:=W4) HF3.out (.int .u8 2) (.int .u64 0) (.int .u64 0) (.int .u64 0) (.int .u64 0) (.string ⟨tx.toArray⟩) (.int .i64 0) (.int .i64 0) (.slice none 0 0))
   generalize (((((((((W4.setCell ⟨w.heap.size,0,none⟩ (.int .u8 2)).setCell ⟨w.heap.size,1,none⟩ (.int .u64 0)).setCell ⟨w.heap.size,2,none⟩ (.int .u64 0)).setCell ⟨w.heap.size,3,none⟩ (.int .u64 0)).setCell ⟨w.heap.size,4,none⟩ (.int .u64 0)).setCell ⟨w.heap.size,5,none⟩ (.string ⟨tx.toArray⟩)).setCell ⟨w.heap.size,6,none⟩ (.int .i64 0)).setCell ⟨w.heap.size,7,none⟩ (.int .i64 0)).setCell ⟨w.heap.size,8,none⟩ (.slice none 0 0))=W5 at *
   clear r0 r1 r2 r3 r4 r5 r6 r7 r8 rf n0 n1 n2 n3 n4 n5 n6 n7 n8
   obtain⟨r0,r1,r2,r3,r4,r5,r6,r7,r8,rf⟩:=blk9 HX5.out
   refine bodyPost_ret (v:=.tuple #[rv,.bool true]) (by rw[←hz];simp[results,Tryz.results69,go_sem,r0,r1,r2,r3,r4,r5,r6,r7,r8,leafW,setW,emptyN,textN,ruleN,HTN.out]) rfl ?_
   exact⟨fun _=>⟨rfl,⟨_,_,_,HI4.out.1.outs HK5.out⟩,(HBB.out.trans HI4.out.2.2).trans HB5.out⟩,fun h=>absurd h (by rw[HLF.out];decide)⟩
 by_cases h1:k=1
 ·subst h1
  have hs2:((w1.alloc (.cells #[.int .u8 1,.int .i64 frm,.int .i64 til,.string ⟨tx.toArray⟩,.int .u64 s0,.int .u64 s1,.int .u64 s2,.int .u64 s3,.int .i64 lo,.int .i64 hi'] 32)).alloc (.cells #[.int .u8 0,.int .u64 0,.int .u64 0,.int .u64 0,.int .u64 0,.string ⟨#[]⟩,.int .i64 0,.int .i64 0,.slice none 0 0] 54)).heap.size=w1.heap.size+1+1:=by simp
  have HB2:=Lib.hid (show Below w.heap.size w ((w1.alloc (.cells #[.int .u8 1,.int .i64 frm,.int .i64 til,.string ⟨tx.toArray⟩,.int .u64 s0,.int .u64 s1,.int .u64 s2,.int .u64 s3,.int .i64 lo,.int .i64 hi'] 32)).alloc (.cells #[.int .u8 0,.int .u64 0,.int .u64 0,.int .u64 0,.int .u64 0,.string ⟨#[]⟩,.int .i64 0,.int .i64 0,.slice none 0 0] 54))from(HB1.out.alloc HB1.out.size _).alloc (by have:=HB1.out.size;simp;omega) _)
  have HN2:=Lib.hid (show((w1.alloc (.cells #[.int .u8 1,.int .i64 frm,.int .i64 til,.string ⟨tx.toArray⟩,.int .u64 s0,.int .u64 s1,.int .u64 s2,.int .u64 s3,.int .i64 lo,.int .i64 hi'] 32)).alloc (.cells #[.int .u8 0,.int .u64 0,.int .u64 0,.int .u64 0,.int .u64 0,.string ⟨#[]⟩,.int .i64 0,.int .i64 0,.slice none 0 0] 54)).heap[w1.heap.size+1]?=some (.cells #[.int .u8 0,.int .u64 0,.int .u64 0,.int .u64 0,.int .u64 0,.string ⟨#[]⟩,.int .i64 0,.int .i64 0,.slice none 0 0] 54 (0,0))from by have:=bx_new (w1.alloc (.cells #[.int .u8 1,.int .i64 frm,.int .i64 til,.string ⟨tx.toArray⟩,.int .u64 s0,.int .u64 s1,.int .u64 s2,.int .u64 s3,.int .i64 lo,.int .i64 hi'] 32)) (.cells #[.int .u8 0,.int .u64 0,.int .u64 0,.int .u64 0,.int .u64 0,.string ⟨#[]⟩,.int .i64 0,.int .i64 0,.slice none 0 0] 54);simpa using this)
  have HY2:=Lib.hid (bx_old (p:=(.cells #[.int .u8 0,.int .u64 0,.int .u64 0,.int .u64 0,.int .u64 0,.string ⟨#[]⟩,.int .i64 0,.int .i64 0,.slice none 0 0] 54)) (bx_new w1 (.cells #[.int .u8 1,.int .i64 frm,.int .i64 til,.string ⟨tx.toArray⟩,.int .u64 s0,.int .u64 s1,.int .u64 s2,.int .u64 s3,.int .i64 lo,.int .i64 hi'] 32)))
  have HX2:=Lib.hid (bx_old (p:=(.cells #[.int .u8 0,.int .u64 0,.int .u64 0,.int .u64 0,.int .u64 0,.string ⟨#[]⟩,.int .i64 0,.int .i64 0,.slice none 0 0] 54)) (bx_old (p:=(.cells #[.int .u8 1,.int .i64 frm,.int .i64 til,.string ⟨tx.toArray⟩,.int .u64 s0,.int .u64 s1,.int .u64 s2,.int .u64 s3,.int .i64 lo,.int .i64 hi'] 32)) HX.out))
  by_cases hy:y.kind=2
  ·have HLF:=Lib.hid (show lf=false from by rw[hlf];simp[hy])
   have iy:((y.kind:Int)==2)=true:=by simp;omega
   clear hlf
   go_upto_region 3 with(first
    |(go_at_call 72;(with_reducible refine(HW1.out _ HB2.out).mono ?_);rintro e w3 ⟨rfl,hb⟩;have HB3:=Lib.hid hb;obtain⟨e0,_,_,e3,_⟩:=blk10 (bx_kept hb HY2.out);clear hb)
    |fail)
   rename World=>W3
   have HB4:=Lib.hid (show Below w.heap.size w W3 from HB2.out.trans (HB3.out.mono HB2.out.size))
   have HX3:=Lib.hid (bx_kept HB3.out HX2.out)
   have HR3:=Lib.hid (HFR.out.below HB4.out)
   have HBB:=Lib.hid (HB4.out.mono hB)
   obtain⟨r0,r1,r2,r3,r4,r5,r6,r7,r8,rf⟩:=blk9 HX3.out
   go_wp2_with fail
   have HX5:=Lib.hid (show(((((((((W3.setCell ⟨w.heap.size,0,none⟩ (.int .u8 0)).setCell ⟨w.heap.size,1,none⟩ (.int .u64 0)).setCell ⟨w.heap.size,2,none⟩ (.int .u64 0)).setCell ⟨w.heap.size,3,none⟩ (.int .u64 0)).setCell ⟨w.heap.size,4,none⟩ (.int .u64 0)).setCell ⟨w.heap.size,5,none⟩ (.string ⟨#[]⟩)).setCell ⟨w.heap.size,6,none⟩ (.int .i64 0)).setCell ⟨w.heap.size,7,none⟩ (.int .i64 0)).setCell ⟨w.heap.size,8,none⟩ (.slice none 0 0)).heap[w.heap.size]?=some (.cells #[.int .u8 0,.int .u64 0,.int .u64 0,.int .u64 0,.int .u64 0,.string ⟨#[]⟩,.int .i64 0,.int .i64 0,.slice none 0 0] 54 (0,0))from set9_box HX3.out (.int .u8 0) (.int .u64 0) (.int .u64 0) (.int .u64 0) (.int .u64 0) (.string ⟨#[]⟩) (.int .i64 0) (.int .i64 0) (.slice none 0 0))
   have HB5:=Lib.hid (show Below B W3 (((((((((W3.setCell ⟨w.heap.size,0,none⟩ (.int .u8 0)).setCell ⟨w.heap.size,1,none⟩ (.int .u64 0)).setCell ⟨w.heap.size,2,none⟩ (.int .u64 0)).setCell ⟨w.heap.size,3,none⟩ (.int .u64 0)).setCell ⟨w.heap.size,4,none⟩ (.int .u64 0)).setCell ⟨w.heap.size,5,none⟩ (.string ⟨#[]⟩)).setCell ⟨w.heap.size,6,none⟩ (.int .i64 0)).setCell ⟨w.heap.size,7,none⟩ (.int .i64 0)).setCell ⟨w.heap.size,8,none⟩ (.slice none 0 0))from set9_below W3 (show B≤w.heap.size from hB) (.int .u8 0) (.int .u64 0) (.int .u64 0) (.int .u64 0) (.int .u64 0) (.string ⟨#[]⟩) (.int .i64 0) (.int .i64 0) (.slice none 0 0))
   have HR5:=Lib.hid (HR3.out.outs (show KeepF (fun o=>o=.tmp) f0 f0 W3 (((((((((W3.setCell ⟨w.heap.size,0,none⟩ (.int .u8 0)).setCell ⟨w.heap.size,1,none⟩ (.int .u64 0)).setCell ⟨w.heap.size,2,none⟩ (.int .u64 0)).setCell ⟨w.heap.size,3,none⟩ (.int .u64 0)).setCell ⟨w.heap.size,4,none⟩ (.int .u64 0)).setCell ⟨w.heap.size,5,none⟩ (.string ⟨#[]⟩)).setCell ⟨w.heap.size,6,none⟩ (.int .i64 0)).setCell ⟨w.heap.size,7,none⟩ (.int .i64 0)).setCell ⟨w.heap.size,8,none⟩ (.slice none 0 0))from KeepF.set9 (X:=fun o=>o=.tmp) (w:=W3) (HF0.out _ (Nat.le_refl _)) (.int .u8 0) (.int .u64 0) (.int .u64 0) (.int .u64 0) (.int .u64 0) (.string ⟨#[]⟩) (.int .i64 0) (.int .i64 0) (.slice none 0 0)))
   generalize (((((((((W3.setCell ⟨w.heap.size,0,none⟩ (.int .u8 0)).setCell ⟨w.heap.size,1,none⟩ (.int .u64 0)).setCell ⟨w.heap.size,2,none⟩ (.int .u64 0)).setCell ⟨w.heap.size,3,none⟩ (.int .u64 0)).setCell ⟨w.heap.size,4,none⟩ (.int .u64 0)).setCell ⟨w.heap.size,5,none⟩ (.string ⟨#[]⟩)).setCell ⟨w.heap.size,6,none⟩ (.int .i64 0)).setCell ⟨w.heap.size,7,none⟩ (.int .i64 0)).setCell ⟨w.heap.size,8,none⟩ (.slice none 0 0))=W5 at *
   clear r0 r1 r2 r3 r4 r5 r6 r7 r8 rf
   obtain⟨r0,r1,r2,r3,r4,r5,r6,r7,r8,rf⟩:=blk9 HX5.out
   refine bodyPost_ret (v:=.tuple #[ndV0 emptyN,.bool false]) (by simp[results,Tryz.results69,go_sem,r0,r1,r2,r3,r4,r5,r6,r7,r8,emptyN]) rfl ?_
   exact⟨fun h=>absurd h (by rw[HLF.out];decide),fun _=>⟨rfl,⟨_,HR5.out⟩,HBB.out.trans HB5.out⟩⟩
  ·have HLF:=Lib.hid (show lf=true from by rw[hlf];simp[hy])
   have iy:((y.kind:Int)==2)=false:=by simp;omega
   clear hlf
   go_upto_region 5 with(first
    |(go_at_call 72;(with_reducible refine(HW1.out _ HB2.out).mono ?_);rintro e w3 ⟨rfl,hb⟩;have HB3:=Lib.hid hb;obtain⟨e0,_,_,e3,_⟩:=blk10 (bx_kept hb HY2.out);clear hb)
    |fail)
   have HB4:=Lib.hid (show Below w.heap.size w w3 from HB2.out.trans (HB3.out.mono HB2.out.size))
   have HX3:=Lib.hid (bx_kept HB3.out HX2.out)
   have HN3:=Lib.hid (bx_kept HB3.out HN2.out)
   have HY3:=Lib.hid (bx_kept HB3.out HY2.out)
   have HRw:=Lib.hid (HFR.out.below HB4.out)
   have HBH:=Lib.hid (HRw.out.box (fun h=>HDN.out _ h))
   have HO:=Lib.hid (show OwnF w3 B f0 .calls 32 10 R.cA R.cs.length R.cc (wdL R.cs)from HRw.out .calls (fun h=>HDN.out _ h))
   clear e0 e3
   obtain⟨q0,q1,q2,q3,q4,q5,q6,q7,q8,q9,_⟩:=blk10 HY3.out
   obtain⟨_,_,_,_,_,_,_,p7,pf⟩:=blk8 HBH.out
   obtain⟨j0,hj,hy0,hy1,hy2⟩:=info_parts infoWord
   have hzc:(Value.agg #[.int .u8 0,.int .i64 0,.int .i64 0,.string ByteArray.empty,.int .u64 0,.int .u64 0,.int .u64 0,.int .u64 0,.int .i64 0,.int .i64 0]).cells.size=10:=rfl
   have hltw:H<w3.heap.size:=heap_lt' HBH.out
   have hltY:w1.heap.size<w3.heap.size:=heap_lt' HY3.out
   have hltN:w1.heap.size+1<w3.heap.size:=heap_lt' HN3.out
   have hltX:w.heap.size<w3.heap.size:=heap_lt' HX3.out
   generalize hnn:R.cs.length=m at *
   have HNN:=Lib.hid hnn;clear hnn
   obtain⟨V,hV⟩:∃V,R.cA=V:=⟨_,rfl⟩
   obtain⟨vc,hvc⟩:∃vc,R.cc=vc:=⟨_,rfl⟩
   rw[hV,hvc]at p7
   have HNE:=Lib.hid (show ∀k,blkOf V=some k→k<w.heap.size∧f0 k=.calls∧k≠H from fun k hk=>by
    have h1:=HO.out.2 k (by rw[hV];exact hk)
    have h2:=own_blk (HFR.out .calls (fun h=>HDN.out _ h)).1 k (by rw[hV];exact hk)
    refine⟨h2.2,h1,fun e=> ?_⟩
    subst e
    have h3:=(HFR.out .box (fun h=>HDN.out _ h)).2.2
    rw[h1]at h3;cases h3)
   have HOV:=Lib.hid (show(w3.drew.alloc (.cells #[.int .u8 1,.int .i64 frm,.int .i64 til,.string ⟨tx.toArray⟩,.int .u64 s0,.int .u64 s1,.int .u64 s2,.int .u64 s3,.int .i64 lo,.int .i64 hi'] 32)).ownsRow B 32 10 (.slice V m vc) m (wdL R.cs)from World.ownsRow.alloc (show w3.drew.ownsRow B 32 10 (.slice V m vc) m (wdL R.cs)from by have h:=HO.out.1;rw[hV,hvc]at h;exact h) _)
   have HF:=Lib.hid (show m+1≤maxLen∧(m+1)*88≤140737488355328∧B≤(w3.drew.alloc (.cells #[.int .u8 1,.int .i64 frm,.int .i64 til,.string ⟨tx.toArray⟩,.int .u64 s0,.int .u64 s1,.int .u64 s2,.int .u64 s3,.int .i64 lo,.int .i64 hi'] 32)).heap.size from⟨by unfold maxLen;omega,by omega,by have:=HB4.out.size;simp;omega⟩)
   have HKB:=Lib.hid (show(w3.drew.alloc (.cells #[.int .u8 1,.int .i64 frm,.int .i64 til,.string ⟨tx.toArray⟩,.int .u64 s0,.int .u64 s1,.int .u64 s2,.int .u64 s3,.int .i64 lo,.int .i64 hi'] 32)).heap[H]?=some (.cells #[.slice R.WA R.W.length R.Wc,.int .i64 (R.fin:Int),.int .i64 (R.i:Int),.slice R.nA R.ls.length R.nc,.slice R.lA R.os.length R.lc,.slice R.dA R.ds.length R.dc,.slice R.mA R.ms.length R.mc,.slice V m vc] 82 (0,0))from bx_old (w:=w3.drew) (by have h:=HBH.out;rw[hV,hvc]at h;exact h))
   have HVV:=Lib.hid hV;clear hV hvc
   have HNH:=Lib.hid (show ¬some H=blkOf V from fun e=>(HNE.out H e.symm).2.2 rfl)
   go_region_law ((refine step_append_at (by rfl) (.tmp 23) (.tmp 25) 23 (by rfl) B 32 j0 (.agg #[.int .u8 0,.int .i64 0,.int .i64 0,.string ByteArray.empty,.int .u64 0,.int .u64 0,.int .u64 0,.int .u64 0,.int .i64 0,.int .i64 0]) 10 88 Tryz.underlying23 hj hy0 hy1 hy2 hzc (by decide) V vc m (wdL R.cs) (by rfl) HOV.out (some ⟨w3.heap.size,0,none⟩) 1 1 [.int .u8 1,.int .i64 frm,.int .i64 til,.string ⟨tx.toArray⟩,.int .u64 s0,.int .u64 s1,.int .u64 s2,.int .u64 s3,.int .i64 lo,.int .i64 hi'] (by rfl) rfl (row_blk (bx_new w3.drew _)) (fun u hu=>by simp only[List.mem_cons,List.not_mem_nil,or_false]at hu;rcases hu with rfl|rfl|rfl|rfl|rfl|rfl|rfl|rfl|rfl|rfl <;> rfl) HF.out.1 HF.out.2.1 HF.out.2.2 ?_;intro V' vc' w4 HO2 HG2 HA2;have HK2:=Lib.hid ((HG2.out.block H (heap_lt' HKB.out) HNH.out).trans HKB.out);have t1:w4.cell? ⟨H,7,none⟩=some (.slice V m vc):=(by simp[World.cell?,HK2.out]);have t2:w4.frozen? ⟨H,7,none⟩=false:=(by simp[World.frozen?,HK2.out])))
   all_goals
    clear t1 t2 p7 pf q0 q1 q2 q3 q4 q5 q6 q7 q8 q9
    have HBA:=Lib.hid (show Below w.heap.size w (w3.drew.alloc (.cells #[.int .u8 1,.int .i64 frm,.int .i64 til,.string ⟨tx.toArray⟩,.int .u64 s0,.int .u64 s1,.int .u64 s2,.int .u64 s3,.int .i64 lo,.int .i64 hi'] 32))from(HB4.out.drew).alloc (show w.heap.size≤w3.heap.size from HB4.out.size) _)
    have HCD:=Lib.hid (calls_done (x:=⟨1,frm,til,tx,s0,s1,s2,s3,lo,hi'⟩) HFR.out ⟨fun h=>HDN.out _ h,fun h=>HDN.out _ h⟩ HBA.out HNN.out HVV.out (show w4.ownsRow B 32 10 (.slice V' (m+1) vc') (m+1) (wdL (R.cs++[⟨1,frm,til,tx,s0,s1,s2,s3,lo,hi'⟩]))from by rw[wdL_snoc];exact HO2.out) HG2.out HA2.out hB)
    have HX4:=Lib.hid (show(w4.setCell ⟨H,7,none⟩ (.slice V' (m+1) vc')).heap[w.heap.size]?=some (.cells #[.int .u8 0,.int .u64 0,.int .u64 0,.int .u64 0,.int .u64 0,.string ⟨#[]⟩,.int .i64 0,.int .i64 0,.slice none 0 0] 54 (0,0))from(Below.heap_setCell w4 ⟨H,7,none⟩ _ _ (show w.heap.size≠H by omega)).trans ((HG2.out.block _ (by simp;omega) (fun e=>by have:=HNE.out _ e.symm;omega)).trans (bx_old (w:=w3.drew) HX3.out)))
    have HN4:=Lib.hid (show(w4.setCell ⟨H,7,none⟩ (.slice V' (m+1) vc')).heap[w1.heap.size+1]?=some (.cells #[.int .u8 0,.int .u64 0,.int .u64 0,.int .u64 0,.int .u64 0,.string ⟨#[]⟩,.int .i64 0,.int .i64 0,.slice none 0 0] 54 (0,0))from(Below.heap_setCell w4 ⟨H,7,none⟩ _ _ (show w1.heap.size+1≠H by omega)).trans ((HG2.out.block _ (by simp;omega) (fun e=>by have:=HNE.out _ e.symm;omega)).trans (bx_old (w:=w3.drew) HN3.out)))
    have HY4:=Lib.hid (show(w4.setCell ⟨H,7,none⟩ (.slice V' (m+1) vc')).heap[w1.heap.size]?=some (.cells #[.int .u8 1,.int .i64 frm,.int .i64 til,.string ⟨tx.toArray⟩,.int .u64 s0,.int .u64 s1,.int .u64 s2,.int .u64 s3,.int .i64 lo,.int .i64 hi'] 32 (0,0))from(Below.heap_setCell w4 ⟨H,7,none⟩ _ _ (show w1.heap.size≠H by omega)).trans ((HG2.out.block _ (by simp;omega) (fun e=>by have:=HNE.out _ e.symm;omega)).trans (bx_old (w:=w3.drew) HY3.out)))
    have HFU:=Lib.hid (show updF f0 (w3.drew.alloc (.cells #[.int .u8 1,.int .i64 frm,.int .i64 til,.string ⟨tx.toArray⟩,.int .u64 s0,.int .u64 s1,.int .u64 s2,.int .u64 s3,.int .i64 lo,.int .i64 hi'] 32)).heap.size .calls w.heap.size=.tmp∧updF f0 (w3.drew.alloc (.cells #[.int .u8 1,.int .i64 frm,.int .i64 til,.string ⟨tx.toArray⟩,.int .u64 s0,.int .u64 s1,.int .u64 s2,.int .u64 s3,.int .i64 lo,.int .i64 hi'] 32)).heap.size .calls (w1.heap.size+1)=.tmp from⟨by unfold updF;rw[if_neg (by simp;omega)];exact HF0.out _ (Nat.le_refl _),by unfold updF;rw[if_neg (by simp;omega)];exact HF0.out _ (by omega)⟩)
    generalize updF f0 (w3.drew.alloc (.cells #[.int .u8 1,.int .i64 frm,.int .i64 til,.string ⟨tx.toArray⟩,.int .u64 s0,.int .u64 s1,.int .u64 s2,.int .u64 s3,.int .i64 lo,.int .i64 hi'] 32)).heap.size .calls=f1 at *
    generalize (w4.setCell ⟨H,7,none⟩ (.slice V' (m+1) vc'))=w5 at *
    obtain⟨_,_,_,e3,_⟩:=blk10 HY4.out
    obtain⟨r0,r1,r2,r3,r4,r5,r6,r7,r8,rf⟩:=blk9 HN4.out
    go_upto_region 13 with(fail)
    have HN3:=Lib.hid (show(((((((((w5.setCell ⟨w1.heap.size+1,0,none⟩ (.int .u8 3)).setCell ⟨w1.heap.size+1,1,none⟩ (.int .u64 0)).setCell ⟨w1.heap.size+1,2,none⟩ (.int .u64 0)).setCell ⟨w1.heap.size+1,3,none⟩ (.int .u64 0)).setCell ⟨w1.heap.size+1,4,none⟩ (.int .u64 0)).setCell ⟨w1.heap.size+1,5,none⟩ (.string ⟨tx.toArray⟩)).setCell ⟨w1.heap.size+1,6,none⟩ (.int .i64 0)).setCell ⟨w1.heap.size+1,7,none⟩ (.int .i64 0)).setCell ⟨w1.heap.size+1,8,none⟩ (.slice none 0 0)).heap[w1.heap.size+1]?=some (.cells #[.int .u8 3,.int .u64 0,.int .u64 0,.int .u64 0,.int .u64 0,.string ⟨tx.toArray⟩,.int .i64 0,.int .i64 0,.slice none 0 0] 54 (0,0))from set9_box HN4.out (.int .u8 3) (.int .u64 0) (.int .u64 0) (.int .u64 0) (.int .u64 0) (.string ⟨tx.toArray⟩) (.int .i64 0) (.int .i64 0) (.slice none 0 0))
    have HX3:=Lib.hid (show(((((((((w5.setCell ⟨w1.heap.size+1,0,none⟩ (.int .u8 3)).setCell ⟨w1.heap.size+1,1,none⟩ (.int .u64 0)).setCell ⟨w1.heap.size+1,2,none⟩ (.int .u64 0)).setCell ⟨w1.heap.size+1,3,none⟩ (.int .u64 0)).setCell ⟨w1.heap.size+1,4,none⟩ (.int .u64 0)).setCell ⟨w1.heap.size+1,5,none⟩ (.string ⟨tx.toArray⟩)).setCell ⟨w1.heap.size+1,6,none⟩ (.int .i64 0)).setCell ⟨w1.heap.size+1,7,none⟩ (.int .i64 0)).setCell ⟨w1.heap.size+1,8,none⟩ (.slice none 0 0)).heap[w.heap.size]?=some (.cells #[.int .u8 0,.int .u64 0,.int .u64 0,.int .u64 0,.int .u64 0,.string ⟨#[]⟩,.int .i64 0,.int .i64 0,.slice none 0 0] 54 (0,0))from((set9_below w5 (Nat.le_refl (w1.heap.size+1)) (.int .u8 3) (.int .u64 0) (.int .u64 0) (.int .u64 0) (.int .u64 0) (.string ⟨tx.toArray⟩) (.int .i64 0) (.int .i64 0) (.slice none 0 0)).block _ (by omega)).trans HX4.out)
    have HB5:=Lib.hid (show Below B w5 (((((((((w5.setCell ⟨w1.heap.size+1,0,none⟩ (.int .u8 3)).setCell ⟨w1.heap.size+1,1,none⟩ (.int .u64 0)).setCell ⟨w1.heap.size+1,2,none⟩ (.int .u64 0)).setCell ⟨w1.heap.size+1,3,none⟩ (.int .u64 0)).setCell ⟨w1.heap.size+1,4,none⟩ (.int .u64 0)).setCell ⟨w1.heap.size+1,5,none⟩ (.string ⟨tx.toArray⟩)).setCell ⟨w1.heap.size+1,6,none⟩ (.int .i64 0)).setCell ⟨w1.heap.size+1,7,none⟩ (.int .i64 0)).setCell ⟨w1.heap.size+1,8,none⟩ (.slice none 0 0))from set9_below w5 (show B≤w1.heap.size+1 by omega) (.int .u8 3) (.int .u64 0) (.int .u64 0) (.int .u64 0) (.int .u64 0) (.string ⟨tx.toArray⟩) (.int .i64 0) (.int .i64 0) (.slice none 0 0))
    have HR3:=Lib.hid (HCD.out.1.outs (show KeepF (fun o=>o=.tmp) f1 f1 w5 (((((((((w5.setCell ⟨w1.heap.size+1,0,none⟩ (.int .u8 3)).setCell ⟨w1.heap.size+1,1,none⟩ (.int .u64 0)).setCell ⟨w1.heap.size+1,2,none⟩ (.int .u64 0)).setCell ⟨w1.heap.size+1,3,none⟩ (.int .u64 0)).setCell ⟨w1.heap.size+1,4,none⟩ (.int .u64 0)).setCell ⟨w1.heap.size+1,5,none⟩ (.string ⟨tx.toArray⟩)).setCell ⟨w1.heap.size+1,6,none⟩ (.int .i64 0)).setCell ⟨w1.heap.size+1,7,none⟩ (.int .i64 0)).setCell ⟨w1.heap.size+1,8,none⟩ (.slice none 0 0))from KeepF.set9 (X:=fun o=>o=.tmp) (w:=w5) HFU.out.2 (.int .u8 3) (.int .u64 0) (.int .u64 0) (.int .u64 0) (.int .u64 0) (.string ⟨tx.toArray⟩) (.int .i64 0) (.int .i64 0) (.slice none 0 0)))
    clear r0 r1 r2 r3 r4 r5 r6 r7 r8 rf e3
    generalize (((((((((w5.setCell ⟨w1.heap.size+1,0,none⟩ (.int .u8 3)).setCell ⟨w1.heap.size+1,1,none⟩ (.int .u64 0)).setCell ⟨w1.heap.size+1,2,none⟩ (.int .u64 0)).setCell ⟨w1.heap.size+1,3,none⟩ (.int .u64 0)).setCell ⟨w1.heap.size+1,4,none⟩ (.int .u64 0)).setCell ⟨w1.heap.size+1,5,none⟩ (.string ⟨tx.toArray⟩)).setCell ⟨w1.heap.size+1,6,none⟩ (.int .i64 0)).setCell ⟨w1.heap.size+1,7,none⟩ (.int .i64 0)).setCell ⟨w1.heap.size+1,8,none⟩ (.slice none 0 0))=W3 at *
    have HF3:=Lib.hid HFU.out.1
    have HBB:=Lib.hid (HCD.out.2.trans HB5.out)
    have HBX3:=Lib.hid (HR3.out.box (fun h=>HDN.out _ h))
    obtain⟨_,_,p2,_,_,_,_,_,pf⟩:=blk8 HBX3.out
    go_upto_region 14 with(fail)
    have HI4:=Lib.hid (HR3.out.setI (fun h=>HDN.out _ h) (R.i+1))
    have HX4:=Lib.hid (set_ne (H:=H) (u:=.int .i64 ((R.i:Int)+1)) HX3.out (by omega))
    have HN4:=Lib.hid (set_ne (H:=H) (u:=.int .i64 ((R.i:Int)+1)) HN3.out (by have:=HB1.out.size;omega))
    clear p2 pf
    simp only[Int.natCast_add,Int.natCast_one]at HI4
    generalize (W3.setCell ⟨H,2,none⟩ (.int .i64 ((R.i:Int)+1)))=W4 at *
    obtain⟨r0,r1,r2,r3,r4,r5,r6,r7,r8,rf⟩:=blk9 HX4.out
    obtain⟨n0,n1,n2,n3,n4,n5,n6,n7,n8,_⟩:=blk9 HN4.out
    go_wp2_with fail
    have HX5:=Lib.hid (show(((((((((W4.setCell ⟨w.heap.size,0,none⟩ (.int .u8 3)).setCell ⟨w.heap.size,1,none⟩ (.int .u64 0)).setCell ⟨w.heap.size,2,none⟩ (.int .u64 0)).setCell ⟨w.heap.size,3,none⟩ (.int .u64 0)).setCell ⟨w.heap.size,4,none⟩ (.int .u64 0)).setCell ⟨w.heap.size,5,none⟩ (.string ⟨tx.toArray⟩)).setCell ⟨w.heap.size,6,none⟩ (.int .i64 0)).setCell ⟨w.heap.size,7,none⟩ (.int .i64 0)).setCell ⟨w.heap.size,8,none⟩ (.slice none 0 0)).heap[w.heap.size]?=some (.cells #[.int .u8 3,.int .u64 0,.int .u64 0,.int .u64 0,.int .u64 0,.string ⟨tx.toArray⟩,.int .i64 0,.int .i64 0,.slice none 0 0] 54 (0,0))from set9_box HX4.out (.int .u8 3) (.int .u64 0) (.int .u64 0) (.int .u64 0) (.int .u64 0) (.string ⟨tx.toArray⟩) (.int .i64 0) (.int .i64 0) (.slice none 0 0))
    have HB5:=Lib.hid (show Below B W4 (((((((((W4.setCell ⟨w.heap.size,0,none⟩ (.int .u8 3)).setCell ⟨w.heap.size,1,none⟩ (.int .u64 0)).setCell ⟨w.heap.size,2,none⟩ (.int .u64 0)).setCell ⟨w.heap.size,3,none⟩ (.int .u64 0)).setCell ⟨w.heap.size,4,none⟩ (.int .u64 0)).setCell ⟨w.heap.size,5,none⟩ (.string ⟨tx.toArray⟩)).setCell ⟨w.heap.size,6,none⟩ (.int .i64 0)).setCell ⟨w.heap.size,7,none⟩ (.int .i64 0)).setCell ⟨w.heap.size,8,none⟩ (.slice none 0 0))from set9_below W4 (show B≤w.heap.size from hB) (.int .u8 3) (.int .u64 0) (.int .u64 0) (.int .u64 0) (.int .u64 0) (.string ⟨tx.toArray⟩) (.int .i64 0) (.int .i64 0) (.slice none 0 0))
    have HK5:=Lib.hid (show KeepF (fun o=>o=.tmp) f1 f1 W4 (((((((((W4.setCell ⟨w.heap.size,0,none⟩ (.int .u8 3)).setCell ⟨w.heap.size,1,none⟩ (.int .u64 0)).setCell ⟨w.heap.size,2,none⟩ (.int .u64 0)).setCell ⟨w.heap.size,3,none⟩ (.int .u64 0)).setCell ⟨w.heap.size,4,none⟩ (.int .u64 0)).setCell ⟨w.heap.size,5,none⟩ (.string ⟨tx.toArray⟩)).setCell ⟨w.heap.size,6,none⟩ (.int .i64 0)).setCell ⟨w.heap.size,7,none⟩ (.int .i64 0)).setCell ⟨w.heap.size,8,none⟩ (.slice none 0 0))from KeepF.set9 (X:=fun o=>o=.tmp) (w:=W4) HF3.out (.int .u8 3) (.int .u64 0) (.int .u64 0) (.int .u64 0) (.int .u64 0) (.string ⟨tx.toArray⟩) (.int .i64 0) (.int .i64 0) (.slice none 0 0))
    generalize (((((((((W4.setCell ⟨w.heap.size,0,none⟩ (.int .u8 3)).setCell ⟨w.heap.size,1,none⟩ (.int .u64 0)).setCell ⟨w.heap.size,2,none⟩ (.int .u64 0)).setCell ⟨w.heap.size,3,none⟩ (.int .u64 0)).setCell ⟨w.heap.size,4,none⟩ (.int .u64 0)).setCell ⟨w.heap.size,5,none⟩ (.string ⟨tx.toArray⟩)).setCell ⟨w.heap.size,6,none⟩ (.int .i64 0)).setCell ⟨w.heap.size,7,none⟩ (.int .i64 0)).setCell ⟨w.heap.size,8,none⟩ (.slice none 0 0))=W5 at *
    clear r0 r1 r2 r3 r4 r5 r6 r7 r8 rf n0 n1 n2 n3 n4 n5 n6 n7 n8
    obtain⟨r0,r1,r2,r3,r4,r5,r6,r7,r8,rf⟩:=blk9 HX5.out
    refine bodyPost_ret (v:=.tuple #[rv,.bool true]) (by rw[←hz];simp[results,Tryz.results69,go_sem,r0,r1,r2,r3,r4,r5,r6,r7,r8,leafW,setW,emptyN,textN,ruleN]) rfl ?_
    exact⟨fun _=>⟨rfl,⟨_,_,_,HI4.out.1.outs HK5.out⟩,(HBB.out.trans HI4.out.2.2).trans HB5.out⟩,fun h=>absurd h (by rw[HLF.out];decide)⟩
 have HLF:=Lib.hid (show lf=false from by rw[hlf];simp[h1,h15,h16])
 have i1:((k:Int)==1)=false:=by simp;omega
 have i15:((k:Int)==15)=false:=by simp;omega
 have i16:((k:Int)==16)=false:=by simp;omega
 clear hlf
 have HB3:=Lib.hid (show Below w.heap.size w ((w1.alloc (.cells #[.int .u8 k,.int .i64 frm,.int .i64 til,.string ⟨tx.toArray⟩,.int .u64 s0,.int .u64 s1,.int .u64 s2,.int .u64 s3,.int .i64 lo,.int .i64 hi'] 32)).alloc (.cells #[.int .u8 0,.int .u64 0,.int .u64 0,.int .u64 0,.int .u64 0,.string ⟨#[]⟩,.int .i64 0,.int .i64 0,.slice none 0 0] 54))from(HB1.out.alloc HB1.out.size _).alloc (by have:=HB1.out.size;simp;omega) _)
 have HX3:=Lib.hid (bx_old (p:=(.cells #[.int .u8 0,.int .u64 0,.int .u64 0,.int .u64 0,.int .u64 0,.string ⟨#[]⟩,.int .i64 0,.int .i64 0,.slice none 0 0] 54)) (bx_old (p:=(.cells #[.int .u8 k,.int .i64 frm,.int .i64 til,.string ⟨tx.toArray⟩,.int .u64 s0,.int .u64 s1,.int .u64 s2,.int .u64 s3,.int .i64 lo,.int .i64 hi'] 32)) HX.out))
 go_upto_region 3 with(fail)
 generalize ((w1.alloc (.cells #[.int .u8 k,.int .i64 frm,.int .i64 til,.string ⟨tx.toArray⟩,.int .u64 s0,.int .u64 s1,.int .u64 s2,.int .u64 s3,.int .i64 lo,.int .i64 hi'] 32)).alloc (.cells #[.int .u8 0,.int .u64 0,.int .u64 0,.int .u64 0,.int .u64 0,.string ⟨#[]⟩,.int .i64 0,.int .i64 0,.slice none 0 0] 54))=W3 at *
 have HR3:=Lib.hid (HFR.out.below HB3.out)
 have HBB:=Lib.hid (HB3.out.mono hB)
 obtain⟨r0,r1,r2,r3,r4,r5,r6,r7,r8,rf⟩:=blk9 HX3.out
 go_wp2_with fail
 have HX5:=Lib.hid (show(((((((((W3.setCell ⟨w.heap.size,0,none⟩ (.int .u8 0)).setCell ⟨w.heap.size,1,none⟩ (.int .u64 0)).setCell ⟨w.heap.size,2,none⟩ (.int .u64 0)).setCell ⟨w.heap.size,3,none⟩ (.int .u64 0)).setCell ⟨w.heap.size,4,none⟩ (.int .u64 0)).setCell ⟨w.heap.size,5,none⟩ (.string ⟨#[]⟩)).setCell ⟨w.heap.size,6,none⟩ (.int .i64 0)).setCell ⟨w.heap.size,7,none⟩ (.int .i64 0)).setCell ⟨w.heap.size,8,none⟩ (.slice none 0 0)).heap[w.heap.size]?=some (.cells #[.int .u8 0,.int .u64 0,.int .u64 0,.int .u64 0,.int .u64 0,.string ⟨#[]⟩,.int .i64 0,.int .i64 0,.slice none 0 0] 54 (0,0))from set9_box HX3.out (.int .u8 0) (.int .u64 0) (.int .u64 0) (.int .u64 0) (.int .u64 0) (.string ⟨#[]⟩) (.int .i64 0) (.int .i64 0) (.slice none 0 0))
 have HB5:=Lib.hid (show Below B W3 (((((((((W3.setCell ⟨w.heap.size,0,none⟩ (.int .u8 0)).setCell ⟨w.heap.size,1,none⟩ (.int .u64 0)).setCell ⟨w.heap.size,2,none⟩ (.int .u64 0)).setCell ⟨w.heap.size,3,none⟩ (.int .u64 0)).setCell ⟨w.heap.size,4,none⟩ (.int .u64 0)).setCell ⟨w.heap.size,5,none⟩ (.string ⟨#[]⟩)).setCell ⟨w.heap.size,6,none⟩ (.int .i64 0)).setCell ⟨w.heap.size,7,none⟩ (.int .i64 0)).setCell ⟨w.heap.size,8,none⟩ (.slice none 0 0))from set9_below W3 (show B≤w.heap.size from hB) (.int .u8 0) (.int .u64 0) (.int .u64 0) (.int .u64 0) (.int .u64 0) (.string ⟨#[]⟩) (.int .i64 0) (.int .i64 0) (.slice none 0 0))
 have HR5:=Lib.hid (HR3.out.outs (show KeepF (fun o=>o=.tmp) f0 f0 W3 (((((((((W3.setCell ⟨w.heap.size,0,none⟩ (.int .u8 0)).setCell ⟨w.heap.size,1,none⟩ (.int .u64 0)).setCell ⟨w.heap.size,2,none⟩ (.int .u64 0)).setCell ⟨w.heap.size,3,none⟩ (.int .u64 0)).setCell ⟨w.heap.size,4,none⟩ (.int .u64 0)).setCell ⟨w.heap.size,5,none⟩ (.string ⟨#[]⟩)).setCell ⟨w.heap.size,6,none⟩ (.int .i64 0)).setCell ⟨w.heap.size,7,none⟩ (.int .i64 0)).setCell ⟨w.heap.size,8,none⟩ (.slice none 0 0))from KeepF.set9 (X:=fun o=>o=.tmp) (w:=W3) (HF0.out _ (Nat.le_refl _)) (.int .u8 0) (.int .u64 0) (.int .u64 0) (.int .u64 0) (.int .u64 0) (.string ⟨#[]⟩) (.int .i64 0) (.int .i64 0) (.slice none 0 0)))
 generalize (((((((((W3.setCell ⟨w.heap.size,0,none⟩ (.int .u8 0)).setCell ⟨w.heap.size,1,none⟩ (.int .u64 0)).setCell ⟨w.heap.size,2,none⟩ (.int .u64 0)).setCell ⟨w.heap.size,3,none⟩ (.int .u64 0)).setCell ⟨w.heap.size,4,none⟩ (.int .u64 0)).setCell ⟨w.heap.size,5,none⟩ (.string ⟨#[]⟩)).setCell ⟨w.heap.size,6,none⟩ (.int .i64 0)).setCell ⟨w.heap.size,7,none⟩ (.int .i64 0)).setCell ⟨w.heap.size,8,none⟩ (.slice none 0 0))=W5 at *
 clear r0 r1 r2 r3 r4 r5 r6 r7 r8 rf
 obtain⟨r0,r1,r2,r3,r4,r5,r6,r7,r8,rf⟩:=blk9 HX5.out
 refine bodyPost_ret (v:=.tuple #[ndV0 emptyN,.bool false]) (by simp[results,Tryz.results69,go_sem,r0,r1,r2,r3,r4,r5,r6,r7,r8,emptyN]) rfl ?_
 exact⟨fun h=>absurd h (by rw[HLF.out];decide),fun _=>⟨rfl,⟨_,HR5.out⟩,HBB.out.trans HB5.out⟩⟩
end Go.Proofs.YtpfokabdpmjobaaGreatDoor
