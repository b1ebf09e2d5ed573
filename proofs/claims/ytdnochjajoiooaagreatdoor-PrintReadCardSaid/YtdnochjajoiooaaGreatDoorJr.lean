/- The contracts of the reader's suffix, and of what it tells. The contract of the reader's primary. -/
import Derived.Test.YtdnochjajoiooaaGreatDoorJp
namespace Go.Proofs.YtdnochjajoiooaaGreatDoor
open Go.RowKit
set_option linter.unusedSimpArgs false
set_option linter.unusedVariables false
theorem NC (w:World) {B:Nat} (f:Nat->Ow) (z:Int) (hB:B<=w.heap.size):OwnF (w.alloc (.cells #[.int .i64 z] 3)) B (BD f w.heap.size .kids) .kids 3 1 (some ⟨w.heap.size,0,none⟩) [z].length 1 (Az.all [z]):=
 ⟨⟨rfl,.inr ⟨w.heap.size,1,#[.int .i64 z],rfl,hB,heap_alloc_new _ _,Nat.le_refl _,by unfold maxLen;omega,rfl,rfl⟩⟩,fun k hk=>by cases hk;unfold BD;rw[if_pos rfl]⟩
theorem RdM.kid {D:Ow->Prop} {w:World} {B:Nat} {f:Nat->Ow} {H:Nat} {R:Rd} (h:RdM D w B f H R) (o:Obj):RdM D (w.alloc o) B (BD f w.heap.size .kids) H R:=(h.upd .kids (Nat.le_refl _)).below (bx1 w o)
theorem KeepF.kid {X:Ow->Prop} {f:Nat->Ow} (w:World) (o:Obj):KeepF X f (BD f w.heap.size .kids) w (w.alloc o):=(KeepF.below (bx1 w o)).upd .kids (Nat.le_refl _)
structure PutB (w:World) (H b1 b2 b3:Nat) (lo hi:Int):Prop where
 rd:w.heap[b1]?=some (.cells #[.pointer (some ⟨H,0,none⟩)] 65 (0,0))
 lo:w.heap[b2]?=some (.cells #[.int .i64 lo] 3 (0,0))
 hi:w.heap[b3]?=some (.cells #[.int .i64 hi] 3 (0,0))
theorem Wz {lo hi:Int} {z:Int}:({FB lo hi with kids:=[z]}:Nd).wf:=⟨by simp[FB],by simp[FB];decide,by simp,by simp[FB,U64]⟩
set_option maxRecDepth 100000 in
set_option maxHeartbeats 3200000 in
theorem UQ (D:Ow->Prop) (w:World) (B:Nat) (f:Nat->Ow) (H:Nat) (R:Rd) (b1 b2 b3:Nat) (lo hi z:Int) (h:RdM D w B f H R) (hD:¬D .box/\ ¬D .nodes/\ ¬D .kids) (hp:PutB w H b1 b2 b3 lo hi) (hl:R.ls.length<=4294967296) (hB:B<=w.heap.size):
  Calls Tryz.prog 81 #[.int .i64 z,.pointer (some ⟨b1,0,none⟩),.pointer (some ⟨b2,0,none⟩),.pointer (some ⟨b3,0,none⟩)] w (D9 D B f H R ⟨{FB lo hi with kids:=[z]},some ⟨w.heap.size,0,none⟩,1⟩ w):=by
 have HA:=qd (show Calls Tryz.prog 43 #[.pointer (some ⟨H,0,none⟩),.agg #[.int .u8 6,.int .u64 0,.int .u64 0,.int .u64 0,.int .u64 0,.string ⟨#[]⟩,.int .i64 lo,.int .i64 hi,.slice none 0 0],.slice (some ⟨w.heap.size,0,none⟩) 1 1] (w.alloc (.cells #[.int .i64 z] 3)) (D9 D B (BD f w.heap.size .kids) H R ⟨{FB lo hi with kids:=[z]},some ⟨w.heap.size,0,none⟩,1⟩ (w.alloc (.cells #[.int .i64 z] 3)))from
  FT D _ B _ H R (FB lo hi) (.slice none 0 0) (some ⟨w.heap.size,0,none⟩) 1 [z] (h.kid _) hD (NC w f z hB) Wz hl (by simp;omega))
 obtain⟨p0,_⟩:=Lg hp.rd;obtain⟨p1,_⟩:=Lg hp.lo;obtain⟨p2,_⟩:=Lg hp.hi;unfold D9 at HA ⊢;go_enter Tryz.func81,Tryz.ntmps81
 go_wp2_with (first
  |(go_at_call 43;(with_reducible refine HA.out.mono ?_);rintro e w1 ⟨nA,nc,f',rfl,h1,h2,h3⟩;have H1:=qd h1;have H2:=qd h2;have H3:=qd h3;clear h1 h2 h3)
  |fail)
 go_ret;exact⟨nA,nc,f',rfl,H1.out,(KeepF.kid w _).trans H2.out,((bx1 w _).mono hB).trans H3.out⟩
theorem W8 (w:World) (o p q:Obj):(((w.alloc o).alloc p).alloc q).heap[w.heap.size]?=some o/\(((w.alloc o).alloc p).alloc q).heap[w.heap.size+1]?=some p/\(((w.alloc o).alloc p).alloc q).heap[w.heap.size+1+1]?=some q:=by
 refine⟨A7 (A7 (Ad w o)),A7 ?_,?_⟩
 ·have h:=Ad (w.alloc o) p;rwa [World.size_alloc]at h
 ·have h:=Ad ((w.alloc o).alloc p) q;rwa [World.size_alloc,World.size_alloc]at h
def IX (D:Ow->Prop) (B:Nat) (f:Nat->Ow) (H:Nat) (R:Rd) (w:World) (e:Ending) (w':World):Prop:=
 (CE R.W R.i=none->e=.returned (.tuple #[.nilFunc,.bool false])/\Below w.heap.size w w') /\
 (∀lo hi,CE R.W R.i=some (lo,hi)-> ∃b1 b2 b3,e=.returned (.tuple #[.func (.func 81) #[] #[.pointer (some ⟨b1,0,none⟩),.pointer (some ⟨b2,0,none⟩),.pointer (some ⟨b3,0,none⟩)],.bool true])/\PutB w' H b1 b2 b3 lo hi/\RdM D w' B f H {R with i:=R.i+1}/\KeepF (fun o=>o=.box) f f w w'/\Below B w w')
theorem X0 (W:List Wd) (i:Nat):CE W i=if (wdW W i).kind=6 then some (0,1)else if (wdW W i).kind=7 then some (0, -1)else if (wdW W i).kind=8 then some (1, -1)else if (wdW W i).kind=14 then some ((wdW W i).low,(wdW W i).high)else none:=by
 unfold CE;rw[Km]
theorem PutB.setH {w:World} {H b1 b2 b3 i:Nat} {lo hi:Int} {u:Value} (h:PutB w H b1 b2 b3 lo hi) (hb:H<b1/\H<b2/\H<b3):PutB (w.setCell ⟨H,i,none⟩ u) H b1 b2 b3 lo hi:=
 ⟨(Below.heap_setCell _ _ _ _ (show b1≠H by omega)).trans h.rd,(Below.heap_setCell _ _ _ _ (show b2≠H by omega)).trans h.lo,(Below.heap_setCell _ _ _ _ (show b3≠H by omega)).trans h.hi⟩
attribute [local go_sem] Ez E0
set_option maxRecDepth 100000 in
set_option maxHeartbeats 6400000 in
theorem I2 (D:Ow->Prop) (w:World) (B:Nat) (f:Nat->Ow) (H:Nat) (R:Rd) (h:RdM D w B f H R) (hD:¬D .box/\ ¬D .words) (hi:R.i<=65536) (hB:B<=w.heap.size):
  Calls Tryz.prog 66 #[.pointer (some ⟨H,0,none⟩)] w (IX D B f H R w):=by
 have HW:=qd (show ∀w',Below w.heap.size w w'->Calls Tryz.prog 44 #[.pointer (some ⟨H,0,none⟩),.int .i64 0] w' fun e w''=>e=.returned (wdV (wdW R.W R.i))/\Below w'.heap.size w' w'' from fun w' hb=>FS D w' B f H R 0 (h.below hb) hD (by omega) (by omega));have HR:=qd h;have hltH:H<w.heap.size:=Av (h.box hD.1);have hso:=X0 R.W R.i;have e5:IntKind.i64.wrap ((R.i:Int)+1)=(R.i:Int)+1:=IntWalk.i64_in _ (by omega);unfold IX;generalize CE R.W R.i=sw at *;generalize wdW R.W R.i=x at *;obtain⟨k,frm,til,tx,s0,s1,s2,s3,lo,hi'⟩:=x;simp only at hso HW;have HSO:=qd hso;clear h hso;have HB0:=qd (bx3 w (.cells #[.pointer (some ⟨H,0,none⟩)] 65) (.cells #[.int .i64 0] 3) (.cells #[.int .i64 (-1)] 3));have HK0:=qd (W8 w (.cells #[.pointer (some ⟨H,0,none⟩)] 65) (.cells #[.int .i64 0] 3) (.cells #[.int .i64 (-1)] 3));go_enter Tryz.func66,Tryz.ntmps66
 go_upto_region 2 with(fail)
 generalize (((w.alloc (.cells #[.pointer (some ⟨H,0,none⟩)] 65)).alloc (.cells #[.int .i64 0] 3)).alloc (.cells #[.int .i64 (-1)] 3))=W0 at *;obtain⟨p0,_⟩:=Lg HK0.out.1
 go_upto_region 3 with(first
  |(go_at_call 44;(with_reducible refine(HW.out _ HB0.out).mono ?_);rintro e w1 ⟨rfl,hb⟩;have HBw:=qd hb;clear hb p0)
  |fail)
 have HB1:=qd ((Below.step HB0.out HBw.out).trans ((bx1 w1 (.cells #[.int .u8 (k:Int),.int .i64 (frm:Int),.int .i64 (til:Int),.string ⟨tx.toArray⟩,.int .u64 (s0:Int),.int .u64 (s1:Int),.int .u64 (s2:Int),.int .u64 (s3:Int),.int .i64 lo,.int .i64 hi'] 106)).mono (Below.step HB0.out HBw.out).size));have HK1:=qd (And.intro (A7 (p:=.cells #[.int .u8 (k:Int),.int .i64 (frm:Int),.int .i64 (til:Int),.string ⟨tx.toArray⟩,.int .u64 (s0:Int),.int .u64 (s1:Int),.int .u64 (s2:Int),.int .u64 (s3:Int),.int .i64 lo,.int .i64 hi'] 106) (Ae HBw.out HK0.out.1)) (And.intro (A7 (p:=.cells #[.int .u8 (k:Int),.int .i64 (frm:Int),.int .i64 (til:Int),.string ⟨tx.toArray⟩,.int .u64 (s0:Int),.int .u64 (s1:Int),.int .u64 (s2:Int),.int .u64 (s3:Int),.int .i64 lo,.int .i64 hi'] 106) (Ae HBw.out HK0.out.2.1)) (A7 (p:=.cells #[.int .u8 (k:Int),.int .i64 (frm:Int),.int .i64 (til:Int),.string ⟨tx.toArray⟩,.int .u64 (s0:Int),.int .u64 (s1:Int),.int .u64 (s2:Int),.int .u64 (s3:Int),.int .i64 lo,.int .i64 hi'] 106) (Ae HBw.out HK0.out.2.2))));have HX1:=qd (Ad w1 (.cells #[.int .u8 (k:Int),.int .i64 (frm:Int),.int .i64 (til:Int),.string ⟨tx.toArray⟩,.int .u64 (s0:Int),.int .u64 (s1:Int),.int .u64 (s2:Int),.int .u64 (s3:Int),.int .i64 lo,.int .i64 hi'] 106));generalize w1.heap.size=b4 at *;generalize (w1.alloc (.cells #[.int .u8 (k:Int),.int .i64 (frm:Int),.int .i64 (til:Int),.string ⟨tx.toArray⟩,.int .u64 (s0:Int),.int .u64 (s1:Int),.int .u64 (s2:Int),.int .u64 (s3:Int),.int .i64 lo,.int .i64 hi'] 106))=W1 at *;clear HB0 HK0 HBw;obtain⟨d0,d1,d2,d3,d4,d5,d6,d7,d8,d9,df⟩:=BB HX1.out;obtain⟨p0,_⟩:=Lg HK1.out.1;obtain⟨p1,q1⟩:=Lg HK1.out.2.1;obtain⟨p2,q2⟩:=Lg HK1.out.2.2;have HRW:=qd (HR.out.below HB1.out);have HSZ:=qd HB1.out.size
 have HWE:=qd (show ∀lo hi:Int,∀W2:World,PutB W2 H w.heap.size (w.heap.size+1) (w.heap.size+1+1) lo hi->Below w.heap.size w W2->RdM D (W2.setCell ⟨H,2,none⟩ (.int .i64 ((R.i:Int)+1))) B f H {R with i:=R.i+1}/\PutB (W2.setCell ⟨H,2,none⟩ (.int .i64 ((R.i:Int)+1))) H w.heap.size (w.heap.size+1) (w.heap.size+1+1) lo hi/\KeepF (fun o=>o=.box) f f w (W2.setCell ⟨H,2,none⟩ (.int .i64 ((R.i:Int)+1)))/\Below B w (W2.setCell ⟨H,2,none⟩ (.int .i64 ((R.i:Int)+1)))from fun lo hi W2 hp hb=>by
  have hs:=(HR.out.below hb).setI hD.1 (R.i+1);exact⟨hs.1,hp.setH ⟨hltH,by omega,by omega⟩,(KeepF.below hb).trans hs.2.1,(hb.mono hB).trans hs.2.2⟩)
 have HBX:=qd (show ∀W2:World,Below w.heap.size w W2->W2.cell? ⟨H,2,none⟩=some (.int .i64 (R.i:Int))/\W2.frozen? ⟨H,2,none⟩=false from fun W2 hb=>by
  obtain⟨c0,c1,c2,c3,c4,c5,c6,c7,cf⟩:=EC ((HR.out.below hb).box hD.1);exact⟨c2,cf 2⟩)
 clear HW HR HRW;by_cases h6:k=6
 ·subst h6;go_upto_region 12 with(fail)
  have HP:=qd (show PutB (W1.setCell ⟨w.heap.size+1+1,0,none⟩ (.int .i64 1)) H w.heap.size (w.heap.size+1) (w.heap.size+1+1) 0 1 from⟨(Below.heap_setCell _ _ _ _ (show w.heap.size≠w.heap.size+1+1 by omega)).trans HK1.out.1,(Below.heap_setCell _ _ _ _ (show w.heap.size+1≠w.heap.size+1+1 by omega)).trans HK1.out.2.1,Fb HK1.out.2.2⟩);have HB2:=qd (show Below w.heap.size w (W1.setCell ⟨w.heap.size+1+1,0,none⟩ (.int .i64 1))from HB1.out.setCell (p:=⟨w.heap.size+1+1,0,none⟩) (by show w.heap.size<=w.heap.size+1+1;omega) _);generalize (W1.setCell ⟨w.heap.size+1+1,0,none⟩ (.int .i64 1))=W2 at *;clear p0 p1 p2 q1 q2 d0 d1 d2 d3 d4 d5 d6 d7 d8 d9 df;obtain⟨p0,_⟩:=Lg HP.out.rd;obtain⟨c2,cf⟩:=HBX.out W2 HB2.out;go_wp2_with fail
  refine bodyPost_ret (v:=.tuple #[.func (.func 81) #[] #[.pointer (some ⟨w.heap.size,0,none⟩),.pointer (some ⟨w.heap.size+1,0,none⟩),.pointer (some ⟨w.heap.size+1+1,0,none⟩)],.bool true]) (by simp[results,Tryz.results66,go_sem]) rfl ?_;refine⟨fun hn=>by rw[HSO.out]at hn;simp at hn,fun lo' hi2 hs=> ?_⟩;rw[HSO.out]at hs;simp at hs;obtain⟨rfl,rfl⟩:=hs;exact⟨w.heap.size,w.heap.size+1,w.heap.size+1+1,rfl,(HWE.out _ _ W2 HP.out HB2.out).2.1,(HWE.out _ _ W2 HP.out HB2.out).1,(HWE.out _ _ W2 HP.out HB2.out).2.2⟩
 have n6:((k:Int)==6)=false:=by simp;omega
 by_cases h7:k=7
 ·subst h7;go_upto_region 12 with(fail)
  have HP:=qd (show PutB (W1) H w.heap.size (w.heap.size+1) (w.heap.size+1+1) 0 (-1)from⟨HK1.out.1,HK1.out.2.1,HK1.out.2.2⟩);have HB2:=qd (show Below w.heap.size w (W1)from HB1.out);generalize (W1)=W2 at *;clear p0 p1 p2 q1 q2 d0 d1 d2 d3 d4 d5 d6 d7 d8 d9 df;obtain⟨p0,_⟩:=Lg HP.out.rd;obtain⟨c2,cf⟩:=HBX.out W2 HB2.out;go_wp2_with fail
  refine bodyPost_ret (v:=.tuple #[.func (.func 81) #[] #[.pointer (some ⟨w.heap.size,0,none⟩),.pointer (some ⟨w.heap.size+1,0,none⟩),.pointer (some ⟨w.heap.size+1+1,0,none⟩)],.bool true]) (by simp[results,Tryz.results66,go_sem]) rfl ?_;refine⟨fun hn=>by rw[HSO.out]at hn;simp at hn,fun lo' hi2 hs=> ?_⟩;rw[HSO.out]at hs;simp at hs;obtain⟨rfl,rfl⟩:=hs;exact⟨w.heap.size,w.heap.size+1,w.heap.size+1+1,rfl,(HWE.out _ _ W2 HP.out HB2.out).2.1,(HWE.out _ _ W2 HP.out HB2.out).1,(HWE.out _ _ W2 HP.out HB2.out).2.2⟩
 have n7:((k:Int)==7)=false:=by simp;omega
 by_cases h8:k=8
 ·subst h8;go_upto_region 12 with(fail)
  have HP:=qd (show PutB (W1.setCell ⟨w.heap.size+1,0,none⟩ (.int .i64 1)) H w.heap.size (w.heap.size+1) (w.heap.size+1+1) 1 (-1)from⟨(Below.heap_setCell _ _ _ _ (show w.heap.size≠w.heap.size+1 by omega)).trans HK1.out.1,Fb HK1.out.2.1,(Below.heap_setCell _ _ _ _ (show w.heap.size+1+1≠w.heap.size+1 by omega)).trans HK1.out.2.2⟩);have HB2:=qd (show Below w.heap.size w (W1.setCell ⟨w.heap.size+1,0,none⟩ (.int .i64 1))from HB1.out.setCell (p:=⟨w.heap.size+1,0,none⟩) (by show w.heap.size<=w.heap.size+1;omega) _);generalize (W1.setCell ⟨w.heap.size+1,0,none⟩ (.int .i64 1))=W2 at *;clear p0 p1 p2 q1 q2 d0 d1 d2 d3 d4 d5 d6 d7 d8 d9 df;obtain⟨p0,_⟩:=Lg HP.out.rd;obtain⟨c2,cf⟩:=HBX.out W2 HB2.out;go_wp2_with fail
  refine bodyPost_ret (v:=.tuple #[.func (.func 81) #[] #[.pointer (some ⟨w.heap.size,0,none⟩),.pointer (some ⟨w.heap.size+1,0,none⟩),.pointer (some ⟨w.heap.size+1+1,0,none⟩)],.bool true]) (by simp[results,Tryz.results66,go_sem]) rfl ?_;refine⟨fun hn=>by rw[HSO.out]at hn;simp at hn,fun lo' hi2 hs=> ?_⟩;rw[HSO.out]at hs;simp at hs;obtain⟨rfl,rfl⟩:=hs;exact⟨w.heap.size,w.heap.size+1,w.heap.size+1+1,rfl,(HWE.out _ _ W2 HP.out HB2.out).2.1,(HWE.out _ _ W2 HP.out HB2.out).1,(HWE.out _ _ W2 HP.out HB2.out).2.2⟩
 have n8:((k:Int)==8)=false:=by simp;omega
 by_cases h14:k=14
 ·subst h14;go_upto_region 11 with(fail)
  go_region
  have HP:=qd (show PutB (((W1.setCell ⟨w.heap.size+1,0,none⟩ (.int .i64 lo)).setCell ⟨w.heap.size+1+1,0,none⟩ (.int .i64 hi')).drew) H w.heap.size (w.heap.size+1) (w.heap.size+1+1) lo hi' from⟨(Below.heap_setCell _ _ _ _ (show w.heap.size≠w.heap.size+1+1 by omega)).trans ((Below.heap_setCell _ _ _ _ (show w.heap.size≠w.heap.size+1 by omega)).trans HK1.out.1),(Below.heap_setCell _ _ _ _ (show w.heap.size+1≠w.heap.size+1+1 by omega)).trans (Fb HK1.out.2.1),Fb ((Below.heap_setCell _ _ _ _ (show w.heap.size+1+1≠w.heap.size+1 by omega)).trans HK1.out.2.2)⟩);have HB2:=qd (show Below w.heap.size w (((W1.setCell ⟨w.heap.size+1,0,none⟩ (.int .i64 lo)).setCell ⟨w.heap.size+1+1,0,none⟩ (.int .i64 hi')).drew)from((HB1.out.setCell (p:=⟨w.heap.size+1,0,none⟩) (by show w.heap.size<=w.heap.size+1;omega) _).setCell (p:=⟨w.heap.size+1+1,0,none⟩) (by show w.heap.size<=w.heap.size+1+1;omega) _).drew);generalize (((W1.setCell ⟨w.heap.size+1,0,none⟩ (.int .i64 lo)).setCell ⟨w.heap.size+1+1,0,none⟩ (.int .i64 hi')).drew)=W2 at *;clear p0 p1 p2 q1 q2 d0 d1 d2 d3 d4 d5 d6 d7 d8 d9 df;obtain⟨p0,_⟩:=Lg HP.out.rd;obtain⟨c2,cf⟩:=HBX.out W2 HB2.out;go_wp2_with fail
  refine bodyPost_ret (v:=.tuple #[.func (.func 81) #[] #[.pointer (some ⟨w.heap.size,0,none⟩),.pointer (some ⟨w.heap.size+1,0,none⟩),.pointer (some ⟨w.heap.size+1+1,0,none⟩)],.bool true]) (by simp[results,Tryz.results66,go_sem]) rfl ?_;refine⟨fun hn=>by rw[HSO.out]at hn;simp at hn,fun lo' hi2 hs=> ?_⟩;rw[HSO.out]at hs;simp at hs;obtain⟨rfl,rfl⟩:=hs;exact⟨w.heap.size,w.heap.size+1,w.heap.size+1+1,rfl,(HWE.out _ _ W2 HP.out HB2.out).2.1,(HWE.out _ _ W2 HP.out HB2.out).1,(HWE.out _ _ W2 HP.out HB2.out).2.2⟩
 have n14:((k:Int)==14)=false:=by simp;omega
 go_wp2_with fail
 refine bodyPost_ret (v:=.tuple #[.nilFunc,.bool false]) (by simp[results,Tryz.results66,go_sem]) rfl ?_;refine⟨fun _=>⟨rfl,HB1.out⟩,fun lo' hi2 hs=> ?_⟩;rw[HSO.out]at hs;simp[h6,h7,h8,h14]at hs
end Go.Proofs.YtdnochjajoiooaaGreatDoor
namespace Go.Proofs.YtdnochjajoiooaaGreatDoor
open Go.RowKit
set_option linter.unusedSimpArgs false
set_option linter.unusedVariables false
theorem X1 (os:List Ol) (j c:Nat) (o':Ol) (v:Value) (hj:j<os.length) (hc:c<5) (h:olL.cells o'=(olL.cells os[j]).set c v):olL.all (os.set j o')=(olL.all os).set (j*5+c) v:=by
 have hlen:∀m:List Ol,(olL.all m).length=m.length*5:=fun m=>olL.all_length m
 apply List.ext_getElem?;intro i;by_cases hi:i<os.length*5
 ·have hq:i/5<os.length:=by omega
  have h1:=olL.all_at (os.set j o') (i/5) (i%5) (by simpa using hq) (show i%5<5 by omega);have h2:=olL.all_at os (i/5) (i%5) hq (show i%5<5 by omega);rw[show i/5*olL.size+i%5=i by show i/5*5+i%5=i;omega]at h1 h2;rw[h1,List.getElem?_set];by_cases e1:i/5=j
  ·subst e1;rw[List.getElem_set_self,h,List.getElem?_set];by_cases e3:c=i%5
   ·rw[if_pos e3,if_pos (show i/5*5+c=i by omega),if_pos (by show c<5;exact hc),if_pos (by rw[hlen];omega)]
   ·rw[if_neg e3,if_neg (show ¬i/5*5+c=i by omega),h2]
  ·rw[List.getElem_set_ne (fun e=>e1 e.symm),if_neg (show ¬j*5+c=i by omega),h2]
 ·rw[List.getElem?_eq_none (by rw[hlen,List.length_set];omega),List.getElem?_eq_none (by rw[List.length_set,hlen];omega)]
theorem RdM.setOpen {D:Ow->Prop} {w:World} {B:Nat} {f:Nat->Ow} {H:Nat} {R:Rd} {g j c:Nat} {o':Ol} {v:Value} (h:RdM D w B f H R) (hD:¬D .list) (hj:j<R.os.length) (hc:c<5) (hg:R.lA=some ⟨g,0,none⟩) (hcell:olL.cells o'=(olL.cells R.os[j]).set c v)
  (hw:¬D (.ways j)->OwnF w B f (.ways j) 3 1 o'.wA o'.ways.length o'.wc (Az.all o'.ways)) (hp:¬D (.parts j)->OwnF w B f (.parts j) 3 1 o'.pA o'.parts.length o'.pc (Az.all o'.parts)) (hh:¬D (.heads j)->OwnF w B f (.heads j) 5 1 o'.hA o'.heads.length o'.hc (o'.heads.map fun k:Nat=>Value.int .u8 (k:Int))):
  RdM D (w.setCell ⟨g,j*5+c,none⟩ v) B f H {R with os:=R.os.set j o'}/\KeepF (fun o=>o=.list) f f w (w.setCell ⟨g,j*5+c,none⟩ v)/\Below B w (w.setCell ⟨g,j*5+c,none⟩ v):=by
 have hl:=h .list hD;have hfg:f g=.list:=hl.2 g (by rw[hg];rfl);have hBg:B<=g:=(Aq hl.1 g (by rw[hg];rfl)).1;have hk:KeepF (fun o=>o=.list) f f w (w.setCell ⟨g,j*5+c,none⟩ v):=KeepF.set hfg;refine⟨h.step hk (fun o ho hx=> ?_) (fun o ho hx hr=> ?_),hk,(Below.refl B w).setCell (p:=⟨g,j*5+c,none⟩) hBg _⟩
 ·subst hx;have hl1:w.ownsRow B 99 5 (.slice (some ⟨g,0,none⟩) R.os.length R.lc) R.os.length (olL.all R.os):=by have:=hl.1;rwa [hg]at this
  have h2:=(World.ownsRow.stored hl1 (j*5+c) v).1;rw[<-X1 R.os j c o' v hj hc hcell]at h2;refine⟨?_,hl.2⟩;show(w.setCell ⟨g,j*5+c,none⟩ v).ownsRow B _ 5 (.slice R.lA (R.os.set j o').length R.lc) (R.os.set j o').length _;rw[List.length_set,hg];exact h2
 ·have key:∀i (hi:i<(R.os.set j o').length),(R.os.set j o')[i]=if i=j then o' else R.os[i]'(by simpa using hi):=fun i hi=>by
   rw[List.getElem_set];by_cases e:j=i
   ·rw[if_pos e,if_pos e.symm]
   ·rw[if_neg e,if_neg (fun e'=>e e'.symm)]
  cases o with
  |list=>exact absurd rfl hx
  |box=>
   obtain⟨r1,r2,r3⟩:=hr;refine⟨?_,r2,r3⟩;have e:Rd.cells {R with os:=R.os.set j o'}=R.cells:=by simp[Rd.cells]
   rw[e];exact r1
  |ways i=>
   intro hi;have hi':i<R.os.length:=by simpa using hi
   show OwnF _ _ _ _ _ _ ((R.os.set j o')[i]).wA ((R.os.set j o')[i]).ways.length ((R.os.set j o')[i]).wc _;rw[key i hi];by_cases e:i=j
   ·subst e;simp only[if_pos];exact(hw ho).keep hk (by simp)
   ·simp only[if_neg e];exact hr hi'
  |parts i=>
   intro hi;have hi':i<R.os.length:=by simpa using hi
   show OwnF _ _ _ _ _ _ ((R.os.set j o')[i]).pA ((R.os.set j o')[i]).parts.length ((R.os.set j o')[i]).pc _;rw[key i hi];by_cases e:i=j
   ·subst e;simp only[if_pos];exact(hp ho).keep hk (by simp)
   ·simp only[if_neg e];exact hr hi'
  |heads i=>
   intro hi;have hi':i<R.os.length:=by simpa using hi
   show OwnF _ _ _ _ _ _ ((R.os.set j o')[i]).hA ((R.os.set j o')[i]).heads.length ((R.os.set j o')[i]).hc _;rw[key i hi];by_cases e:i=j
   ·subst e;simp only[if_pos];exact(hh ho).keep hk (by simp)
   ·simp only[if_neg e];exact hr hi'
  |_=>exact hr
theorem RdM.openAt {D:Ow->Prop} {w:World} {B:Nat} {f:Nat->Ow} {H:Nat} {R:Rd} (h:RdM D w B f H R) (hD:¬D .list) {j:Nat} (hj:j<R.os.length):∃g,R.lA=some ⟨g,0,none⟩/\g<w.heap.size /\
  (w.cell? ⟨g,j*5,none⟩=some (.int .u8 (R.os[j].fin:Int))/\w.cell? ⟨g,j*5+1,none⟩=some (.string ⟨R.os[j].name.toArray⟩)/\w.cell? ⟨g,j*5+2,none⟩=some (.slice R.os[j].wA R.os[j].ways.length R.os[j].wc)/\w.cell? ⟨g,j*5+3,none⟩=some (.slice R.os[j].pA R.os[j].parts.length R.os[j].pc)/\w.cell? ⟨g,j*5+4,none⟩=some (.slice R.os[j].hA R.os[j].heads.length R.os[j].hc))/\ ∀i,w.frozen? ⟨g,i,none⟩=false:=by
 have hl:=h .list hD;obtain⟨g,hg,_,hlt⟩:=BS hl.1 (by omega);have hl1:w.ownsRow B 99 5 (.slice (some ⟨g,0,none⟩) R.os.length R.lc) R.os.length (olL.all R.os):=by have:=hl.1;rwa [hg]at this
 have hc:∀c u,c<5->(olL.cells R.os[j])[c]?=some u->w.cell? ⟨g,j*5+c,none⟩=some u:=fun c u hc hu=>(World.ownsRow.cellAt hl1 (j*5+c) (by have:(j+1)*5<=R.os.length*5:=Nat.mul_le_mul_right 5 hj;omega)).trans ((olL.all_at R.os j c hj hc).trans hu)
 exact⟨g,hg,hlt,⟨hc 0 _ (by decide) rfl,hc 1 _ (by decide) rfl,hc 2 _ (by decide) rfl,hc 3 _ (by decide) rfl,hc 4 _ (by decide) rfl⟩,fun i=>World.ownsRow.frozenAt hl1 i⟩
theorem RdM.pushWays {D:Ow->Prop} {w W1 w2:World} {B:Nat} {f:Nat->Ow} {H:Nat} {R:Rd} {g j n:Nat} {V V':Option Addr} {vc':Nat} {o:Ol} {z:Int} (h:RdM D w B f H R) (hD:¬D .list/\ ¬D (.ways j)) (hj:j<R.os.length) (ho:R.os[j]=o) (hg:R.lA=some ⟨g,0,none⟩) (hb:Below w.heap.size w W1) (hV:o.wA=V) (hn:o.ways.length=n)
  (h2:w2.ownsRow B 3 1 (.slice V' (n+1) vc') (n+1) (Az.all (o.ways++[z]))) (hgr:W1.grownBy w2 (Ai V)) (hv:Ai V'=Ai V\/Ai V'=some W1.heap.size) (hB:B<=w.heap.size):
  RdM D (w2.setCell ⟨g,j*5+2,none⟩ (.slice V' (n+1) vc')) B (BD f W1.heap.size (.ways j)) H {R with os:=R.os.set j {o with wA:=V',wc:=vc',ways:=o.ways++[z]}}/\KeepF (fun x=>x=.list\/x=.ways j) f (BD f W1.heap.size (.ways j)) w (w2.setCell ⟨g,j*5+2,none⟩ (.slice V' (n+1) vc'))/\Below B w (w2.setCell ⟨g,j*5+2,none⟩ (.slice V' (n+1) vc')):=by
 subst hV hn ho;have k1:KeepF (fun x=>x=.list\/x=.ways j) f f w W1:=KeepF.below hb;have hO1:=(h (.ways j) hD.2 hj).below hb;have k2:KeepF (fun x=>x=.ways j) f (BD f W1.heap.size (.ways j)) W1 w2:=KeepF.grown hO1 rfl hgr;have h8:RdM (fun x=>D x\/x=.ways j) w2 B (BD f W1.heap.size (.ways j)) H R:=fun x hx=>((h x fun hd=>hx (.inl hd)).keep (X:=fun x=>x=.ways j) (KeepF.below hb) (fun e=>hx (.inr e))).keep k2 (fun e=>hx (.inr e))
 have h9:=RdM.setOpen (o':={R.os[j]with wA:=V',wc:=vc',ways:=R.os[j].ways++[z]}) (v:=.slice V' (R.os[j].ways.length+1) vc') h8 (fun hx=>hx.elim hD.1 (fun e=>by cases e)) hj (c:=2) (by decide) hg
  (by show[_,_,_,_,_]=_;simp[olL]) (fun hx=>absurd (.inr rfl) hx) (fun hx=>h8 (.parts j) hx hj) (fun hx=>h8 (.heads j) hx hj)
 refine⟨fun x hx=> ?_,k1.trans ((k2.mono fun _ e=>.inr e).trans (h9.2.1.mono fun _ e=>.inl e)),((hb.mono hB).grown hgr (Nat.le_trans hB hb.size) (fun k hk=>(Aq hO1.1 k hk).1)).trans h9.2.2⟩;by_cases e:x=.ways j
 ·subst e;intro hjj;have h10:=(OwnF.grown hO1 (V':=V') (n':=R.os[j].ways.length+1) (c':=vc') h2 hv).keep h9.2.1 (by simp);simp only[List.getElem_set_self,List.length_append,List.length_cons,List.length_nil,Nat.zero_add];exact h10
 ·exact h9.1 x (fun hd=>hd.elim hx e)
theorem RdM.pushParts {D:Ow->Prop} {w W1 w2:World} {B:Nat} {f:Nat->Ow} {H:Nat} {R:Rd} {g j n:Nat} {V V':Option Addr} {vc':Nat} {o:Ol} {z:Int} (h:RdM D w B f H R) (hD:¬D .list/\ ¬D (.parts j)) (hj:j<R.os.length) (ho:R.os[j]=o) (hg:R.lA=some ⟨g,0,none⟩) (hb:Below w.heap.size w W1) (hV:o.pA=V) (hn:o.parts.length=n)
  (h2:w2.ownsRow B 3 1 (.slice V' (n+1) vc') (n+1) (Az.all (o.parts++[z]))) (hgr:W1.grownBy w2 (Ai V)) (hv:Ai V'=Ai V\/Ai V'=some W1.heap.size) (hB:B<=w.heap.size):
  RdM D (w2.setCell ⟨g,j*5+3,none⟩ (.slice V' (n+1) vc')) B (BD f W1.heap.size (.parts j)) H {R with os:=R.os.set j {o with pA:=V',pc:=vc',parts:=o.parts++[z]}}/\KeepF (fun x=>x=.list\/x=.parts j) f (BD f W1.heap.size (.parts j)) w (w2.setCell ⟨g,j*5+3,none⟩ (.slice V' (n+1) vc'))/\Below B w (w2.setCell ⟨g,j*5+3,none⟩ (.slice V' (n+1) vc')):=by
 subst hV hn ho;have k1:KeepF (fun x=>x=.list\/x=.parts j) f f w W1:=KeepF.below hb;have hO1:=(h (.parts j) hD.2 hj).below hb;have k2:KeepF (fun x=>x=.parts j) f (BD f W1.heap.size (.parts j)) W1 w2:=KeepF.grown hO1 rfl hgr;have h8:RdM (fun x=>D x\/x=.parts j) w2 B (BD f W1.heap.size (.parts j)) H R:=fun x hx=>((h x fun hd=>hx (.inl hd)).keep (X:=fun x=>x=.parts j) (KeepF.below hb) (fun e=>hx (.inr e))).keep k2 (fun e=>hx (.inr e))
 have h9:=RdM.setOpen (o':={R.os[j]with pA:=V',pc:=vc',parts:=R.os[j].parts++[z]}) (v:=.slice V' (R.os[j].parts.length+1) vc') h8 (fun hx=>hx.elim hD.1 (fun e=>by cases e)) hj (c:=3) (by decide) hg
  (by show[_,_,_,_,_]=_;simp[olL]) (fun hx=>h8 (.ways j) hx hj) (fun hx=>absurd (.inr rfl) hx) (fun hx=>h8 (.heads j) hx hj)
 refine⟨fun x hx=> ?_,k1.trans ((k2.mono fun _ e=>.inr e).trans (h9.2.1.mono fun _ e=>.inl e)),((hb.mono hB).grown hgr (Nat.le_trans hB hb.size) (fun k hk=>(Aq hO1.1 k hk).1)).trans h9.2.2⟩;by_cases e:x=.parts j
 ·subst e;intro hjj;have h10:=(OwnF.grown hO1 (V':=V') (n':=R.os[j].parts.length+1) (c':=vc') h2 hv).keep h9.2.1 (by simp);simp only[List.getElem_set_self,List.length_append,List.length_cons,List.length_nil,Nat.zero_add];exact h10
 ·exact h9.1 x (fun hd=>hd.elim hx e)
theorem RdM.pushHeads {D:Ow->Prop} {w W1 w2:World} {B:Nat} {f:Nat->Ow} {H:Nat} {R:Rd} {g j n:Nat} {V V':Option Addr} {vc':Nat} {o:Ol} {z:Nat} (h:RdM D w B f H R) (hD:¬D .list/\ ¬D (.heads j)) (hj:j<R.os.length) (ho:R.os[j]=o) (hg:R.lA=some ⟨g,0,none⟩) (hb:Below w.heap.size w W1) (hV:o.hA=V) (hn:o.heads.length=n)
  (h2:w2.ownsRow B 5 1 (.slice V' (n+1) vc') (n+1) ((o.heads++[z]).map fun k:Nat=>Value.int .u8 (k:Int))) (hgr:W1.grownBy w2 (Ai V)) (hv:Ai V'=Ai V\/Ai V'=some W1.heap.size) (hB:B<=w.heap.size):
  RdM D (w2.setCell ⟨g,j*5+4,none⟩ (.slice V' (n+1) vc')) B (BD f W1.heap.size (.heads j)) H {R with os:=R.os.set j {o with hA:=V',hc:=vc',heads:=o.heads++[z]}}/\KeepF (fun x=>x=.list\/x=.heads j) f (BD f W1.heap.size (.heads j)) w (w2.setCell ⟨g,j*5+4,none⟩ (.slice V' (n+1) vc'))/\Below B w (w2.setCell ⟨g,j*5+4,none⟩ (.slice V' (n+1) vc')):=by
 subst hV hn ho;have k1:KeepF (fun x=>x=.list\/x=.heads j) f f w W1:=KeepF.below hb;have hO1:=(h (.heads j) hD.2 hj).below hb;have k2:KeepF (fun x=>x=.heads j) f (BD f W1.heap.size (.heads j)) W1 w2:=KeepF.grown hO1 rfl hgr;have h8:RdM (fun x=>D x\/x=.heads j) w2 B (BD f W1.heap.size (.heads j)) H R:=fun x hx=>((h x fun hd=>hx (.inl hd)).keep (X:=fun x=>x=.heads j) (KeepF.below hb) (fun e=>hx (.inr e))).keep k2 (fun e=>hx (.inr e))
 have h9:=RdM.setOpen (o':={R.os[j]with hA:=V',hc:=vc',heads:=R.os[j].heads++[z]}) (v:=.slice V' (R.os[j].heads.length+1) vc') h8 (fun hx=>hx.elim hD.1 (fun e=>by cases e)) hj (c:=4) (by decide) hg
  (by show[_,_,_,_,_]=_;simp[olL]) (fun hx=>h8 (.ways j) hx hj) (fun hx=>h8 (.parts j) hx hj) (fun hx=>absurd (.inr rfl) hx)
 refine⟨fun x hx=> ?_,k1.trans ((k2.mono fun _ e=>.inr e).trans (h9.2.1.mono fun _ e=>.inl e)),((hb.mono hB).grown hgr (Nat.le_trans hB hb.size) (fun k hk=>(Aq hO1.1 k hk).1)).trans h9.2.2⟩;by_cases e:x=.heads j
 ·subst e;intro hjj;have h10:=(OwnF.grown hO1 (V':=V') (n':=R.os[j].heads.length+1) (c':=vc') h2 hv).keep h9.2.1 (by simp);simp only[List.getElem_set_self,List.length_append,List.length_cons,List.length_nil,Nat.zero_add];exact h10
 ·exact h9.1 x (fun hd=>hd.elim hx e)
end Go.Proofs.YtdnochjajoiooaaGreatDoor
