/- The contracts of set.Or, set.Not, set.Range, set.All. -/
import Derived.Test.YtpfokabdpmjobaaGreatDoorLb
import Derived.StillTailTactics
import Derived.Laws.Bits64b
import Derived.Deep.DeepCutAuto
import Derived.Deep.Cut
import Derived.Deep.CutRange
namespace Go.Proofs.YtpfokabdpmjobaaGreatDoor
open Go.RowKit
set_option linter.unusedSimpArgs false
set_option linter.unusedVariables false
def setV (f:Nat→Bool):Value:=.agg #[.int .u64 (wordF f 0:Int),.int .u64 (wordF f 1:Int),.int .u64 (wordF f 2:Int),.int .u64 (wordF f 3:Int)]
theorem setV_eq (f:Nat→Bool):setV f=.agg #[.int .u64 (wordF f 0:Int),.int .u64 (wordF f 1:Int),.int .u64 (wordF f 2:Int),.int .u64 (wordF f 3:Int)]:=rfl
abbrev fourC (x0 x1 x2 x3:Nat):Array Value:= #[.int .u64 (x0:Int),.int .u64 (x1:Int),.int .u64 (x2:Int),.int .u64 (x3:Int)]
def mixN (f h:Nat→Bool) (k j:Nat):Nat:=if j<k then wordF h j else wordF f j
theorem or_words (f g:Nat→Bool) (i:Nat):bits BinOp.or IntKind.u64 (wordF f i:Int) (wordF g i:Int)=((wordF (fun k=>f k||g k) i:Nat):Int):=by
 rw[bits_or_u64_nat _ _ (wordF_lt f i) (wordF_lt g i),wordF_or]
theorem not_words (f:Nat→Bool) (i:Nat):bits BinOp.xor IntKind.u64 (if IntKind.u64.signed=true then -1 else IntKind.u64.max) (wordF f i:Int)=((wordF (fun k=> !f k) i:Nat):Int):=by
 rw[show(if IntKind.u64.signed=true then(-1:Int)else IntKind.u64.max)=((18446744073709551615:Nat):Int)from by kernel_rfl,bits_xor_u64_nat _ _ (by omega) (wordF_lt f i),wordF_not]
def OrRel (f g:Nat→Bool) (w:World) (i:Value) (wr:World):Prop:=
 ∃k:Nat,k≤4∧i=.int .i64 k∧Hid (wr.heap[w.heap.size]?=some (.cells (fourC (mixN f (fun k=>f k||g k) k 0) (mixN f (fun k=>f k||g k) k 1) (mixN f (fun k=>f k||g k) k 2) (mixN f (fun k=>f k||g k) k 3)) 30 (0,0))) ∧
  Hid (wr.heap[w.heap.size+2]?=some (.cells #[.int .u64 0,.int .u64 0,.int .u64 0,.int .u64 0] 30 (0,0)))∧Hid (Below w.heap.size w wr)
set_option maxRecDepth 100000 in
set_option maxHeartbeats 1600000 in
theorem or_any (f g:Nat→Bool) (w:World):
  Calls Tryz.prog 147 #[setV f,setV g] w fun e w'=>e=.returned (setV (fun k=>f k||g k))∧Below w.heap.size w w':=by
 rw[setV_eq f,setV_eq g]
 have HO0:=Lib.hid (or_words f g 0);have HO1:=Lib.hid (or_words f g 1);have HO2:=Lib.hid (or_words f g 2);have HO3:=Lib.hid (or_words f g 3)
 go_enter Tryz.func147,Tryz.ntmps147
 go_wp2_with fail
 go_loopw [8] (fun i wr=>OrRel f g w i wr) (fun i _=>4-(intOf i).toNat)
 case atStart=>
  refine⟨0,Nat.zero_le _,rfl,Lib.hid ?_,Lib.hid ?_,Lib.hid (bx3 w _ _ _)⟩
  ·exact(Below.heap_alloc _ _ _ (by simp;omega)).trans ((Below.heap_alloc _ _ _ (by simp)).trans (bx_new w _))
  ·have h1:=bx_new ((w.alloc (.cells (fourC (wordF f 0) (wordF f 1) (wordF f 2) (wordF f 3)) 30)).alloc (.cells (fourC (wordF g 0) (wordF g 1) (wordF g 2) (wordF g 3)) 30)) (.cells #[.int .u64 0,.int .u64 0,.int .u64 0,.int .u64 0] 30)
   simpa using h1
 case round=>
  obtain⟨k,hk,rfl,HB0,HB1,HB⟩:=hrel
  obtain⟨b0,b1,b2,b3,bf⟩:=blk4 HB0.out
  obtain⟨d0,d1,d2,d3,df⟩:=blk4 HB1.out
  have f0:=bf 0;have f1:=bf 1;have f2:=bf 2;have f3:=bf 3
  have g0:=df 0;have g1:=df 1;have g2:=df 2;have g3:=df 3
  have HN:=Lib.hid (show ∀(j:Nat) (u:Value),(wr.setCell ⟨w.heap.size,j,none⟩ u).heap[w.heap.size+2]?=some (.cells #[.int .u64 0,.int .u64 0,.int .u64 0,.int .u64 0] 30 (0,0))from fun j u=>(Below.heap_setCell _ _ _ _ (by show w.heap.size+2≠w.heap.size;omega)).trans HB1.out)
  have HS:=Lib.hid (show ∀(j:Nat) (u:Value),Below w.heap.size w (wr.setCell ⟨w.heap.size,j,none⟩ u)from fun j u=>HB.out.setCell (p:=⟨w.heap.size,j,none⟩) (Nat.le_refl _) u)
  clear bf df
  have i0:=word0 (.int .u64 (wordF g 0)) (.int .u64 (wordF g 1)) (.int .u64 (wordF g 2)) (.int .u64 (wordF g 3));have i1:=word1 (.int .u64 (wordF g 0)) (.int .u64 (wordF g 1)) (.int .u64 (wordF g 2)) (.int .u64 (wordF g 3));have i2:=word2 (.int .u64 (wordF g 0)) (.int .u64 (wordF g 1)) (.int .u64 (wordF g 2)) (.int .u64 (wordF g 3));have i3:=word3 (.int .u64 (wordF g 0)) (.int .u64 (wordF g 1)) (.int .u64 (wordF g 2)) (.int .u64 (wordF g 3))
  generalize hz:(k:Int)=z
  obtain⟨rfl,rfl⟩|⟨rfl,rfl⟩|⟨rfl,rfl⟩|⟨rfl,rfl⟩|⟨rfl,rfl⟩:(k=0∧z=0)∨(k=1∧z=1)∨(k=2∧z=2)∨(k=3∧z=3)∨(k=4∧z=4):=by omega
  ·simp only[mixN,Nat.not_lt_zero,if_false]at b0
   go_wp2_with fail
   rw[HO0.out]
   exact⟨⟨1,by omega,rfl,Lib.hid (by have h:=heap_setCell_same wr w.heap.size 0 _ 30 (.int .u64 ((wordF (fun k=>f k||g k) 0:Nat):Int)) HB0.out;simpa[mixN]using h),Lib.hid (HN.out 0 _),Lib.hid (HS.out 0 _)⟩,by simp only[intOf];decide⟩
  ·simp only[mixN,Nat.lt_irrefl,if_false]at b1
   go_wp2_with fail
   rw[HO1.out]
   exact⟨⟨2,by omega,rfl,Lib.hid (by have h:=heap_setCell_same wr w.heap.size 1 _ 30 (.int .u64 ((wordF (fun k=>f k||g k) 1:Nat):Int)) HB0.out;simpa[mixN]using h),Lib.hid (HN.out 1 _),Lib.hid (HS.out 1 _)⟩,by simp only[intOf];decide⟩
  ·simp only[mixN,Nat.lt_irrefl,if_false]at b2
   go_wp2_with fail
   rw[HO2.out]
   exact⟨⟨3,by omega,rfl,Lib.hid (by have h:=heap_setCell_same wr w.heap.size 2 _ 30 (.int .u64 ((wordF (fun k=>f k||g k) 2:Nat):Int)) HB0.out;simpa[mixN]using h),Lib.hid (HN.out 2 _),Lib.hid (HS.out 2 _)⟩,by simp only[intOf];decide⟩
  ·simp only[mixN,Nat.lt_irrefl,if_false]at b3
   go_wp2_with fail
   rw[HO3.out]
   exact⟨⟨4,by omega,rfl,Lib.hid (by have h:=heap_setCell_same wr w.heap.size 3 _ 30 (.int .u64 ((wordF (fun k=>f k||g k) 3:Nat):Int)) HB0.out;simpa[mixN]using h),Lib.hid (HN.out 3 _),Lib.hid (HS.out 3 _)⟩,by simp only[intOf];decide⟩
  ·clear b0 b1 b2 b3
   have HX:=Lib.hid (setV_eq (fun k=>f k||g k))
   obtain⟨b0,b1,b2,b3,_⟩:=blk4 (show wr.heap[w.heap.size]?=some (.cells (fourC (wordF (fun k=>f k||g k) 0) (wordF (fun k=>f k||g k) 1) (wordF (fun k=>f k||g k) 2) (wordF (fun k=>f k||g k) 3)) 30 (0,0))from by simpa[mixN]using HB0.out)
   generalize wordF (fun k=>f k||g k) 0=x0 at *
   generalize wordF (fun k=>f k||g k) 1=x1 at *
   generalize wordF (fun k=>f k||g k) 2=x2 at *
   generalize wordF (fun k=>f k||g k) 3=x3 at *
   go_wp2_with fail
   have hbe:Below w.heap.size w ((((wr.setCell ⟨w.heap.size+2,0,none⟩ (.int .u64 x0)).setCell ⟨w.heap.size+2,1,none⟩ (.int .u64 x1)).setCell ⟨w.heap.size+2,2,none⟩ (.int .u64 x2)).setCell ⟨w.heap.size+2,3,none⟩ (.int .u64 x3)):=(((HB.out.setCell (p:=⟨w.heap.size+2,0,none⟩) (by simp) _).setCell (p:=⟨w.heap.size+2,1,none⟩) (by simp) _).setCell (p:=⟨w.heap.size+2,2,none⟩) (by simp) _).setCell (p:=⟨w.heap.size+2,3,none⟩) (by simp) _
   have e0:=heap_setCell_same wr (w.heap.size+2) 0 _ 30 (.int .u64 x0) HB1.out
   have e1:=heap_setCell_same _ (w.heap.size+2) 1 _ 30 (.int .u64 x1) e0
   have e2:=heap_setCell_same _ (w.heap.size+2) 2 _ 30 (.int .u64 x2) e1
   have e3:=heap_setCell_same _ (w.heap.size+2) 3 _ 30 (.int .u64 x3) e2
   obtain⟨s0,s1,s2,s3,_⟩:=blk4 (x0:=.int .u64 x0) (x1:=.int .u64 x1) (x2:=.int .u64 x2) (x3:=.int .u64 x3) (by simpa using e3)
   refine bodyPost_ret (v:=.agg (fourC x0 x1 x2 x3)) (by simp[results,Tryz.results147,go_sem,s0,s1,s2,s3]) rfl ⟨by rw[HX.out],hbe⟩
def NotRl (f:Nat→Bool) (w:World) (i:Value) (wr:World):Prop:=
 ∃k:Nat,k≤4∧i=.int .i64 k∧Hid (wr.heap[w.heap.size]?=some (.cells (fourC (mixN f (fun k=> !f k) k 0) (mixN f (fun k=> !f k) k 1) (mixN f (fun k=> !f k) k 2) (mixN f (fun k=> !f k) k 3)) 30 (0,0))) ∧
  Hid (wr.heap[w.heap.size+1]?=some (.cells #[.int .u64 0,.int .u64 0,.int .u64 0,.int .u64 0] 30 (0,0)))∧Hid (Below w.heap.size w wr)
set_option maxRecDepth 100000 in
set_option maxHeartbeats 1600000 in
theorem snot_any (f:Nat→Bool) (w:World):
  Calls Tryz.prog 59 #[setV f] w fun e w'=>e=.returned (setV (fun k=> !f k))∧Below w.heap.size w w':=by
 rw[setV_eq f]
 have HO0:=Lib.hid (not_words f 0);have HO1:=Lib.hid (not_words f 1);have HO2:=Lib.hid (not_words f 2);have HO3:=Lib.hid (not_words f 3)
 go_enter Tryz.func59,Tryz.ntmps59
 go_wp2_with fail
 go_loopw [6] (fun i wr=>NotRl f w i wr) (fun i _=>4-(intOf i).toNat)
 case atStart=>
  refine⟨0,Nat.zero_le _,rfl,Lib.hid ?_,Lib.hid ?_,Lib.hid (bx2 w _ _)⟩
  ·exact(Below.heap_alloc _ _ _ (by simp)).trans (bx_new w _)
  ·have h1:=bx_new (w.alloc (.cells (fourC (wordF f 0) (wordF f 1) (wordF f 2) (wordF f 3)) 30)) (.cells #[.int .u64 0,.int .u64 0,.int .u64 0,.int .u64 0] 30)
   simpa using h1
 case round=>
  obtain⟨k,hk,rfl,HB0,HB1,HB⟩:=hrel
  obtain⟨b0,b1,b2,b3,bf⟩:=blk4 HB0.out
  obtain⟨d0,d1,d2,d3,df⟩:=blk4 HB1.out
  have f0:=bf 0;have f1:=bf 1;have f2:=bf 2;have f3:=bf 3
  have g0:=df 0;have g1:=df 1;have g2:=df 2;have g3:=df 3
  have HN:=Lib.hid (show ∀(j:Nat) (u:Value),(wr.setCell ⟨w.heap.size,j,none⟩ u).heap[w.heap.size+1]?=some (.cells #[.int .u64 0,.int .u64 0,.int .u64 0,.int .u64 0] 30 (0,0))from fun j u=>(Below.heap_setCell _ _ _ _ (by show w.heap.size+1≠w.heap.size;omega)).trans HB1.out)
  have HS:=Lib.hid (show ∀(j:Nat) (u:Value),Below w.heap.size w (wr.setCell ⟨w.heap.size,j,none⟩ u)from fun j u=>HB.out.setCell (p:=⟨w.heap.size,j,none⟩) (Nat.le_refl _) u)
  clear bf df
  have i0:=word0 (.int .u64 (wordF f 0)) (.int .u64 (wordF f 1)) (.int .u64 (wordF f 2)) (.int .u64 (wordF f 3));have i1:=word1 (.int .u64 (wordF f 0)) (.int .u64 (wordF f 1)) (.int .u64 (wordF f 2)) (.int .u64 (wordF f 3));have i2:=word2 (.int .u64 (wordF f 0)) (.int .u64 (wordF f 1)) (.int .u64 (wordF f 2)) (.int .u64 (wordF f 3));have i3:=word3 (.int .u64 (wordF f 0)) (.int .u64 (wordF f 1)) (.int .u64 (wordF f 2)) (.int .u64 (wordF f 3))
  generalize hz:(k:Int)=z
  obtain⟨rfl,rfl⟩|⟨rfl,rfl⟩|⟨rfl,rfl⟩|⟨rfl,rfl⟩|⟨rfl,rfl⟩:(k=0∧z=0)∨(k=1∧z=1)∨(k=2∧z=2)∨(k=3∧z=3)∨(k=4∧z=4):=by omega
  ·simp only[mixN,Nat.not_lt_zero,if_false]at b0
   go_wp2_with fail
   rw[HO0.out]
   exact⟨⟨1,by omega,rfl,Lib.hid (by have h:=heap_setCell_same wr w.heap.size 0 _ 30 (.int .u64 ((wordF (fun k=> !f k) 0:Nat):Int)) HB0.out;simpa[mixN]using h),Lib.hid (HN.out 0 _),Lib.hid (HS.out 0 _)⟩,by simp only[intOf];decide⟩
  ·simp only[mixN,Nat.lt_irrefl,if_false]at b1
   go_wp2_with fail
   rw[HO1.out]
   exact⟨⟨2,by omega,rfl,Lib.hid (by have h:=heap_setCell_same wr w.heap.size 1 _ 30 (.int .u64 ((wordF (fun k=> !f k) 1:Nat):Int)) HB0.out;simpa[mixN]using h),Lib.hid (HN.out 1 _),Lib.hid (HS.out 1 _)⟩,by simp only[intOf];decide⟩
  ·simp only[mixN,Nat.lt_irrefl,if_false]at b2
   go_wp2_with fail
   rw[HO2.out]
   exact⟨⟨3,by omega,rfl,Lib.hid (by have h:=heap_setCell_same wr w.heap.size 2 _ 30 (.int .u64 ((wordF (fun k=> !f k) 2:Nat):Int)) HB0.out;simpa[mixN]using h),Lib.hid (HN.out 2 _),Lib.hid (HS.out 2 _)⟩,by simp only[intOf];decide⟩
  ·simp only[mixN,Nat.lt_irrefl,if_false]at b3
   go_wp2_with fail
   rw[HO3.out]
   exact⟨⟨4,by omega,rfl,Lib.hid (by have h:=heap_setCell_same wr w.heap.size 3 _ 30 (.int .u64 ((wordF (fun k=> !f k) 3:Nat):Int)) HB0.out;simpa[mixN]using h),Lib.hid (HN.out 3 _),Lib.hid (HS.out 3 _)⟩,by simp only[intOf];decide⟩
  ·clear b0 b1 b2 b3
   have HX:=Lib.hid (setV_eq (fun k=> !f k))
   obtain⟨b0,b1,b2,b3,_⟩:=blk4 (show wr.heap[w.heap.size]?=some (.cells (fourC (wordF (fun k=> !f k) 0) (wordF (fun k=> !f k) 1) (wordF (fun k=> !f k) 2) (wordF (fun k=> !f k) 3)) 30 (0,0))from by simpa[mixN]using HB0.out)
   generalize wordF (fun k=> !f k) 0=x0 at *
   generalize wordF (fun k=> !f k) 1=x1 at *
   generalize wordF (fun k=> !f k) 2=x2 at *
   generalize wordF (fun k=> !f k) 3=x3 at *
   go_wp2_with fail
   have hbe:Below w.heap.size w ((((wr.setCell ⟨w.heap.size+1,0,none⟩ (.int .u64 x0)).setCell ⟨w.heap.size+1,1,none⟩ (.int .u64 x1)).setCell ⟨w.heap.size+1,2,none⟩ (.int .u64 x2)).setCell ⟨w.heap.size+1,3,none⟩ (.int .u64 x3)):=(((HB.out.setCell (p:=⟨w.heap.size+1,0,none⟩) (by simp) _).setCell (p:=⟨w.heap.size+1,1,none⟩) (by simp) _).setCell (p:=⟨w.heap.size+1,2,none⟩) (by simp) _).setCell (p:=⟨w.heap.size+1,3,none⟩) (by simp) _
   have e0:=heap_setCell_same wr (w.heap.size+1) 0 _ 30 (.int .u64 x0) HB1.out
   have e1:=heap_setCell_same _ (w.heap.size+1) 1 _ 30 (.int .u64 x1) e0
   have e2:=heap_setCell_same _ (w.heap.size+1) 2 _ 30 (.int .u64 x2) e1
   have e3:=heap_setCell_same _ (w.heap.size+1) 3 _ 30 (.int .u64 x3) e2
   obtain⟨s0,s1,s2,s3,_⟩:=blk4 (x0:=.int .u64 x0) (x1:=.int .u64 x1) (x2:=.int .u64 x2) (x3:=.int .u64 x3) (by simpa using e3)
   refine bodyPost_ret (v:=.agg (fourC x0 x1 x2 x3)) (by simp[results,Tryz.results59,go_sem,s0,s1,s2,s3]) rfl ⟨by rw[HX.out],hbe⟩
def belowF (a k:Nat):Nat→Bool:=fun x=>decide (a≤x∧x<k)
theorem fourSet (f:Nat→Bool) (k:Nat) (x:Nat) (hk:k<4):(fourC (wordF f 0) (wordF f 1) (wordF f 2) (wordF f 3)).setIfInBounds k (.int .u64 (x:Int))=fourC (if k=0 then x else wordF f 0) (if k=1 then x else wordF f 1) (if k=2 then x else wordF f 2) (if k=3 then x else wordF f 3):=by
 obtain rfl|rfl|rfl|rfl:k=0∨k=1∨k=2∨k=3:=by omega
 all_goals rfl
theorem below_same {a k q m i:Nat} (hk:k=q*64+m) (hm:m<64) (hi:i≠q):wordF (belowF a (k+1)) i=wordF (belowF a k) i:=wordF_congr fun j hj=>by
 unfold belowF
 have:i*64+j≠k:=fun e=>hi (by omega)
 rw[Bool.eq_iff_iff,decide_eq_true_eq,decide_eq_true_eq];omega
theorem below_next {a k q m:Nat} (hk:k=q*64+m) (hm:m<64) (ha:a≤k):bits BinOp.or IntKind.u64 ((wordF (belowF a k) q:Nat):Int) (IntKind.u64.wrap (2^m))=((wordF (belowF a (k+1)) q:Nat):Int):=by
 have h2:2^m<2^64:=Nat.pow_lt_pow_right (by decide) hm
 have e:IntKind.u64.wrap ((2:Int)^m)=((2^m:Nat):Int):=by
  have e0:((2:Int)^m)=((2^m:Nat):Int):=by norm_cast
  rw[e0,IntKind.wrap_u64]
  generalize 2^m=z at *
  omega
 rw[e,bits_or_u64_nat _ _ (wordF_lt _ _) (by simpa using h2),wordF_one _ _ _ hm]
 congr 1
 refine wordF_congr fun j hj=> ?_
 unfold belowF
 rw[Bool.eq_iff_iff,Bool.or_eq_true,decide_eq_true_eq,decide_eq_true_eq,decide_eq_true_eq];omega
set_option maxRecDepth 100000 in
set_option maxHeartbeats 1600000 in
theorem range_any (a b:UInt8) (w:World):
  Calls Tryz.prog 35 #[u8V a,u8V b] w fun e w'=>e=.returned (setV (rngF a.toNat b.toNat))∧Below w.heap.size w w':=by
 have ha:=a.toNat_lt;have hb:=b.toNat_lt
 go_enter Tryz.func35,Tryz.ntmps35
 go_wp2_with fail
 go_loopw [6] (fun i wr=>∃k:Nat,a.toNat≤k∧(k≤b.toNat+1∨k=a.toNat)∧i=.int .i64 (k:Int)∧Hid (wr.heap[w.heap.size+1]?=some (.cells (fourC (wordF (belowF a.toNat k) 0) (wordF (belowF a.toNat k) 1) (wordF (belowF a.toNat k) 2) (wordF (belowF a.toNat k) 3)) 30 (0,0))) ∧
  Hid (wr.heap[w.heap.size]?=some (.cells #[.int .u64 0,.int .u64 0,.int .u64 0,.int .u64 0] 30 (0,0)))∧Hid (Below w.heap.size w wr)) (fun i _=>256-(intOf i).toNat)
 case atStart=>
  refine⟨a.toNat,Nat.le_refl _,.inr rfl,rfl,Lib.hid ?_,Lib.hid ((Below.heap_alloc _ _ _ (by simp)).trans (bx_new w _)),Lib.hid (bx2 w _ _)⟩
  have h1:=bx_new (w.alloc (.cells #[.int .u64 0,.int .u64 0,.int .u64 0,.int .u64 0] 30)) (.cells #[.int .u64 0,.int .u64 0,.int .u64 0,.int .u64 0] 30)
  have e:belowF a.toNat a.toNat=fun _=>false:=by funext x;unfold belowF;simp
  rw[e,wordF_none,wordF_none,wordF_none,wordF_none]
  rw[World.size_alloc]at h1
  exact h1
 case round=>
  obtain⟨k,hk1,hk2,rfl,HB1,HB0,HB⟩:=hrel
  by_cases hlt:k≤b.toNat
  ·have i1:(k:Int)≤(b.toNat:Int):=by omega
   obtain⟨q,m,hq,hm,hkm⟩:∃q m:Nat,q<4∧m<64∧k=q*64+m:=⟨k/64,k%64,by omega,by omega,by omega⟩
   have e1:IntKind.i64.wrap ((k:Int)/64)=(q:Int):=by rw[IntKind.wrap_i64];omega
   have e2:(k:Int).tmod 64=(m:Int):=by rw[Int.tmod_eq_emod_of_nonneg (by omega)];omega
   have e3:=below_next hkm hm hk1
   have HFS:=Lib.hid (show(fourC (wordF (belowF a.toNat k) 0) (wordF (belowF a.toNat k) 1) (wordF (belowF a.toNat k) 2) (wordF (belowF a.toNat k) 3)).setIfInBounds q (.int .u64 ((wordF (belowF a.toNat (k+1)) q:Nat):Int))=fourC (wordF (belowF a.toNat (k+1)) 0) (wordF (belowF a.toNat (k+1)) 1) (wordF (belowF a.toNat (k+1)) 2) (wordF (belowF a.toNat (k+1)) 3)from by
    have hs:=fun i (hi:i≠q)=>below_same (a:=a.toNat) hkm hm hi
    rw[fourSet _ _ _ hq]
    obtain rfl|rfl|rfl|rfl:q=0∨q=1∨q=2∨q=3:=by omega
    ·rw[hs 1 (by omega),hs 2 (by omega),hs 3 (by omega)];simp
    ·rw[hs 0 (by omega),hs 2 (by omega),hs 3 (by omega)];simp
    ·rw[hs 0 (by omega),hs 1 (by omega),hs 3 (by omega)];simp
    ·rw[hs 0 (by omega),hs 1 (by omega),hs 2 (by omega)];simp)
   have HKM:=Lib.hid hkm;clear hkm
   have hc:wr.cell? ⟨w.heap.size+1,q,none⟩=some (.int .u64 ((wordF (belowF a.toNat k) q:Nat):Int)):=by
    obtain⟨b0,b1,b2,b3,_⟩:=blk4 HB1.out
    obtain rfl|rfl|rfl|rfl:q=0∨q=1∨q=2∨q=3:=by omega
    all_goals assumption
   have hf:wr.drew.frozen? ⟨w.heap.size+1,q,none⟩=false:=by
    have h:(fun w':World=>w'.frozen? ⟨w.heap.size+1,q,none⟩) wr=false:=by simp[World.frozen?,HB1.out]
    exact h
   have hc2:wr.drew.cell? ⟨w.heap.size+1,q,none⟩=some (.int .u64 ((wordF (belowF a.toNat k) q:Nat):Int)):=hc
   have q0:(0:Int)≤(q:Int):=by omega
   have q1:(q:Int)<4:=by omega
   have m0:(0:Int)≤(m:Int):=by omega
   have m1:(m:Int)<64:=by omega
   go_upto_region 5 with(fail)
   go_still_tail 9,(by kernel_rfl)
   change wpList _ _ _ _ _ wr.drew
   go_wp2_with fail
   refine⟨⟨k+1,by omega,by omega,by go_num,Lib.hid ?_,Lib.hid ?_,Lib.hid (HB.out.drew.setCell (p:=⟨w.heap.size+1,q,none⟩) (by simp) _)⟩,by simp only[intOf];omega⟩
   ·have h:=heap_setCell_same wr.drew (w.heap.size+1) q _ 30 (.int .u64 ((wordF (belowF a.toNat (k+1)) q:Nat):Int)) HB1.out
    rw[HFS.out]at h
    exact h
   ·exact(Below.heap_setCell _ _ _ _ (by show w.heap.size≠w.heap.size+1;omega)).trans HB0.out
  ·have hX:∀i,wordF (belowF a.toNat k) i=wordF (rngF a.toNat b.toNat) i:=fun i=>wordF_congr fun j hj=>by
    unfold belowF rngF
    rw[Bool.eq_iff_iff,decide_eq_true_eq,decide_eq_true_eq];omega
   have i1:¬(k:Int)≤(b.toNat:Int):=by omega
   rw[hX 0,hX 1,hX 2,hX 3]at HB1
   have HX:=Lib.hid (setV_eq (rngF a.toNat b.toNat))
   obtain⟨b0,b1,b2,b3,_⟩:=blk4 HB1.out
   obtain⟨d0,d1,d2,d3,df⟩:=blk4 HB0.out
   have g0:=df 0;have g1:=df 1;have g2:=df 2;have g3:=df 3
   clear df hX
   generalize wordF (rngF a.toNat b.toNat) 0=x0 at *
   generalize wordF (rngF a.toNat b.toNat) 1=x1 at *
   generalize wordF (rngF a.toNat b.toNat) 2=x2 at *
   generalize wordF (rngF a.toNat b.toNat) 3=x3 at *
   go_wp2_with fail
   have hbe:Below w.heap.size w ((((wr.setCell ⟨w.heap.size,0,none⟩ (.int .u64 x0)).setCell ⟨w.heap.size,1,none⟩ (.int .u64 x1)).setCell ⟨w.heap.size,2,none⟩ (.int .u64 x2)).setCell ⟨w.heap.size,3,none⟩ (.int .u64 x3)):=(((HB.out.setCell (p:=⟨w.heap.size,0,none⟩) (by simp) _).setCell (p:=⟨w.heap.size,1,none⟩) (by simp) _).setCell (p:=⟨w.heap.size,2,none⟩) (by simp) _).setCell (p:=⟨w.heap.size,3,none⟩) (by simp) _
   have e0:=heap_setCell_same wr w.heap.size 0 _ 30 (.int .u64 x0) HB0.out
   have e1:=heap_setCell_same _ w.heap.size 1 _ 30 (.int .u64 x1) e0
   have e2:=heap_setCell_same _ w.heap.size 2 _ 30 (.int .u64 x2) e1
   have e3:=heap_setCell_same _ w.heap.size 3 _ 30 (.int .u64 x3) e2
   obtain⟨s0,s1,s2,s3,_⟩:=blk4 (x0:=.int .u64 x0) (x1:=.int .u64 x1) (x2:=.int .u64 x2) (x3:=.int .u64 x3) (by simpa using e3)
   refine bodyPost_ret (v:=.agg (fourC x0 x1 x2 x3)) (by simp[results,Tryz.results35,go_sem,s0,s1,s2,s3]) rfl ⟨by rw[HX.out],hbe⟩
theorem sall_any (w:World):Calls Tryz.prog 32 #[] w fun e w'=>e=.returned (setV fun _=>true)∧Below w.heap.size w w':=by
 refine(all_any w).mono ?_
 rintro e w' ⟨rfl,hb⟩
 refine⟨?_,hb⟩
 rw[setV_eq,wordF_full,wordF_full,wordF_full,wordF_full];rfl
end Go.Proofs.YtpfokabdpmjobaaGreatDoor
