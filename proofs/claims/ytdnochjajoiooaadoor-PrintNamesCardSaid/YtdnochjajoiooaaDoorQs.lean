/- The contracts of set.Not of nothing, and of set.All. -/
import Derived.Test.YtdnochjajoiooaaDoorQb
import Derived.Test.YtdnochjajoiooaaDoorQm
import Derived.Test.YtdnochjajoiooaaDoorShelf
namespace Go.Proofs.YtdnochjajoiooaaDoor
open Go.RowKit
set_option linter.unusedSimpArgs false
set_option linter.unusedVariables false
theorem word0 (x0 x1 x2 x3:Value):∀w,(Instr.index 31 (.agg #[x0,x1,x2,x3]) (.int .i64 0)).run Tryd.prog w=.ok x0 w:=fun _=>by kernel_rfl
theorem word1 (x0 x1 x2 x3:Value):∀w,(Instr.index 31 (.agg #[x0,x1,x2,x3]) (.int .i64 1)).run Tryd.prog w=.ok x1 w:=fun _=>by kernel_rfl
theorem word2 (x0 x1 x2 x3:Value):∀w,(Instr.index 31 (.agg #[x0,x1,x2,x3]) (.int .i64 2)).run Tryd.prog w=.ok x2 w:=fun _=>by kernel_rfl
theorem word3 (x0 x1 x2 x3:Value):∀w,(Instr.index 31 (.agg #[x0,x1,x2,x3]) (.int .i64 3)).run Tryd.prog w=.ok x3 w:=fun _=>by kernel_rfl
abbrev ones:Value:=.int .u64 18446744073709551615
theorem xor0:bits BinOp.xor IntKind.u64 (if IntKind.u64.signed=true then -1 else IntKind.u64.max) 0=18446744073709551615:=by kernel_rfl
def notC (k j:Nat):Value:=if j<k then ones else .int .u64 0
def NotRel (w:World) (i:Value) (wr:World):Prop:=
 ∃k:Nat,k≤4∧i=.int .i64 k∧Hid (wr.heap[w.heap.size]?=some (.cells #[notC k 0,notC k 1,notC k 2,notC k 3] 31 (0,0)))∧Hid (wr.heap[w.heap.size+1]?=some (.cells #[.int .u64 0,.int .u64 0,.int .u64 0,.int .u64 0] 31 (0,0)))∧Hid (Below w.heap.size w wr)
set_option maxRecDepth 100000 in
set_option maxHeartbeats 1600000 in
theorem not_zero (w:World):
  Calls Tryd.prog 86 #[.agg #[.int .u64 0,.int .u64 0,.int .u64 0,.int .u64 0]] w fun e w'=>e=.returned (.agg #[ones,ones,ones,ones])∧Below w.heap.size w w':=by
 go_enter Tryd.func86,Tryd.ntmps86
 go_wp2_with fail
 go_loopw [6] (fun i wr=>NotRel w i wr) (fun i _=>4-(intOf i).toNat)
 case atStart=>
  have h1:=bx_new (w.alloc (.cells #[.int .u64 0,.int .u64 0,.int .u64 0,.int .u64 0] 31)) (.cells #[.int .u64 0,.int .u64 0,.int .u64 0,.int .u64 0] 31)
  rw[World.size_alloc]at h1
  exact⟨0,Nat.zero_le _,rfl,Lib.hid ((Below.heap_alloc _ _ _ (by simp)).trans (bx_new w _)),Lib.hid h1,Lib.hid (bx2 w _ _)⟩
 case round=>
  obtain⟨k,hk,rfl,HB0,HB1,HB⟩:=hrel
  obtain⟨b0,b1,b2,b3,bf⟩:=blk4 HB0.out
  obtain⟨d0,d1,d2,d3,df⟩:=blk4 HB1.out
  have f0:=bf 0;have f1:=bf 1;have f2:=bf 2;have f3:=bf 3
  have g0:=df 0;have g1:=df 1;have g2:=df 2;have g3:=df 3
  have HN:=Lib.hid (show ∀(j:Nat) (u:Value),(wr.setCell ⟨w.heap.size,j,none⟩ u).heap[w.heap.size+1]?=some (.cells #[.int .u64 0,.int .u64 0,.int .u64 0,.int .u64 0] 31 (0,0))from fun j u=>(Below.heap_setCell _ _ _ _ (by show w.heap.size+1≠w.heap.size;omega)).trans HB1.out)
  have HS:=Lib.hid (show ∀(j:Nat) (u:Value),Below w.heap.size w (wr.setCell ⟨w.heap.size,j,none⟩ u)from fun j u=>HB.out.setCell (p:=⟨w.heap.size,j,none⟩) (Nat.le_refl _) u)
  clear bf df
  have i0:=word0 (.int .u64 0) (.int .u64 0) (.int .u64 0) (.int .u64 0);have i1:=word1 (.int .u64 0) (.int .u64 0) (.int .u64 0) (.int .u64 0);have i2:=word2 (.int .u64 0) (.int .u64 0) (.int .u64 0) (.int .u64 0);have i3:=word3 (.int .u64 0) (.int .u64 0) (.int .u64 0) (.int .u64 0)
  generalize hz:(k:Int)=z
  obtain⟨rfl,rfl⟩|⟨rfl,rfl⟩|⟨rfl,rfl⟩|⟨rfl,rfl⟩|⟨rfl,rfl⟩:(k=0∧z=0)∨(k=1∧z=1)∨(k=2∧z=2)∨(k=3∧z=3)∨(k=4∧z=4):=by omega
  ·go_wp2_with fail
   rw[xor0]
   exact⟨⟨1,by omega,rfl,Lib.hid (by have h:=heap_setCell_same wr w.heap.size 0 _ 31 ones HB0.out;simpa[notC]using h),Lib.hid (HN.out 0 _),Lib.hid (HS.out 0 _)⟩,by simp only[intOf];decide⟩
  ·go_wp2_with fail
   rw[xor0]
   exact⟨⟨2,by omega,rfl,Lib.hid (by have h:=heap_setCell_same wr w.heap.size 1 _ 31 ones HB0.out;simpa[notC]using h),Lib.hid (HN.out 1 _),Lib.hid (HS.out 1 _)⟩,by simp only[intOf];decide⟩
  ·go_wp2_with fail
   rw[xor0]
   exact⟨⟨3,by omega,rfl,Lib.hid (by have h:=heap_setCell_same wr w.heap.size 2 _ 31 ones HB0.out;simpa[notC]using h),Lib.hid (HN.out 2 _),Lib.hid (HS.out 2 _)⟩,by simp only[intOf];decide⟩
  ·go_wp2_with fail
   rw[xor0]
   exact⟨⟨4,by omega,rfl,Lib.hid (by have h:=heap_setCell_same wr w.heap.size 3 _ 31 ones HB0.out;simpa[notC]using h),Lib.hid (HN.out 3 _),Lib.hid (HS.out 3 _)⟩,by simp only[intOf];decide⟩
  ·clear b0 b1 b2 b3
   obtain⟨b0,b1,b2,b3,_⟩:=blk4 (show wr.heap[w.heap.size]?=some (.cells #[ones,ones,ones,ones] 31 (0,0))from by simpa[notC]using HB0.out)
   go_wp2_with fail
   have hbe:Below w.heap.size w ((((wr.setCell ⟨w.heap.size+1,0,none⟩ ones).setCell ⟨w.heap.size+1,1,none⟩ ones).setCell ⟨w.heap.size+1,2,none⟩ ones).setCell ⟨w.heap.size+1,3,none⟩ ones):=(((HB.out.setCell (p:=⟨w.heap.size+1,0,none⟩) (Nat.le_succ _) _).setCell (p:=⟨w.heap.size+1,1,none⟩) (Nat.le_succ _) _).setCell (p:=⟨w.heap.size+1,2,none⟩) (Nat.le_succ _) _).setCell (p:=⟨w.heap.size+1,3,none⟩) (Nat.le_succ _) _
   have e0:=heap_setCell_same wr (w.heap.size+1) 0 _ 31 ones HB1.out
   have e1:=heap_setCell_same _ (w.heap.size+1) 1 _ 31 ones e0
   have e2:=heap_setCell_same _ (w.heap.size+1) 2 _ 31 ones e1
   have e3:=heap_setCell_same _ (w.heap.size+1) 3 _ 31 ones e2
   obtain⟨s0,s1,s2,s3,_⟩:=blk4 (x0:=ones) (x1:=ones) (x2:=ones) (x3:=ones) (by simpa using e3)
   refine bodyPost_ret (v:=.agg #[ones,ones,ones,ones]) (by simp[results,Tryd.results86,go_sem,s0,s1,s2,s3]) rfl ⟨rfl,hbe⟩
set_option maxRecDepth 100000 in
set_option maxHeartbeats 1600000 in
theorem all_any (w:World):
  Calls Tryd.prog 74 #[] w fun e w'=>e=.returned (.agg #[ones,ones,ones,ones])∧Below w.heap.size w w':=by
 have HB0:=Lib.hid (bx1 w (.cells #[.int .u64 0,.int .u64 0,.int .u64 0,.int .u64 0] 31))
 have HK0:=Lib.hid (bx_new w (.cells #[.int .u64 0,.int .u64 0,.int .u64 0,.int .u64 0] 31))
 go_enter Tryd.func74,Tryd.ntmps74
 go_wp2_with fail
 refine(not_zero _).mono ?_
 rintro e w1 ⟨rfl,hb⟩
 have HK1:=Lib.hid (bx_kept hb HK0.out);have HB1:=Lib.hid (Below.step HB0.out hb)
 obtain⟨b0,b1,b2,b3,bf⟩:=blk4 HK1.out
 have f0:=bf 0;have f1:=bf 1;have f2:=bf 2;have f3:=bf 3
 clear bf hb
 go_wp2_with fail
 have hbe:Below w.heap.size w ((((w1.setCell ⟨w.heap.size,0,none⟩ ones).setCell ⟨w.heap.size,1,none⟩ ones).setCell ⟨w.heap.size,2,none⟩ ones).setCell ⟨w.heap.size,3,none⟩ ones):=(((HB1.out.setCell (p:=⟨w.heap.size,0,none⟩) (Nat.le_refl _) _).setCell (p:=⟨w.heap.size,1,none⟩) (Nat.le_refl _) _).setCell (p:=⟨w.heap.size,2,none⟩) (Nat.le_refl _) _).setCell (p:=⟨w.heap.size,3,none⟩) (Nat.le_refl _) _
 have e0:=heap_setCell_same w1 w.heap.size 0 _ 31 ones HK1.out
 have e1:=heap_setCell_same _ w.heap.size 1 _ 31 ones e0
 have e2:=heap_setCell_same _ w.heap.size 2 _ 31 ones e1
 have e3:=heap_setCell_same _ w.heap.size 3 _ 31 ones e2
 obtain⟨s0,s1,s2,s3,_⟩:=blk4 (x0:=ones) (x1:=ones) (x2:=ones) (x3:=ones) (by simpa using e3)
 refine bodyPost_ret (v:=.agg #[ones,ones,ones,ones]) (by simp[results,Tryd.results74,go_sem,s0,s1,s2,s3]) rfl ⟨rfl,hbe⟩
end Go.Proofs.YtdnochjajoiooaaDoor
