/- The contracts of bonsairef02's Letter, digit, Take. The contracts of set.Not of nothing, and of set.All. Plain laws of sets of bytes, as four words; no program in sight. The contracts of set.Or, set.Not, set.Range, set.All. -/
import Derived.Test.YtdnochjajoiooaaGreatDoorCu
import Derived.Test.YtdnochjajoiooaaGreatDoorQb
import Derived.Test.YtdnochjajoiooaaGreatDoorQm
import Derived.Test.YtdnochjajoiooaaGreatDoorShelf
import Derived.Test.YtdnochjajoiooaaGreatDoorLa
import Derived.Test.YtdnochjajoiooaaGreatDoorLb
import Derived.StillTailTactics
import Derived.Laws.Bits64b
import Derived.Deep.DeepCutAuto
import Derived.Deep.Cut
import Derived.Deep.CutRange
namespace Go.Proofs.YtdnochjajoiooaaGreatDoor
open Go.RowKit
set_option maxHeartbeats 400000 in
theorem F0 (b:Int) (w:World):
  Calls Tryz.prog 99 #[.int .u8 b] w fun e w'=>e=.returned (.bool (AO b))/\w=w':=by
 go_enter Tryz.func99,Tryz.ntmps99
 go_wp2
 all_goals (go_ret;exact⟨Aj (by unfold AO;rw[Bool.eq_iff_iff];simp;omega),rfl⟩)
set_option maxHeartbeats 400000 in
theorem L9 (b:Int) (w:World):
  Calls Tryz.prog 100 #[.int .u8 b] w fun e w'=>e=.returned (.bool (Dt b))/\w=w':=by
 go_enter Tryz.func100,Tryz.ntmps100
 go_wp2
 all_goals (go_ret;exact⟨Aj (by unfold Dt;rw[Bool.eq_iff_iff];simp;omega),rfl⟩)
set_option maxHeartbeats 400000 in
theorem Tu (s:ByteArray) (w:World) (hs:s.size<=281474976710656):
  Calls Tryz.prog 84 #[.string s] w fun e w'=>∃t:ByteArray,e=.returned (.string t)/\t.data.toList=B0 s.data.toList/\w=w':=by
 by_cases h0:0<s.size
 ·have⟨e1,e2⟩:=Bb s h0;cases hl:AO s[0].toNat
  ·have HT:=qd (Hc s h0 hl);go_enter Tryz.func84,Tryz.ntmps84
   go_wp2_with (first|(go_at_call 99;refine(F0 _ _).mono ?_;rintro e w' ⟨rfl,rfl⟩))
   go_ret;exact⟨_,rfl,HT.out.symm,rfl⟩
  ·have HT:=qd (Jl s h0 hl);go_enter Tryz.func84,Tryz.ntmps84
   go_wp2_with (first|(go_at_call 99;refine(F0 _ _).mono ?_;rintro e w' ⟨rfl,rfl⟩))
   go_loop [3] (fun n=>∃k:Nat,k<=s.size/\n=.int .i64 k/\B0 s.data.toList=s.data.toList.take k++(s.data.toList.drop k).takeWhile Ce) (fun n=>s.size-(intOf n).toNat)
   case atStart=>exact⟨0,by omega,rfl,by rw[HT.out,List.drop_zero];conv=>{rhs;arg 2;rw[Du s h0]};simp[Ce,hl]⟩
   case round=>
    obtain⟨k,hk,rfl,hT⟩:=hrel;have HK:=qd hT;clear hT;by_cases hlt:k<s.size
    ·go_wp2_with (first|(go_at_call 99;refine(F0 _ _).mono ?_;rintro e w' ⟨rfl,rfl⟩)|(go_at_call 100;refine(L9 _ _).mono ?_;rintro e w' ⟨rfl,rfl⟩))
     ·refine⟨⟨k+1,by omega,by go_num,?_⟩,by simp[intOf];omega⟩;rw[HK.out,Et s k hlt (by simp[Ce, *])]
     ·refine⟨⟨k+1,by omega,by go_num,?_⟩,by simp[intOf];omega⟩;rw[HK.out,Et s k hlt (by simp[Ce, *])]
     ·have HF:=qd (Jm s k hlt (by simp[Ce, *]));go_ret;exact⟨_,rfl,by rw[HK.out,HF.out,Lib.extract_data];simp,rfl⟩
    ·have HF:=qd (Io s k (by omega));go_wp2_with (first|(go_at_call 99;refine(F0 _ _).mono ?_;rintro e w' ⟨rfl,rfl⟩)|(go_at_call 100;refine(L9 _ _).mono ?_;rintro e w' ⟨rfl,rfl⟩))
     go_ret;exact⟨_,rfl,by rw[HK.out,HF.out,Lib.extract_data];simp,rfl⟩
 ·have⟨e1,e2,e3⟩:=AH s h0;go_enter Tryz.func84,Tryz.ntmps84
  go_wp2_with fail
  go_ret;exact⟨_,rfl,by rw[e3];rfl,rfl⟩
set_option linter.unusedSimpArgs false
set_option linter.unusedVariables false
theorem RH (x0 x1 x2 x3:Value):∀w,(Instr.index 39 (.agg #[x0,x1,x2,x3]) (.int .i64 0)).run Tryz.prog w=.ok x0 w:=fun _=>by kernel_rfl
theorem RI (x0 x1 x2 x3:Value):∀w,(Instr.index 39 (.agg #[x0,x1,x2,x3]) (.int .i64 1)).run Tryz.prog w=.ok x1 w:=fun _=>by kernel_rfl
theorem RJ (x0 x1 x2 x3:Value):∀w,(Instr.index 39 (.agg #[x0,x1,x2,x3]) (.int .i64 2)).run Tryz.prog w=.ok x2 w:=fun _=>by kernel_rfl
theorem RK (x0 x1 x2 x3:Value):∀w,(Instr.index 39 (.agg #[x0,x1,x2,x3]) (.int .i64 3)).run Tryz.prog w=.ok x3 w:=fun _=>by kernel_rfl
abbrev Ca:Value:=.int .u64 18446744073709551615
theorem WN:bits BinOp.xor IntKind.u64 (if IntKind.u64.signed=true then -1 else IntKind.u64.max) 0=18446744073709551615:=by kernel_rfl
def NJ (k j:Nat):Value:=if j<k then Ca else .int .u64 0
def X4 (w:World) (i:Value) (wr:World):Prop:=
 ∃k:Nat,k<=4/\i=.int .i64 k/\Hid (wr.heap[w.heap.size]?=some (.cells #[NJ k 0,NJ k 1,NJ k 2,NJ k 3] 39 (0,0)))/\Hid (wr.heap[w.heap.size+1]?=some (.cells #[.int .u64 0,.int .u64 0,.int .u64 0,.int .u64 0] 39 (0,0)))/\Hid (Below w.heap.size w wr)
set_option maxRecDepth 100000 in
set_option maxHeartbeats 1600000 in
theorem Vj (w:World):
  Calls Tryz.prog 76 #[.agg #[.int .u64 0,.int .u64 0,.int .u64 0,.int .u64 0]] w fun e w'=>e=.returned (.agg #[Ca,Ca,Ca,Ca])/\Below w.heap.size w w':=by
 go_enter Tryz.func76,Tryz.ntmps76
 go_wp2_with fail
 go_loopw [6] (fun i wr=>X4 w i wr) (fun i _=>4-(intOf i).toNat)
 case atStart=>
  have h1:=Ad (w.alloc (.cells #[.int .u64 0,.int .u64 0,.int .u64 0,.int .u64 0] 39)) (.cells #[.int .u64 0,.int .u64 0,.int .u64 0,.int .u64 0] 39);rw[World.size_alloc]at h1;exact⟨0,Nat.zero_le _,rfl,qd ((Below.heap_alloc _ _ _ (by simp)).trans (Ad w _)),qd h1,qd (bx2 w _ _)⟩
 case round=>
  obtain⟨k,hk,rfl,HB0,HB1,HB⟩:=hrel;obtain⟨b0,b1,b2,b3,bf⟩:=DK HB0.out;obtain⟨d0,d1,d2,d3,df⟩:=DK HB1.out;have f0:=bf 0;have f1:=bf 1;have f2:=bf 2;have f3:=bf 3;have g0:=df 0;have g1:=df 1;have g2:=df 2;have g3:=df 3;have HN:=qd (show ∀(j:Nat) (u:Value),(wr.setCell ⟨w.heap.size,j,none⟩ u).heap[w.heap.size+1]?=some (.cells #[.int .u64 0,.int .u64 0,.int .u64 0,.int .u64 0] 39 (0,0))from fun j u=>(Below.heap_setCell _ _ _ _ (by show w.heap.size+1≠w.heap.size;omega)).trans HB1.out);have HS:=qd (show ∀(j:Nat) (u:Value),Below w.heap.size w (wr.setCell ⟨w.heap.size,j,none⟩ u)from fun j u=>HB.out.setCell (p:=⟨w.heap.size,j,none⟩) (Nat.le_refl _) u);clear bf df;have i0:=RH (.int .u64 0) (.int .u64 0) (.int .u64 0) (.int .u64 0);have i1:=RI (.int .u64 0) (.int .u64 0) (.int .u64 0) (.int .u64 0);have i2:=RJ (.int .u64 0) (.int .u64 0) (.int .u64 0) (.int .u64 0);have i3:=RK (.int .u64 0) (.int .u64 0) (.int .u64 0) (.int .u64 0);generalize hz:(k:Int)=z;obtain⟨rfl,rfl⟩|⟨rfl,rfl⟩|⟨rfl,rfl⟩|⟨rfl,rfl⟩|⟨rfl,rfl⟩:(k=0/\z=0)\/(k=1/\z=1)\/(k=2/\z=2)\/(k=3/\z=3)\/(k=4/\z=4):=by omega
  ·go_wp2_with fail
   rw[WN];exact⟨⟨1,by omega,rfl,qd (by have h:=heap_setCell_same wr w.heap.size 0 _ 39 Ca HB0.out;simpa[NJ]using h),qd (HN.out 0 _),qd (HS.out 0 _)⟩,by simp only[intOf];decide⟩
  ·go_wp2_with fail
   rw[WN];exact⟨⟨2,by omega,rfl,qd (by have h:=heap_setCell_same wr w.heap.size 1 _ 39 Ca HB0.out;simpa[NJ]using h),qd (HN.out 1 _),qd (HS.out 1 _)⟩,by simp only[intOf];decide⟩
  ·go_wp2_with fail
   rw[WN];exact⟨⟨3,by omega,rfl,qd (by have h:=heap_setCell_same wr w.heap.size 2 _ 39 Ca HB0.out;simpa[NJ]using h),qd (HN.out 2 _),qd (HS.out 2 _)⟩,by simp only[intOf];decide⟩
  ·go_wp2_with fail
   rw[WN];exact⟨⟨4,by omega,rfl,qd (by have h:=heap_setCell_same wr w.heap.size 3 _ 39 Ca HB0.out;simpa[NJ]using h),qd (HN.out 3 _),qd (HS.out 3 _)⟩,by simp only[intOf];decide⟩
  ·clear b0 b1 b2 b3;obtain⟨b0,b1,b2,b3,_⟩:=DK (show wr.heap[w.heap.size]?=some (.cells #[Ca,Ca,Ca,Ca] 39 (0,0))from by simpa[NJ]using HB0.out);go_wp2_with fail
   have hbe:Below w.heap.size w ((((wr.setCell ⟨w.heap.size+1,0,none⟩ Ca).setCell ⟨w.heap.size+1,1,none⟩ Ca).setCell ⟨w.heap.size+1,2,none⟩ Ca).setCell ⟨w.heap.size+1,3,none⟩ Ca):=(((HB.out.setCell (p:=⟨w.heap.size+1,0,none⟩) (Nat.le_succ _) _).setCell (p:=⟨w.heap.size+1,1,none⟩) (Nat.le_succ _) _).setCell (p:=⟨w.heap.size+1,2,none⟩) (Nat.le_succ _) _).setCell (p:=⟨w.heap.size+1,3,none⟩) (Nat.le_succ _) _;have e0:=heap_setCell_same wr (w.heap.size+1) 0 _ 39 Ca HB1.out;have e1:=heap_setCell_same _ (w.heap.size+1) 1 _ 39 Ca e0;have e2:=heap_setCell_same _ (w.heap.size+1) 2 _ 39 Ca e1;have e3:=heap_setCell_same _ (w.heap.size+1) 3 _ 39 Ca e2;obtain⟨s0,s1,s2,s3,_⟩:=DK (x0:=Ca) (x1:=Ca) (x2:=Ca) (x3:=Ca) (by simpa using e3);refine bodyPost_ret (v:=.agg #[Ca,Ca,Ca,Ca]) (by simp[results,Tryz.results76,go_sem,s0,s1,s2,s3]) rfl ⟨rfl,hbe⟩
set_option maxRecDepth 100000 in
set_option maxHeartbeats 1600000 in
theorem RL (w:World):
  Calls Tryz.prog 63 #[] w fun e w'=>e=.returned (.agg #[Ca,Ca,Ca,Ca])/\Below w.heap.size w w':=by
 have HB0:=qd (bx1 w (.cells #[.int .u64 0,.int .u64 0,.int .u64 0,.int .u64 0] 39));have HK0:=qd (Ad w (.cells #[.int .u64 0,.int .u64 0,.int .u64 0,.int .u64 0] 39));go_enter Tryz.func63,Tryz.ntmps63
 go_wp2_with fail
 refine(Vj _).mono ?_;rintro e w1 ⟨rfl,hb⟩;have HK1:=qd (Ae hb HK0.out);have HB1:=qd (Below.step HB0.out hb);obtain⟨b0,b1,b2,b3,bf⟩:=DK HK1.out;have f0:=bf 0;have f1:=bf 1;have f2:=bf 2;have f3:=bf 3;clear bf hb;go_wp2_with fail
 have hbe:Below w.heap.size w ((((w1.setCell ⟨w.heap.size,0,none⟩ Ca).setCell ⟨w.heap.size,1,none⟩ Ca).setCell ⟨w.heap.size,2,none⟩ Ca).setCell ⟨w.heap.size,3,none⟩ Ca):=(((HB1.out.setCell (p:=⟨w.heap.size,0,none⟩) (Nat.le_refl _) _).setCell (p:=⟨w.heap.size,1,none⟩) (Nat.le_refl _) _).setCell (p:=⟨w.heap.size,2,none⟩) (Nat.le_refl _) _).setCell (p:=⟨w.heap.size,3,none⟩) (Nat.le_refl _) _;have e0:=heap_setCell_same w1 w.heap.size 0 _ 39 Ca HK1.out;have e1:=heap_setCell_same _ w.heap.size 1 _ 39 Ca e0;have e2:=heap_setCell_same _ w.heap.size 2 _ 39 Ca e1;have e3:=heap_setCell_same _ w.heap.size 3 _ 39 Ca e2;obtain⟨s0,s1,s2,s3,_⟩:=DK (x0:=Ca) (x1:=Ca) (x2:=Ca) (x3:=Ca) (by simpa using e3);refine bodyPost_ret (v:=.agg #[Ca,Ca,Ca,Ca]) (by simp[results,Tryz.results63,go_sem,s0,s1,s2,s3]) rfl ⟨rfl,hbe⟩
theorem LB (f:Nat->Bool) (i:Nat):∀n,IY f i n<2^n
 |0=>by simp[IY]
 |n+1=>by
  have:=LB f i n;simp only[IY,Nat.pow_succ];split <;> omega
theorem MY (f:Nat->Bool) (i:Nat):∀n j,(IY f i n).testBit j=(decide (j<n)&&f (i*64+j))
 |0,j=>by simp[IY]
 |n+1,j=>by
  have h:=LB f i n;have ih:=MY f i n;simp only[IY];by_cases hf:f (i*64+n)
  ·rw[if_pos hf,Nat.add_comm];rcases Nat.lt_trichotomy j n with hj|rfl|hj
   ·rw[Nat.testBit_two_pow_add_gt hj,ih j];simp[hj,Nat.lt_succ_of_lt hj]
   ·rw[Nat.testBit_two_pow_add_eq,Nat.testBit_lt_two_pow h];simp[hf]
   ·have h1:2^n+IY f i n<2^j:=by
     have:2^(n+1)<=2^j:=Nat.pow_le_pow_right (by decide) hj;rw[Nat.pow_succ]at this;omega
    rw[Nat.testBit_lt_two_pow h1];have:¬j<n+1:=by omega
    simp[this]
  ·rw[if_neg hf,Nat.add_zero,ih j];by_cases hj:j=n
   ·subst hj;simp[hf]
   ·have:(j<n)=(j<n+1):=by apply propext;omega
    simp[this]
theorem E4 (f:Nat->Bool) (i:Nat):Af f i<18446744073709551616:=LB f i 64
theorem Cp (f:Nat->Bool) (i j:Nat):(Af f i).testBit j=(decide (j<64)&&f (i*64+j)):=MY f i 64 j
theorem Vk (f g:Nat->Bool) (i:Nat):Af f i ||| Af g i=Af (fun k=>f k||g k) i:=Nat.eq_of_testBit_eq fun j=>by
 rw[Nat.testBit_or,Cp,Cp,Cp];cases decide (j<64) <;> simp
theorem Tv (f:Nat->Bool) (i:Nat):18446744073709551615 ^^^ Af f i=Af (fun k=> !f k) i:=Nat.eq_of_testBit_eq fun j=>by
 rw[Nat.testBit_xor,Cp,Cp,show(18446744073709551615:Nat)=2^64-1 from rfl,Nat.testBit_two_pow_sub_one];cases decide (j<64) <;> simp
theorem GY {f g:Nat->Bool} {i:Nat} (h:∀j,j<64->f (i*64+j)=g (i*64+j)):Af f i=Af g i:=Nat.eq_of_testBit_eq fun j=>by
 rw[Cp,Cp];by_cases hj:j<64
 ·simp[hj,h j hj]
 ·simp[hj]
theorem Tw (f:Nat->Bool) (i q:Nat) (hq:q<64):Af f i ||| 2^q=Af (fun k=>f k||decide (k=i*64+q)) i:=Nat.eq_of_testBit_eq fun j=>by
 rw[Nat.testBit_or,Cp,Cp,Nat.testBit_two_pow];by_cases hj:j=q
 ·subst hj;simp[hq]
 ·have:¬q=j:=fun e=>hj e.symm
  simp[hj,this]
theorem Ba (i:Nat):Af (fun _=>false) i=0:=Nat.eq_of_testBit_eq fun j=>by rw[Cp];simp
theorem BV (i:Nat):Af (fun _=>true) i=18446744073709551615:=Nat.eq_of_testBit_eq fun j=>by
 rw[Cp,show(18446744073709551615:Nat)=2^64-1 from rfl,Nat.testBit_two_pow_sub_one];simp
def GZ (a b:Nat):Nat->Bool:=fun k=>decide (a<=k/\k<=b)
theorem Mj (l:List (UInt8×UInt8)) (a b:UInt8):Bu (l++[(a,b)])=fun k=>Bu l k||GZ a.toNat b.toNat k:=by
 funext k;simp[Bu,GZ]
def Ky (f:Nat->Bool):Value:=.agg #[.int .u64 (Af f 0:Int),.int .u64 (Af f 1:Int),.int .u64 (Af f 2:Int),.int .u64 (Af f 3:Int)]
theorem Dq (f:Nat->Bool):Ky f=.agg #[.int .u64 (Af f 0:Int),.int .u64 (Af f 1:Int),.int .u64 (Af f 2:Int),.int .u64 (Af f 3:Int)]:=rfl
abbrev CK (x0 x1 x2 x3:Nat):Array Value:= #[.int .u64 (x0:Int),.int .u64 (x1:Int),.int .u64 (x2:Int),.int .u64 (x3:Int)]
def E5 (f h:Nat->Bool) (k j:Nat):Nat:=if j<k then Af h j else Af f j
theorem Jf (f g:Nat->Bool) (i:Nat):bits BinOp.or IntKind.u64 (Af f i:Int) (Af g i:Int)=((Af (fun k=>f k||g k) i:Nat):Int):=by
 rw[bits_or_u64_nat _ _ (E4 f i) (E4 g i),Vk]
theorem Hv (f:Nat->Bool) (i:Nat):bits BinOp.xor IntKind.u64 (if IntKind.u64.signed=true then -1 else IntKind.u64.max) (Af f i:Int)=((Af (fun k=> !f k) i:Nat):Int):=by
 rw[show(if IntKind.u64.signed=true then(-1:Int)else IntKind.u64.max)=((18446744073709551615:Nat):Int)from by kernel_rfl,bits_xor_u64_nat _ _ (by omega) (E4 f i),Tv]
def Yf (f g:Nat->Bool) (w:World) (i:Value) (wr:World):Prop:=
 ∃k:Nat,k<=4/\i=.int .i64 k/\Hid (wr.heap[w.heap.size]?=some (.cells (CK (E5 f (fun k=>f k||g k) k 0) (E5 f (fun k=>f k||g k) k 1) (E5 f (fun k=>f k||g k) k 2) (E5 f (fun k=>f k||g k) k 3)) 39 (0,0))) /\
  Hid (wr.heap[w.heap.size+2]?=some (.cells #[.int .u64 0,.int .u64 0,.int .u64 0,.int .u64 0] 39 (0,0)))/\Hid (Below w.heap.size w wr)
set_option maxRecDepth 100000 in
set_option maxHeartbeats 1600000 in
theorem X5 (f g:Nat->Bool) (w:World):
  Calls Tryz.prog 124 #[Ky f,Ky g] w fun e w'=>e=.returned (Ky (fun k=>f k||g k))/\Below w.heap.size w w':=by
 rw[Dq f,Dq g];have HO0:=qd (Jf f g 0);have HO1:=qd (Jf f g 1);have HO2:=qd (Jf f g 2);have HO3:=qd (Jf f g 3);go_enter Tryz.func124,Tryz.ntmps124
 go_wp2_with fail
 go_loopw [8] (fun i wr=>Yf f g w i wr) (fun i _=>4-(intOf i).toNat)
 case atStart=>
  refine⟨0,Nat.zero_le _,rfl,qd ?_,qd ?_,qd (bx3 w _ _ _)⟩
  ·exact(Below.heap_alloc _ _ _ (by simp;omega)).trans ((Below.heap_alloc _ _ _ (by simp)).trans (Ad w _))
  ·have h1:=Ad ((w.alloc (.cells (CK (Af f 0) (Af f 1) (Af f 2) (Af f 3)) 39)).alloc (.cells (CK (Af g 0) (Af g 1) (Af g 2) (Af g 3)) 39)) (.cells #[.int .u64 0,.int .u64 0,.int .u64 0,.int .u64 0] 39);simpa using h1
 case round=>
  obtain⟨k,hk,rfl,HB0,HB1,HB⟩:=hrel;obtain⟨b0,b1,b2,b3,bf⟩:=DK HB0.out;obtain⟨d0,d1,d2,d3,df⟩:=DK HB1.out;have f0:=bf 0;have f1:=bf 1;have f2:=bf 2;have f3:=bf 3;have g0:=df 0;have g1:=df 1;have g2:=df 2;have g3:=df 3;have HN:=qd (show ∀(j:Nat) (u:Value),(wr.setCell ⟨w.heap.size,j,none⟩ u).heap[w.heap.size+2]?=some (.cells #[.int .u64 0,.int .u64 0,.int .u64 0,.int .u64 0] 39 (0,0))from fun j u=>(Below.heap_setCell _ _ _ _ (by show w.heap.size+2≠w.heap.size;omega)).trans HB1.out);have HS:=qd (show ∀(j:Nat) (u:Value),Below w.heap.size w (wr.setCell ⟨w.heap.size,j,none⟩ u)from fun j u=>HB.out.setCell (p:=⟨w.heap.size,j,none⟩) (Nat.le_refl _) u);clear bf df;have i0:=RH (.int .u64 (Af g 0)) (.int .u64 (Af g 1)) (.int .u64 (Af g 2)) (.int .u64 (Af g 3));have i1:=RI (.int .u64 (Af g 0)) (.int .u64 (Af g 1)) (.int .u64 (Af g 2)) (.int .u64 (Af g 3));have i2:=RJ (.int .u64 (Af g 0)) (.int .u64 (Af g 1)) (.int .u64 (Af g 2)) (.int .u64 (Af g 3));have i3:=RK (.int .u64 (Af g 0)) (.int .u64 (Af g 1)) (.int .u64 (Af g 2)) (.int .u64 (Af g 3));generalize hz:(k:Int)=z;obtain⟨rfl,rfl⟩|⟨rfl,rfl⟩|⟨rfl,rfl⟩|⟨rfl,rfl⟩|⟨rfl,rfl⟩:(k=0/\z=0)\/(k=1/\z=1)\/(k=2/\z=2)\/(k=3/\z=3)\/(k=4/\z=4):=by omega
  ·simp only[E5,Nat.not_lt_zero,if_false]at b0;go_wp2_with fail
   rw[HO0.out];exact⟨⟨1,by omega,rfl,qd (by have h:=heap_setCell_same wr w.heap.size 0 _ 39 (.int .u64 ((Af (fun k=>f k||g k) 0:Nat):Int)) HB0.out;simpa[E5]using h),qd (HN.out 0 _),qd (HS.out 0 _)⟩,by simp only[intOf];decide⟩
  ·simp only[E5,Nat.lt_irrefl,if_false]at b1;go_wp2_with fail
   rw[HO1.out];exact⟨⟨2,by omega,rfl,qd (by have h:=heap_setCell_same wr w.heap.size 1 _ 39 (.int .u64 ((Af (fun k=>f k||g k) 1:Nat):Int)) HB0.out;simpa[E5]using h),qd (HN.out 1 _),qd (HS.out 1 _)⟩,by simp only[intOf];decide⟩
  ·simp only[E5,Nat.lt_irrefl,if_false]at b2;go_wp2_with fail
   rw[HO2.out];exact⟨⟨3,by omega,rfl,qd (by have h:=heap_setCell_same wr w.heap.size 2 _ 39 (.int .u64 ((Af (fun k=>f k||g k) 2:Nat):Int)) HB0.out;simpa[E5]using h),qd (HN.out 2 _),qd (HS.out 2 _)⟩,by simp only[intOf];decide⟩
  ·simp only[E5,Nat.lt_irrefl,if_false]at b3;go_wp2_with fail
   rw[HO3.out];exact⟨⟨4,by omega,rfl,qd (by have h:=heap_setCell_same wr w.heap.size 3 _ 39 (.int .u64 ((Af (fun k=>f k||g k) 3:Nat):Int)) HB0.out;simpa[E5]using h),qd (HN.out 3 _),qd (HS.out 3 _)⟩,by simp only[intOf];decide⟩
  ·clear b0 b1 b2 b3;have HX:=qd (Dq (fun k=>f k||g k));obtain⟨b0,b1,b2,b3,_⟩:=DK (show wr.heap[w.heap.size]?=some (.cells (CK (Af (fun k=>f k||g k) 0) (Af (fun k=>f k||g k) 1) (Af (fun k=>f k||g k) 2) (Af (fun k=>f k||g k) 3)) 39 (0,0))from by simpa[E5]using HB0.out);generalize Af (fun k=>f k||g k) 0=x0 at *;generalize Af (fun k=>f k||g k) 1=x1 at *;generalize Af (fun k=>f k||g k) 2=x2 at *;generalize Af (fun k=>f k||g k) 3=x3 at *;go_wp2_with fail
   have hbe:Below w.heap.size w ((((wr.setCell ⟨w.heap.size+2,0,none⟩ (.int .u64 x0)).setCell ⟨w.heap.size+2,1,none⟩ (.int .u64 x1)).setCell ⟨w.heap.size+2,2,none⟩ (.int .u64 x2)).setCell ⟨w.heap.size+2,3,none⟩ (.int .u64 x3)):=(((HB.out.setCell (p:=⟨w.heap.size+2,0,none⟩) (by simp) _).setCell (p:=⟨w.heap.size+2,1,none⟩) (by simp) _).setCell (p:=⟨w.heap.size+2,2,none⟩) (by simp) _).setCell (p:=⟨w.heap.size+2,3,none⟩) (by simp) _;have e0:=heap_setCell_same wr (w.heap.size+2) 0 _ 39 (.int .u64 x0) HB1.out;have e1:=heap_setCell_same _ (w.heap.size+2) 1 _ 39 (.int .u64 x1) e0;have e2:=heap_setCell_same _ (w.heap.size+2) 2 _ 39 (.int .u64 x2) e1;have e3:=heap_setCell_same _ (w.heap.size+2) 3 _ 39 (.int .u64 x3) e2;obtain⟨s0,s1,s2,s3,_⟩:=DK (x0:=.int .u64 x0) (x1:=.int .u64 x1) (x2:=.int .u64 x2) (x3:=.int .u64 x3) (by simpa using e3);refine bodyPost_ret (v:=.agg (CK x0 x1 x2 x3)) (by simp[results,Tryz.results124,go_sem,s0,s1,s2,s3]) rfl ⟨by rw[HX.out],hbe⟩
def Yg (f:Nat->Bool) (w:World) (i:Value) (wr:World):Prop:=
 ∃k:Nat,k<=4/\i=.int .i64 k/\Hid (wr.heap[w.heap.size]?=some (.cells (CK (E5 f (fun k=> !f k) k 0) (E5 f (fun k=> !f k) k 1) (E5 f (fun k=> !f k) k 2) (E5 f (fun k=> !f k) k 3)) 39 (0,0))) /\
  Hid (wr.heap[w.heap.size+1]?=some (.cells #[.int .u64 0,.int .u64 0,.int .u64 0,.int .u64 0] 39 (0,0)))/\Hid (Below w.heap.size w wr)
set_option maxRecDepth 100000 in
set_option maxHeartbeats 1600000 in
theorem Vl (f:Nat->Bool) (w:World):
  Calls Tryz.prog 76 #[Ky f] w fun e w'=>e=.returned (Ky (fun k=> !f k))/\Below w.heap.size w w':=by
 rw[Dq f];have HO0:=qd (Hv f 0);have HO1:=qd (Hv f 1);have HO2:=qd (Hv f 2);have HO3:=qd (Hv f 3);go_enter Tryz.func76,Tryz.ntmps76
 go_wp2_with fail
 go_loopw [6] (fun i wr=>Yg f w i wr) (fun i _=>4-(intOf i).toNat)
 case atStart=>
  refine⟨0,Nat.zero_le _,rfl,qd ?_,qd ?_,qd (bx2 w _ _)⟩
  ·exact(Below.heap_alloc _ _ _ (by simp)).trans (Ad w _)
  ·have h1:=Ad (w.alloc (.cells (CK (Af f 0) (Af f 1) (Af f 2) (Af f 3)) 39)) (.cells #[.int .u64 0,.int .u64 0,.int .u64 0,.int .u64 0] 39);simpa using h1
 case round=>
  obtain⟨k,hk,rfl,HB0,HB1,HB⟩:=hrel;obtain⟨b0,b1,b2,b3,bf⟩:=DK HB0.out;obtain⟨d0,d1,d2,d3,df⟩:=DK HB1.out;have f0:=bf 0;have f1:=bf 1;have f2:=bf 2;have f3:=bf 3;have g0:=df 0;have g1:=df 1;have g2:=df 2;have g3:=df 3;have HN:=qd (show ∀(j:Nat) (u:Value),(wr.setCell ⟨w.heap.size,j,none⟩ u).heap[w.heap.size+1]?=some (.cells #[.int .u64 0,.int .u64 0,.int .u64 0,.int .u64 0] 39 (0,0))from fun j u=>(Below.heap_setCell _ _ _ _ (by show w.heap.size+1≠w.heap.size;omega)).trans HB1.out);have HS:=qd (show ∀(j:Nat) (u:Value),Below w.heap.size w (wr.setCell ⟨w.heap.size,j,none⟩ u)from fun j u=>HB.out.setCell (p:=⟨w.heap.size,j,none⟩) (Nat.le_refl _) u);clear bf df;have i0:=RH (.int .u64 (Af f 0)) (.int .u64 (Af f 1)) (.int .u64 (Af f 2)) (.int .u64 (Af f 3));have i1:=RI (.int .u64 (Af f 0)) (.int .u64 (Af f 1)) (.int .u64 (Af f 2)) (.int .u64 (Af f 3));have i2:=RJ (.int .u64 (Af f 0)) (.int .u64 (Af f 1)) (.int .u64 (Af f 2)) (.int .u64 (Af f 3));have i3:=RK (.int .u64 (Af f 0)) (.int .u64 (Af f 1)) (.int .u64 (Af f 2)) (.int .u64 (Af f 3));generalize hz:(k:Int)=z;obtain⟨rfl,rfl⟩|⟨rfl,rfl⟩|⟨rfl,rfl⟩|⟨rfl,rfl⟩|⟨rfl,rfl⟩:(k=0/\z=0)\/(k=1/\z=1)\/(k=2/\z=2)\/(k=3/\z=3)\/(k=4/\z=4):=by omega
  ·simp only[E5,Nat.not_lt_zero,if_false]at b0;go_wp2_with fail
   rw[HO0.out];exact⟨⟨1,by omega,rfl,qd (by have h:=heap_setCell_same wr w.heap.size 0 _ 39 (.int .u64 ((Af (fun k=> !f k) 0:Nat):Int)) HB0.out;simpa[E5]using h),qd (HN.out 0 _),qd (HS.out 0 _)⟩,by simp only[intOf];decide⟩
  ·simp only[E5,Nat.lt_irrefl,if_false]at b1;go_wp2_with fail
   rw[HO1.out];exact⟨⟨2,by omega,rfl,qd (by have h:=heap_setCell_same wr w.heap.size 1 _ 39 (.int .u64 ((Af (fun k=> !f k) 1:Nat):Int)) HB0.out;simpa[E5]using h),qd (HN.out 1 _),qd (HS.out 1 _)⟩,by simp only[intOf];decide⟩
  ·simp only[E5,Nat.lt_irrefl,if_false]at b2;go_wp2_with fail
   rw[HO2.out];exact⟨⟨3,by omega,rfl,qd (by have h:=heap_setCell_same wr w.heap.size 2 _ 39 (.int .u64 ((Af (fun k=> !f k) 2:Nat):Int)) HB0.out;simpa[E5]using h),qd (HN.out 2 _),qd (HS.out 2 _)⟩,by simp only[intOf];decide⟩
  ·simp only[E5,Nat.lt_irrefl,if_false]at b3;go_wp2_with fail
   rw[HO3.out];exact⟨⟨4,by omega,rfl,qd (by have h:=heap_setCell_same wr w.heap.size 3 _ 39 (.int .u64 ((Af (fun k=> !f k) 3:Nat):Int)) HB0.out;simpa[E5]using h),qd (HN.out 3 _),qd (HS.out 3 _)⟩,by simp only[intOf];decide⟩
  ·clear b0 b1 b2 b3;have HX:=qd (Dq (fun k=> !f k));obtain⟨b0,b1,b2,b3,_⟩:=DK (show wr.heap[w.heap.size]?=some (.cells (CK (Af (fun k=> !f k) 0) (Af (fun k=> !f k) 1) (Af (fun k=> !f k) 2) (Af (fun k=> !f k) 3)) 39 (0,0))from by simpa[E5]using HB0.out);generalize Af (fun k=> !f k) 0=x0 at *;generalize Af (fun k=> !f k) 1=x1 at *;generalize Af (fun k=> !f k) 2=x2 at *;generalize Af (fun k=> !f k) 3=x3 at *;go_wp2_with fail
   have hbe:Below w.heap.size w ((((wr.setCell ⟨w.heap.size+1,0,none⟩ (.int .u64 x0)).setCell ⟨w.heap.size+1,1,none⟩ (.int .u64 x1)).setCell ⟨w.heap.size+1,2,none⟩ (.int .u64 x2)).setCell ⟨w.heap.size+1,3,none⟩ (.int .u64 x3)):=(((HB.out.setCell (p:=⟨w.heap.size+1,0,none⟩) (by simp) _).setCell (p:=⟨w.heap.size+1,1,none⟩) (by simp) _).setCell (p:=⟨w.heap.size+1,2,none⟩) (by simp) _).setCell (p:=⟨w.heap.size+1,3,none⟩) (by simp) _;have e0:=heap_setCell_same wr (w.heap.size+1) 0 _ 39 (.int .u64 x0) HB1.out;have e1:=heap_setCell_same _ (w.heap.size+1) 1 _ 39 (.int .u64 x1) e0;have e2:=heap_setCell_same _ (w.heap.size+1) 2 _ 39 (.int .u64 x2) e1;have e3:=heap_setCell_same _ (w.heap.size+1) 3 _ 39 (.int .u64 x3) e2;obtain⟨s0,s1,s2,s3,_⟩:=DK (x0:=.int .u64 x0) (x1:=.int .u64 x1) (x2:=.int .u64 x2) (x3:=.int .u64 x3) (by simpa using e3);refine bodyPost_ret (v:=.agg (CK x0 x1 x2 x3)) (by simp[results,Tryz.results76,go_sem,s0,s1,s2,s3]) rfl ⟨by rw[HX.out],hbe⟩
def BR (a k:Nat):Nat->Bool:=fun x=>decide (a<=x/\x<k)
theorem WO (f:Nat->Bool) (k:Nat) (x:Nat) (hk:k<4):(CK (Af f 0) (Af f 1) (Af f 2) (Af f 3)).setIfInBounds k (.int .u64 (x:Int))=CK (if k=0 then x else Af f 0) (if k=1 then x else Af f 1) (if k=2 then x else Af f 2) (if k=3 then x else Af f 3):=by
 obtain rfl|rfl|rfl|rfl:k=0\/k=1\/k=2\/k=3:=by omega
 all_goals rfl
theorem Q9 {a k q m i:Nat} (hk:k=q*64+m) (hm:m<64) (hi:i≠q):Af (BR a (k+1)) i=Af (BR a k) i:=GY fun j hj=>by
 unfold BR;have:i*64+j≠k:=fun e=>hi (by omega)
 rw[Bool.eq_iff_iff,decide_eq_true_eq,decide_eq_true_eq];omega
theorem QA {a k q m:Nat} (hk:k=q*64+m) (hm:m<64) (ha:a<=k):bits BinOp.or IntKind.u64 ((Af (BR a k) q:Nat):Int) (IntKind.u64.wrap (2^m))=((Af (BR a (k+1)) q:Nat):Int):=by
 have h2:2^m<2^64:=Nat.pow_lt_pow_right (by decide) hm
 have e:IntKind.u64.wrap ((2:Int)^m)=((2^m:Nat):Int):=by
  have e0:((2:Int)^m)=((2^m:Nat):Int):=by norm_cast
  rw[e0,IntKind.wrap_u64];generalize 2^m=z at *;omega
 rw[e,bits_or_u64_nat _ _ (E4 _ _) (by simpa using h2),Tw _ _ _ hm];congr 1;refine GY fun j hj=> ?_
 unfold BR;rw[Bool.eq_iff_iff,Bool.or_eq_true,decide_eq_true_eq,decide_eq_true_eq,decide_eq_true_eq];omega
set_option maxRecDepth 100000 in
set_option maxHeartbeats 1600000 in
theorem Tx (a b:UInt8) (w:World):
  Calls Tryz.prog 125 #[u8V a,u8V b] w fun e w'=>e=.returned (Ky (GZ a.toNat b.toNat))/\Below w.heap.size w w':=by
 have ha:=a.toNat_lt;have hb:=b.toNat_lt;go_enter Tryz.func125,Tryz.ntmps125
 go_wp2_with fail
 go_loopw [6] (fun i wr=>∃k:Nat,a.toNat<=k/\(k<=b.toNat+1\/k=a.toNat)/\i=.int .i64 (k:Int)/\Hid (wr.heap[w.heap.size+1]?=some (.cells (CK (Af (BR a.toNat k) 0) (Af (BR a.toNat k) 1) (Af (BR a.toNat k) 2) (Af (BR a.toNat k) 3)) 39 (0,0))) /\
  Hid (wr.heap[w.heap.size]?=some (.cells #[.int .u64 0,.int .u64 0,.int .u64 0,.int .u64 0] 39 (0,0)))/\Hid (Below w.heap.size w wr)) (fun i _=>256-(intOf i).toNat)
 case atStart=>
  refine⟨a.toNat,Nat.le_refl _,.inr rfl,rfl,qd ?_,qd ((Below.heap_alloc _ _ _ (by simp)).trans (Ad w _)),qd (bx2 w _ _)⟩;have h1:=Ad (w.alloc (.cells #[.int .u64 0,.int .u64 0,.int .u64 0,.int .u64 0] 39)) (.cells #[.int .u64 0,.int .u64 0,.int .u64 0,.int .u64 0] 39);have e:BR a.toNat a.toNat=fun _=>false:=by funext x;unfold BR;simp
  rw[e,Ba,Ba,Ba,Ba];rw[World.size_alloc]at h1;exact h1
 case round=>
  obtain⟨k,hk1,hk2,rfl,HB1,HB0,HB⟩:=hrel;by_cases hlt:k<=b.toNat
  ·have i1:(k:Int)<=(b.toNat:Int):=by omega
   obtain⟨q,m,hq,hm,hkm⟩:∃q m:Nat,q<4/\m<64/\k=q*64+m:=⟨k/64,k%64,by omega,by omega,by omega⟩;have e1:IntKind.i64.wrap ((k:Int)/64)=(q:Int):=by rw[IntKind.wrap_i64];omega
   have e2:(k:Int).tmod 64=(m:Int):=by rw[Int.tmod_eq_emod_of_nonneg (by omega)];omega
   have e3:=QA hkm hm hk1
   have HFS:=qd (show(CK (Af (BR a.toNat k) 0) (Af (BR a.toNat k) 1) (Af (BR a.toNat k) 2) (Af (BR a.toNat k) 3)).setIfInBounds q (.int .u64 ((Af (BR a.toNat (k+1)) q:Nat):Int))=CK (Af (BR a.toNat (k+1)) 0) (Af (BR a.toNat (k+1)) 1) (Af (BR a.toNat (k+1)) 2) (Af (BR a.toNat (k+1)) 3)from by
    have hs:=fun i (hi:i≠q)=>Q9 (a:=a.toNat) hkm hm hi
    rw[WO _ _ _ hq];obtain rfl|rfl|rfl|rfl:q=0\/q=1\/q=2\/q=3:=by omega
    ·rw[hs 1 (by omega),hs 2 (by omega),hs 3 (by omega)];simp
    ·rw[hs 0 (by omega),hs 2 (by omega),hs 3 (by omega)];simp
    ·rw[hs 0 (by omega),hs 1 (by omega),hs 3 (by omega)];simp
    ·rw[hs 0 (by omega),hs 1 (by omega),hs 2 (by omega)];simp)
   have HKM:=qd hkm;clear hkm
   have hc:wr.cell? ⟨w.heap.size+1,q,none⟩=some (.int .u64 ((Af (BR a.toNat k) q:Nat):Int)):=by
    obtain⟨b0,b1,b2,b3,_⟩:=DK HB1.out;obtain rfl|rfl|rfl|rfl:q=0\/q=1\/q=2\/q=3:=by omega
    all_goals assumption
   have hf:wr.drew.frozen? ⟨w.heap.size+1,q,none⟩=false:=by
    have h:(fun w':World=>w'.frozen? ⟨w.heap.size+1,q,none⟩) wr=false:=by simp[World.frozen?,HB1.out]
    exact h
   have hc2:wr.drew.cell? ⟨w.heap.size+1,q,none⟩=some (.int .u64 ((Af (BR a.toNat k) q:Nat):Int)):=hc;have q0:(0:Int)<=(q:Int):=by omega
   have q1:(q:Int)<4:=by omega
   have m0:(0:Int)<=(m:Int):=by omega
   have m1:(m:Int)<64:=by omega
   go_upto_region 5 with(fail)
   go_still_tail 9,(by kernel_rfl)
   change wpList _ _ _ _ _ wr.drew;go_wp2_with fail
   refine⟨⟨k+1,by omega,by omega,by go_num,qd ?_,qd ?_,qd (HB.out.drew.setCell (p:=⟨w.heap.size+1,q,none⟩) (by simp) _)⟩,by simp only[intOf];omega⟩
   ·have h:=heap_setCell_same wr.drew (w.heap.size+1) q _ 39 (.int .u64 ((Af (BR a.toNat (k+1)) q:Nat):Int)) HB1.out;rw[HFS.out]at h;exact h
   ·exact(Below.heap_setCell _ _ _ _ (by show w.heap.size≠w.heap.size+1;omega)).trans HB0.out
  ·have hX:∀i,Af (BR a.toNat k) i=Af (GZ a.toNat b.toNat) i:=fun i=>GY fun j hj=>by
    unfold BR GZ;rw[Bool.eq_iff_iff,decide_eq_true_eq,decide_eq_true_eq];omega
   have i1:¬(k:Int)<=(b.toNat:Int):=by omega
   rw[hX 0,hX 1,hX 2,hX 3]at HB1;have HX:=qd (Dq (GZ a.toNat b.toNat));obtain⟨b0,b1,b2,b3,_⟩:=DK HB1.out;obtain⟨d0,d1,d2,d3,df⟩:=DK HB0.out;have g0:=df 0;have g1:=df 1;have g2:=df 2;have g3:=df 3;clear df hX;generalize Af (GZ a.toNat b.toNat) 0=x0 at *;generalize Af (GZ a.toNat b.toNat) 1=x1 at *;generalize Af (GZ a.toNat b.toNat) 2=x2 at *;generalize Af (GZ a.toNat b.toNat) 3=x3 at *;go_wp2_with fail
   have hbe:Below w.heap.size w ((((wr.setCell ⟨w.heap.size,0,none⟩ (.int .u64 x0)).setCell ⟨w.heap.size,1,none⟩ (.int .u64 x1)).setCell ⟨w.heap.size,2,none⟩ (.int .u64 x2)).setCell ⟨w.heap.size,3,none⟩ (.int .u64 x3)):=(((HB.out.setCell (p:=⟨w.heap.size,0,none⟩) (by simp) _).setCell (p:=⟨w.heap.size,1,none⟩) (by simp) _).setCell (p:=⟨w.heap.size,2,none⟩) (by simp) _).setCell (p:=⟨w.heap.size,3,none⟩) (by simp) _;have e0:=heap_setCell_same wr w.heap.size 0 _ 39 (.int .u64 x0) HB0.out;have e1:=heap_setCell_same _ w.heap.size 1 _ 39 (.int .u64 x1) e0;have e2:=heap_setCell_same _ w.heap.size 2 _ 39 (.int .u64 x2) e1;have e3:=heap_setCell_same _ w.heap.size 3 _ 39 (.int .u64 x3) e2;obtain⟨s0,s1,s2,s3,_⟩:=DK (x0:=.int .u64 x0) (x1:=.int .u64 x1) (x2:=.int .u64 x2) (x3:=.int .u64 x3) (by simpa using e3);refine bodyPost_ret (v:=.agg (CK x0 x1 x2 x3)) (by simp[results,Tryz.results125,go_sem,s0,s1,s2,s3]) rfl ⟨by rw[HX.out],hbe⟩
theorem Vm (w:World):Calls Tryz.prog 63 #[] w fun e w'=>e=.returned (Ky fun _=>true)/\Below w.heap.size w w':=by
 refine(RL w).mono ?_;rintro e w' ⟨rfl,hb⟩;refine⟨?_,hb⟩;rw[Dq,BV,BV,BV,BV];rfl
end Go.Proofs.YtdnochjajoiooaaGreatDoor
