/- The contract of print.Count. The arena of expr.Make in memory; the contracts of add and keep. -/
import Derived.Test.YtdnochjajoiooaaGreatDoorGh
import Derived.Test.YtdnochjajoiooaaGreatDoorDq
import Derived.Test.YtdnochjajoiooaaGreatDoorHg
import Derived.Test.YtdnochjajoiooaaGreatDoorDk
import Derived.Test.YtdnochjajoiooaaGreatDoorJi
import Derived.BigQuiet
import Derived.Test.YtdnochjajoiooaaGreatDoorAd
namespace Go.Proofs.YtdnochjajoiooaaGreatDoor
open Go.RowKit
set_option linter.unusedSimpArgs false
set_option linter.unusedVariables false
set_option maxHeartbeats 6400000 in
theorem Sp (k d:Int) (hk:0<=k/\k<=9) (hd:0<=d/\d<=9) (w:World):
  Calls Tryz.prog 21 #[.int .u8 k,.int .u8 d] w fun e w'=>e=.returned (.bool (AC k d))/\w'=w:=by
 go_enter Tryz.func21,Tryz.ntmps21
 have hk':k=0\/k=1\/k=2\/k=3\/k=9\/k=4\/k=5\/k=6\/k=7\/k=8:=by omega
 have hd':d=0\/d=1\/d=2\/d=3\/d=9\/d=4\/d=5\/d=6\/d=7\/d=8:=by omega
 clear hk hd;rcases hk' with rfl|rfl|rfl|rfl|rfl|rfl|rfl|rfl|rfl|rfl
 all_goals
  rcases hd' with rfl|rfl|rfl|rfl|rfl|rfl|rfl|rfl|rfl|rfl
  all_goals
   go_wp2
   go_ret;exact⟨rfl,rfl⟩
def CoTab (w:World):Prop:=∀j u,[Value.int .i64 0,.int .i64 1,.string ⟨#[63]⟩,.int .i64 0,.int .i64 (-1),.string ⟨#[42]⟩,.int .i64 1,.int .i64 (-1),.string ⟨#[43]⟩][j]?=some u->w.cell? ⟨1,j,none⟩=some u
theorem CoTab.below {w w':World} (h:CoTab w) (hb:Below w.heap.size w w'):CoTab w':=fun j u hu=>(hb.cell (AP (h j u hu))).trans (h j u hu)
theorem Yz (x0 x1 x2 x3 x4 x5 x6 x7 x8:Value):∀w,(Instr.index 90 (.agg #[x0,x1,x2,x3,x4,x5,x6,x7,x8]) (.int .i64 0)).run Tryz.prog w=.ok (.agg #[x0,x1,x2]) w:=fun _=>by kernel_rfl
theorem Y0 (x0 x1 x2 x3 x4 x5 x6 x7 x8:Value):∀w,(Instr.index 90 (.agg #[x0,x1,x2,x3,x4,x5,x6,x7,x8]) (.int .i64 1)).run Tryz.prog w=.ok (.agg #[x3,x4,x5]) w:=fun _=>by kernel_rfl
theorem Y1 (x0 x1 x2 x3 x4 x5 x6 x7 x8:Value):∀w,(Instr.index 90 (.agg #[x0,x1,x2,x3,x4,x5,x6,x7,x8]) (.int .i64 2)).run Tryz.prog w=.ok (.agg #[x6,x7,x8]) w:=fun _=>by kernel_rfl
def I8 (k:Nat) (lo hi:Int):Prop:=(k=0/\lo=0/\hi=1)\/(k=1/\lo=0/\hi = -1)\/(k=2/\lo=1/\hi = -1)
set_option maxRecDepth 100000 in
set_option maxHeartbeats 3200000 in
theorem Mv (lo hi:Int) (w:World) (ht:Tab w) (hg:4<w.heap.size) (hc:CoTab w) (hn:CntTab w):
  Calls Tryz.prog 16 #[.int .i64 lo,.int .i64 hi] w (C9 (CA lo hi) w):=by
 unfold C9
 have HT3:=qd (show ∀w',Below w.heap.size w w'->Tab w' from fun w' hb=>by
  unfold Tab Lib.TabIs at *;exact Gc hb (by kernel_rfl) hg ht)
 have HC:=qd hc;go_enter Tryz.func16,Tryz.ntmps16
 go_wp2_with fail
 refine(KY ⟨6,0,0,0,0,⟨#[]⟩,lo,hi,[]⟩ (.slice none 0 0) 1 w hn ⟨by simp,by simp⟩ (by simp[ByteArray.size])).mono ?_;rintro e w1 ⟨rfl,hb1⟩;have HB1:=qd hb1;clear hb1 hc ht hn
 have hq:CA lo hi=if ¬(0<=lo/\lo<=99/\(hi = -1\/(lo<=hi/\hi<=99)))then[]else if lo=0/\hi=1 then[63]else if lo=0/\hi = -1 then[42]else if lo=1/\hi = -1 then[43]
  else if hi=lo then[123]++Lq lo++[125]else if hi = -1 then[123]++Lq lo++[44,125]else[123]++Lq lo++[44]++Lq hi++[125]:=rfl
 have hf:Am ⟨6,0,0,0,0,⟨#[]⟩,lo,hi,[]⟩ 1=decide (0<=lo/\lo<=99/\(hi = -1\/(lo<=hi/\hi<=99))):=by
  simp[Am,BQ,Ay,ByteArray.size]
 rw[hf];by_cases hok:0<=lo/\lo<=99/\(hi = -1\/(lo<=hi/\hi<=99))
 ·have hd:=decide_eq_true hok;rw[if_neg (fun h=>h hok)]at hq;rw[hd];have c0:=HC.out.below HB1.out 0 _ rfl;have c1:=HC.out.below HB1.out 1 _ rfl;have c2:=HC.out.below HB1.out 2 _ rfl;have c3:=HC.out.below HB1.out 3 _ rfl;have c4:=HC.out.below HB1.out 4 _ rfl;have c5:=HC.out.below HB1.out 5 _ rfl;have c6:=HC.out.below HB1.out 6 _ rfl;have c7:=HC.out.below HB1.out 7 _ rfl;have c8:=HC.out.below HB1.out 8 _ rfl;go_wp2_with fail
  clear c0 c1 c2 c3 c4 c5 c6 c7 c8;go_loopw [13] (fun i wr=>∃k:Nat,k<=3/\i=.int .i64 k/\Hid (∀j,j<k-> ¬I8 j lo hi)/\Hid (Below w1.heap.size w1 wr)) (fun i _=>3-(intOf i).toNat)
  case atStart=>exact⟨0,by omega,rfl,qd (fun j hj=>by omega),qd (Below.refl _ _)⟩
  case round=>
   obtain⟨k,hk,rfl,HH,HB⟩:=hrel;by_cases hlt:k<3
   ·generalize hz:(k:Int)=z;obtain⟨rfl,rfl⟩|⟨rfl,rfl⟩|⟨rfl,rfl⟩:(k=0/\z=0)\/(k=1/\z=1)\/(k=2/\z=2):=by omega
    ·have i0:=Yz (.int .i64 0) (.int .i64 1) (.string ⟨#[63]⟩) (.int .i64 0) (.int .i64 (-1)) (.string ⟨#[42]⟩) (.int .i64 1) (.int .i64 (-1)) (.string ⟨#[43]⟩);by_cases a1:lo=0
     ·have b1:((0:Int)==lo)=true:=by simp;omega
      have A1:=qd a1;clear a1;by_cases a2:hi=1
      ·have b2:((1:Int)==hi)=true:=by simp;omega
       have A2:=qd a2;clear a2;go_wp2_with fail
       go_ret;have hq2:CA lo hi=[63]:=by rw[hq,A1.out,A2.out];rfl
       exact⟨by rw[hq2];rfl,Below.step HB1.out (Below.step HB.out (bx1 _ _))⟩
      ·have b2:((1:Int)==hi)=false:=by simp;omega
       have d2:¬(1:Int)=hi:=by omega
       go_wp2_with fail
       exact⟨⟨1,by omega,rfl,qd (fun j hj=>by unfold I8;have h8:=HH.out j;unfold I8 at h8;first|omega|(have h9:=A1.out;omega)),qd (Below.step HB.out (bx1 _ _))⟩,by simp only[intOf];decide⟩
     ·have b1:((0:Int)==lo)=false:=by simp;omega
      have d1:¬(0:Int)=lo:=by omega
      go_wp2_with fail
      exact⟨⟨1,by omega,rfl,qd (fun j hj=>by unfold I8;have h8:=HH.out j;unfold I8 at h8;first|omega|(have h9:=A1.out;omega)),qd (Below.step HB.out (bx1 _ _))⟩,by simp only[intOf];decide⟩
    ·have i0:=Y0 (.int .i64 0) (.int .i64 1) (.string ⟨#[63]⟩) (.int .i64 0) (.int .i64 (-1)) (.string ⟨#[42]⟩) (.int .i64 1) (.int .i64 (-1)) (.string ⟨#[43]⟩);by_cases a1:lo=0
     ·have b1:((0:Int)==lo)=true:=by simp;omega
      have A1:=qd a1;clear a1;by_cases a2:hi=(-1)
      ·have b2:(((-1):Int)==hi)=true:=by simp;omega
       have A2:=qd a2;clear a2;go_wp2_with fail
       go_ret;have hq2:CA lo hi=[42]:=by rw[hq,A1.out,A2.out];rfl
       exact⟨by rw[hq2];rfl,Below.step HB1.out (Below.step HB.out (bx1 _ _))⟩
      ·have b2:(((-1):Int)==hi)=false:=by simp;omega
       have d2:¬((-1):Int)=hi:=by omega
       go_wp2_with fail
       exact⟨⟨2,by omega,rfl,qd (fun j hj=>by unfold I8;have h8:=HH.out j;unfold I8 at h8;first|omega|(have h9:=A1.out;omega)),qd (Below.step HB.out (bx1 _ _))⟩,by simp only[intOf];decide⟩
     ·have b1:((0:Int)==lo)=false:=by simp;omega
      have d1:¬(0:Int)=lo:=by omega
      go_wp2_with fail
      exact⟨⟨2,by omega,rfl,qd (fun j hj=>by unfold I8;have h8:=HH.out j;unfold I8 at h8;first|omega|(have h9:=A1.out;omega)),qd (Below.step HB.out (bx1 _ _))⟩,by simp only[intOf];decide⟩
    ·have i0:=Y1 (.int .i64 0) (.int .i64 1) (.string ⟨#[63]⟩) (.int .i64 0) (.int .i64 (-1)) (.string ⟨#[42]⟩) (.int .i64 1) (.int .i64 (-1)) (.string ⟨#[43]⟩);by_cases a1:lo=1
     ·have b1:((1:Int)==lo)=true:=by simp;omega
      have A1:=qd a1;clear a1;by_cases a2:hi=(-1)
      ·have b2:(((-1):Int)==hi)=true:=by simp;omega
       have A2:=qd a2;clear a2;go_wp2_with fail
       go_ret;have hq2:CA lo hi=[43]:=by rw[hq,A1.out,A2.out];rfl
       exact⟨by rw[hq2];rfl,Below.step HB1.out (Below.step HB.out (bx1 _ _))⟩
      ·have b2:(((-1):Int)==hi)=false:=by simp;omega
       have d2:¬((-1):Int)=hi:=by omega
       go_wp2_with fail
       exact⟨⟨3,by omega,rfl,qd (fun j hj=>by unfold I8;have h8:=HH.out j;unfold I8 at h8;first|omega|(have h9:=A1.out;omega)),qd (Below.step HB.out (bx1 _ _))⟩,by simp only[intOf];decide⟩
     ·have b1:((1:Int)==lo)=false:=by simp;omega
      have d1:¬(1:Int)=lo:=by omega
      go_wp2_with fail
      exact⟨⟨3,by omega,rfl,qd (fun j hj=>by unfold I8;have h8:=HH.out j;unfold I8 at h8;first|omega|(have h9:=A1.out;omega)),qd (Below.step HB.out (bx1 _ _))⟩,by simp only[intOf];decide⟩
   ·obtain rfl:k=3:=by omega
    have n0:=HH.out 0 (by decide);have n1:=HH.out 1 (by decide);have n2:=HH.out 2 (by decide);unfold I8 at n0 n1 n2;have HT2:=qd (show ∀w',Below wr.heap.size wr w'->Tab w' from fun w' hb=>by have h:=(Below.step HB1.out HB.out);exact(HT3.out w' (Below.step h hb)));rw[if_neg (by omega),if_neg (by omega),if_neg (by omega)]at hq;clear HH n0 n1 n2;have HW:=qd (Below.step HB1.out HB.out);have hl1:=Lib.itoa_length_le lo (by omega) (by omega);have hl2:=Lib.itoa_length_le hi (by omega) (by omega);have q1:¬9223372036854775807<1+(Lib.itoa lo).length:=by omega
    have q2:¬9223372036854775807<1+(Lib.itoa lo).length+1:=by omega
    have q3:¬9223372036854775807<1+(Lib.itoa lo).length+2:=by omega
    have q4:¬9223372036854775807<1+(Lib.itoa lo).length+1+(Lib.itoa hi).length:=by omega
    have q5:¬9223372036854775807<1+(Lib.itoa lo).length+1+(Lib.itoa hi).length+1:=by omega
    by_cases e1:hi=lo
    ·have f1:(hi==lo)=true:=by simpa using e1
     rw[if_pos e1]at hq;have E1:=qd e1;clear e1;go_wp2_with fail
     refine(IV lo _ (by omega) (by omega) (HT2.out _ (Below.refl _ _))).mono ?_;rintro e w5 ⟨rfl,g1⟩;have HB5:=qd (Below.step HW.out g1);clear g1;go_wp2_with fail
     go_ret;exact⟨by rw[hq];congr 2,HB5.out⟩
    ·have f1:(hi==lo)=false:=by simpa using e1
     rw[if_neg e1]at hq;by_cases e2:hi = -1
     ·have f2:(hi==(-1:Int))=true:=by simpa using e2
      rw[if_pos e2]at hq;have E2:=qd e2;clear e2;go_wp2_with fail
      refine(IV lo _ (by omega) (by omega) (HT2.out _ (Below.refl _ _))).mono ?_;rintro e w5 ⟨rfl,g1⟩;have HB5:=qd (Below.step HW.out g1);clear g1;go_wp2_with fail
      go_ret;exact⟨by rw[hq];congr 2,HB5.out⟩
     ·have f2:(hi==(-1:Int))=false:=by simpa using e2
      rw[if_neg e2]at hq;go_wp2_with fail
      refine(IV lo _ (by omega) (by omega) (HT2.out _ (Below.refl _ _))).mono ?_;rintro e w5 ⟨rfl,g1⟩;have HB5:=qd (g1);clear g1;go_wp2_with fail
      refine(IV hi _ (by omega) (by omega) (HT2.out _ HB5.out)).mono ?_;rintro e w6 ⟨rfl,g1⟩;have HB6:=qd (Below.step HW.out (Below.step HB5.out g1));clear g1;go_wp2_with fail
      go_ret;exact⟨by rw[hq];congr 2,HB6.out⟩
 ·have hd:=decide_eq_false hok;rw[if_pos hok]at hq;rw[hd];go_wp2_with fail
  go_ret;exact⟨by rw[hq];rfl,HB1.out⟩
end Go.Proofs.YtdnochjajoiooaaGreatDoor
/- The contract of print.behind. -/
namespace Go.Proofs.YtdnochjajoiooaaGreatDoor
open Go.RowKit
set_option linter.unusedSimpArgs false
set_option linter.unusedVariables false
def sgL:List (List UInt8):=[[],[],[],[],[],[],[],[],[],[],[],[],[],[32],[],[],[32,47,32],[],[],[],[],[38],[],[],[33],[],[],[60],[],[62]]
def SgTab (w:World):Prop:=∀j l,sgL[j]?=some l->w.cell? ⟨0,j,none⟩=some (.string ⟨l.toArray⟩)
theorem SgTab.below {w w':World} (h:SgTab w) (hb:Below w.heap.size w w'):SgTab w':=fun j u hu=>(hb.cell (AP (h j u hu))).trans (h j u hu)
set_option maxRecDepth 100000 in
set_option maxHeartbeats 3200000 in
theorem NY (n:Nd) (K:Value) (w:World) (hk:0<=n.kind/\n.kind<=9) (hs:SgTab w) (ht:Tab w) (hg:4<w.heap.size) (hc:CoTab w) (hn:CntTab w):
  Calls Tryz.prog 22 #[ndV n K] w (C9 (AK n) w):=by
 obtain⟨kd,s0,s1,s2,s3,tx,mn,mx,kids⟩:=n;simp only at hk;unfold C9;have HB0:=qd (bx1 w (.cells #[.int .u8 kd,.int .u64 s0,.int .u64 s1,.int .u64 s2,.int .u64 s3,.string tx,.int .i64 mn,.int .i64 mx,K] 42));have HS:=qd (hs.below HB0.out);go_enter Tryz.func22,Tryz.ntmps22
 have hk':kd=6\/kd=0\/kd=1\/kd=2\/kd=3\/kd=4\/kd=5\/kd=7\/kd=8\/kd=9:=by omega
 clear hk;rcases hk' with rfl|rfl|rfl|rfl|rfl|rfl|rfl|rfl|rfl|rfl
 ·have hz:4<(w.alloc (.cells #[.int .u8 6,.int .u64 s0,.int .u64 s1,.int .u64 s2,.int .u64 s3,.string tx,.int .i64 mn,.int .i64 mx,K] 42)).heap.size:=by have:=HB0.out.size;omega
  go_wp2_with (go_at_call 16;refine(Mv mn mx _ (by unfold Tab Lib.TabIs at *;exact Gc HB0.out (by kernel_rfl) hg ht) hz (hc.below HB0.out) (hn.below HB0.out)).mono ?_;rintro e w5 ⟨rfl,g1⟩;have HB5:=qd (Below.step HB0.out g1);clear g1)
  go_ret;exact⟨rfl,HB5.out⟩
 ·have q:=HS.out 2 _ rfl;go_wp2_with fail
  go_ret;exact⟨rfl,HB0.out⟩
 ·have q:=HS.out 5 _ rfl;go_wp2_with fail
  go_ret;exact⟨rfl,HB0.out⟩
 ·have q:=HS.out 8 _ rfl;go_wp2_with fail
  go_ret;exact⟨rfl,HB0.out⟩
 ·have q:=HS.out 11 _ rfl;go_wp2_with fail
  go_ret;exact⟨rfl,HB0.out⟩
 ·have q:=HS.out 14 _ rfl;go_wp2_with fail
  go_ret;exact⟨rfl,HB0.out⟩
 ·have q:=HS.out 17 _ rfl;go_wp2_with fail
  go_ret;exact⟨rfl,HB0.out⟩
 ·have q:=HS.out 23 _ rfl;go_wp2_with fail
  go_ret;exact⟨rfl,HB0.out⟩
 ·have q:=HS.out 26 _ rfl;go_wp2_with fail
  go_ret;exact⟨rfl,HB0.out⟩
 ·have q:=HS.out 29 _ rfl;go_wp2_with fail
  go_ret;exact⟨rfl,HB0.out⟩
end Go.Proofs.YtdnochjajoiooaaGreatDoor
/- The contract of print.ahead. -/
namespace Go.Proofs.YtdnochjajoiooaaGreatDoor
open Go.RowKit
set_option linter.unusedSimpArgs false
set_option linter.unusedVariables false
theorem Rj (tx:ByteArray):(⟨tx.data.toList.toArray⟩:ByteArray)=tx:=by cases tx;simp
def Rk (n:Nd):Prop:=(0<=n.s0/\n.s0<18446744073709551616)/\(0<=n.s1/\n.s1<18446744073709551616)/\(0<=n.s2/\n.s2<18446744073709551616)/\(0<=n.s3/\n.s3<18446744073709551616)
set_option maxRecDepth 100000 in
set_option maxHeartbeats 3200000 in
theorem KQ (n:Nd) (K:Value) (w:World) (hk:0<=n.kind/\n.kind<=9) (hw:Rk n) (htx:n.text.size<=1000000) (hs:SgTab w) (hd:DbTab w):
  Calls Tryz.prog 20 #[ndV n K] w (C9 (AJ n) w):=by
 obtain⟨kd,s0,s1,s2,s3,tx,mn,mx,kids⟩:=n;simp only[Rk]at hk hw htx;obtain⟨⟨p0,q0⟩,⟨p1,q1⟩,⟨p2,q2⟩,p3,q3⟩:=hw;obtain⟨w0,rfl⟩:=Int.eq_ofNat_of_zero_le p0;obtain⟨w1,rfl⟩:=Int.eq_ofNat_of_zero_le p1;obtain⟨w2,rfl⟩:=Int.eq_ofNat_of_zero_le p2;obtain⟨w3,rfl⟩:=Int.eq_ofNat_of_zero_le p3;unfold C9;have HB0:=qd (bx1 w (.cells #[.int .u8 kd,.int .u64 (w0:Int),.int .u64 (w1:Int),.int .u64 (w2:Int),.int .u64 (w3:Int),.string tx,.int .i64 mn,.int .i64 mx,K] 42));have HS:=qd (hs.below HB0.out);have HD:=qd (hd.below HB0.out);have HM:=qd (Rj tx);go_enter Tryz.func20,Tryz.ntmps20
 have hk':kd=0\/kd=2\/kd=1\/kd=3\/kd=4\/kd=5\/kd=6\/kd=7\/kd=8\/kd=9:=by omega
 clear hk;rcases hk' with rfl|rfl|rfl|rfl|rfl|rfl|rfl|rfl|rfl|rfl
 ·go_wp2_with (go_at_call 38;refine(Rr tx _ htx).mono ?_;rintro e w5 ⟨rfl,g1⟩;have HB5:=qd (Below.step HB0.out g1);clear g1)
  go_ret;exact⟨rfl,HB5.out⟩
 ·go_wp2_with (go_at_call 38;refine(Rr tx _ htx).mono ?_;rintro e w5 ⟨rfl,g1⟩;have HB5:=qd (Below.step HB0.out g1);clear g1)
  go_ret;exact⟨rfl,HB5.out⟩
 ·go_wp2_with (go_at_call 39;refine(Qg w0 w1 w2 w3 (by unfold Cs;omega) (by unfold Cs;omega) (by unfold Cs;omega) (by unfold Cs;omega) _ HD.out).mono ?_;rintro e w5 ⟨rfl,g1⟩;have HB5:=qd (Below.step HB0.out g1);clear g1)
  go_ret;exact⟨rfl,HB5.out⟩
 ·go_wp2_with fail
  go_ret;refine⟨?_,HB0.out⟩;show _=Ending.returned (Value.string ⟨tx.data.toList.toArray⟩);rw[Rj];rfl
 ·have q:=HS.out 12 _ rfl;go_wp2_with fail
  go_ret;exact⟨rfl,HB0.out⟩
 ·have q:=HS.out 15 _ rfl;go_wp2_with fail
  go_ret;exact⟨rfl,HB0.out⟩
 ·have q:=HS.out 18 _ rfl;go_wp2_with fail
  go_ret;exact⟨rfl,HB0.out⟩
 ·have q:=HS.out 21 _ rfl;go_wp2_with fail
  go_ret;exact⟨rfl,HB0.out⟩
 ·have q:=HS.out 24 _ rfl;go_wp2_with fail
  go_ret;exact⟨rfl,HB0.out⟩
 ·have q:=HS.out 27 _ rfl;have c1:¬9223372036854775807<1+tx.size:=by omega
  have c2:¬9223372036854775807<1+tx.size+2:=by omega
  go_upto_region 10 with(fail)
  go_quiet (fail)
  go_wp2_with fail
  go_ret;refine⟨?_,⟨HB0.out.1,HB0.out.2,HB0.out.3,HB0.out.4,fun k hk=>HB0.out.5 k hk⟩⟩;refine congrArg (fun t=>Ending.returned (Value.string t)) (show _=(⟨([60]++tx.data.toList++[58,32]).toArray⟩:ByteArray)from ?_);apply ByteArray.ext;apply Array.ext';simp
end Go.Proofs.YtdnochjajoiooaaGreatDoor
namespace Go.Proofs.YtdnochjajoiooaaGreatDoor
open Go.RowKit
set_option linter.unusedSimpArgs false
set_option linter.unusedVariables false
def ArenaS (w:World) (b:Nat) (S:Nat->Prop) (ls:List Ln):Prop:=∃V c,w.heap[b]?=some (.cells #[.slice V ls.length c] 76 (0,0))/\w.ownsRow (b+1) 42 9 (.slice V ls.length c) ls.length (ndL.all ls)/\ ∀l∈ls,NdOwn w S l
theorem ArenaS.mono {w:World} {b:Nat} {S T:Nat->Prop} {ls:List Ln} (h:ArenaS w b S ls) (hS:∀x,S x->T x):ArenaS w b T ls:=by
 obtain⟨V,c,h1,h2,h3⟩:=h;exact⟨V,c,h1,h2,fun l hl=>(h3 l hl).mono fun x _=>hS x⟩
def ArenaAt (w:World) (b:Nat) (ls:List Ln):Prop:=∃V c,w.heap[b]?=some (.cells #[.slice V ls.length c] 76 (0,0))/\w.ownsRow (b+1) 42 9 (.slice V ls.length c) ls.length (ndL.all ls)/\ ∀l∈ls,NdOwn w (b < ·) l
def Rl (w:World) (x:Nat):Prop:=∃cs m,w.heap[x]?=some (.cells cs 42 m)
def KeptA (b:Nat) (w w':World):Prop:=Below b w w'/\ ∀x,x<w.heap.size->x≠b-> ¬Rl w x->w'.heap[x]?=w.heap[x]?
theorem KeptA.refl (b:Nat) (w:World):KeptA b w w:=⟨⟨rfl,rfl,rfl,Nat.le_refl _,fun _ _=>rfl⟩,fun _ _ _ _=>rfl⟩
theorem KeptA.trans {b:Nat} {w1 w2 w3:World} (h:KeptA b w1 w2) (k:KeptA b w2 w3):KeptA b w1 w3:=⟨h.1.trans k.1,fun x hx hb hn=>by
 have h1:=h.2 x hx hb hn;have h2:=h.1.size;refine(k.2 x (by omega) hb fun⟨cs,m,e⟩=>hn ⟨cs,m,by rw[<-h1];exact e⟩).trans h1⟩
theorem Below.keptA {b:Nat} {w w':World} (h:Below w.heap.size w w') (hb:b<=w.heap.size):KeptA b w w':=⟨h.mono hb,fun x hx _ _=>h.block x hx⟩
theorem G7:(42:TypeId)≠3:=by decide
theorem KeptA.int {b:Nat} {w w':World} {S:Nat->Prop} {n c:Nat} {V:Option Addr} {xs:List Value} (h:KeptA b w w') (ho:OwnS w S 3 1 V n c xs) (hV:Ai V≠some b):OwnS w' S 3 1 V n c xs:=by
 refine⟨Au ho.1 fun x hx=>h.2 x (Aq ho.1 x hx).2 (fun e=>hV (e▸hx)) fun⟨cs,m,e⟩=> ?_,ho.2⟩;rcases ho.1.2 with⟨hv,_⟩|⟨g,cap,cur,hv,_,hh,_⟩
 ·cases hv;cases hx
 ·cases hv;cases hx;rw[hh]at e;simp only[Option.some.injEq,Obj.cells.injEq]at e;exact G7 e.2.1.symm
theorem KeptA.nd {b:Nat} {w w':World} {S:Nat->Prop} {l:Ln} (h:KeptA b w w') (hS:∀x,S x->b<x) (hl:NdOwn w S l):NdOwn w' S l:=
 ⟨hl.1,h.int hl.2 fun e=>absurd (hS b (hl.2.2 b e)) (Nat.lt_irrefl b)⟩
theorem ArenaS.at {w:World} {b:Nat} {S:Nat->Prop} {ls:List Ln} (h:ArenaS w b S ls) (hS:∀x,S x->b<x):ArenaAt w b ls:=h.mono hS
def BM (b:Nat) (S:Nat->Prop) (al:List Nd) (r:Int) (w:World) (e:Ending) (w':World):Prop:=∃ls:List Ln,e=.returned (.int .i64 r)/\ls.map Ln.nd=al/\ArenaS w' b S ls/\KeptA b w w'
theorem NZ {w:World} {B n c:Nat} {V:Option Addr} {xs:List Value} (h:w.ownsRow B 42 9 (.slice V n c) n xs):∀x,Ai V=some x->Rl w x:=fun x hx=>by
 rcases h.2 with⟨hv,_⟩|⟨g,cap,cur,hv,_,hh,_⟩
 ·cases hv;cases hx
 ·cases hv;cases hx;exact⟨_,_,hh⟩
theorem Ub {w W w2:World} {o:Obj} {b n vc:Nat} {V:Option Addr} {u:Value} {xs:List Value} (h1:Below w.heap.size w W) (h2:(W.alloc o).drew.grownBy w2 (Ai V)\/(W.drew.alloc o).grownBy w2 (Ai V))
  (ho:w.ownsRow (b+1) 42 9 (.slice V n vc) n xs) (hlt:b<w.heap.size):KeptA b w (w2.setCell ⟨b,0,none⟩ u):=by
 have hW:=h1.size;refine⟨?_,fun x hx hne hv=> ?_⟩
 ·have hVB:∀k,some k=Ai V->b<=k:=fun k hk=>by have:=(Aq ho k hk.symm).1;omega
  have h5:Below b w w2:=by
   rcases h2 with h2|h2
   ·exact(((h1.mono (by omega)).trans ((bx1 W o).mono (by omega))).drew).grown h2 (by simp;omega) (fun k hk=>hVB k hk.symm)
   ·exact((((h1.mono (by omega)).drew).trans ((bx1 W.drew o).mono (by show b<=W.heap.size;omega)))).grown h2 (by simp;omega) (fun k hk=>hVB k hk.symm)
  exact h5.setCell (p:=⟨b,0,none⟩) (Nat.le_refl _) _
 ·have hxV:Ai V≠some x:=fun e=>hv (NZ ho x e)
  refine(Below.heap_setCell _ _ _ _ hne).trans (Eq.trans ?_ (h1.block x hx));rcases h2 with h2|h2
  ·exact(h2.block x (by simp;omega) (fun e=>hxV e.symm)).trans (Below.heap_alloc W _ x (by omega))
  ·exact(h2.block x (by simp;omega) (fun e=>hxV e.symm)).trans (Below.heap_alloc W.drew _ x (by show x<W.heap.size;omega))
set_option maxRecDepth 100000 in
set_option maxHeartbeats 3200000 in
theorem Rm (b:Nat) (S:Nat->Prop) (hS:∀x,S x->b<x) (ls:List Ln) (x:Ln) (w:World) (hA:ArenaS w b S ls) (hx:NdOwn w S x) (hn:ls.length<=4294967296):
  Calls Tryz.prog 67 #[.pointer (some ⟨b,0,none⟩),x.val] w (BM b S (ls.map Ln.nd++[x.nd]) (ls.length:Int) w):=by
 obtain⟨j0,hj,hy0,hy1,hy2⟩:=info_parts FK;have hzc:(Value.agg #[.int .u8 0,.int .u64 0,.int .u64 0,.int .u64 0,.int .u64 0,.string ByteArray.empty,.int .i64 0,.int .i64 0,.slice none 0 0]).cells.size=9:=rfl;obtain⟨V,vc,hw,ho,hk⟩:=hA;have HK:=qd hk;have HX:=qd hx;clear hk hx;generalize hnn:ls.length=n at *;have HNN:=qd hnn;clear hnn;have p1:w.cell? ⟨b,0,none⟩=some (.slice V n vc):=by simp[World.cell?,hw]
 have p2:w.frozen? ⟨b,0,none⟩=false:=by simp[World.frozen?,hw]
 have hlt:=Av hw;have HW:=qd hw;have HO:=qd ho;clear hw ho;go_enter Tryz.func67,Tryz.ntmps67
 go_upto_region 1 with(fail)
 have hWB:Below w.heap.size w (w.alloc (.cells #[.int .u8 x.nd.kind,.int .u64 x.nd.s0,.int .u64 x.nd.s1,.int .u64 x.nd.s2,.int .u64 x.nd.s3,.string x.nd.text,.int .i64 x.nd.mn,.int .i64 x.nd.mx,.slice x.A x.nd.kids.length x.c] 42)):=bx1 w _;have hWN:=Ad w (.cells #[.int .u8 x.nd.kind,.int .u64 x.nd.s0,.int .u64 x.nd.s1,.int .u64 x.nd.s2,.int .u64 x.nd.s3,.string x.nd.text,.int .i64 x.nd.mn,.int .i64 x.nd.mx,.slice x.A x.nd.kids.length x.c] 42);generalize (w.alloc (.cells #[.int .u8 x.nd.kind,.int .u64 x.nd.s0,.int .u64 x.nd.s1,.int .u64 x.nd.s2,.int .u64 x.nd.s3,.string x.nd.text,.int .i64 x.nd.mn,.int .i64 x.nd.mx,.slice x.A x.nd.kids.length x.c] 42))=W at *;clear p1 p2;have hkw:=Ae hWB HW.out;have p1:W.cell? ⟨b,0,none⟩=some (.slice V n vc):=by simp[World.cell?,hkw]
 have p2:W.frozen? ⟨b,0,none⟩=false:=by simp[World.frozen?,hkw]
 clear hkw;obtain⟨q0,q1,q2,q3,q4,q5,q6,q7,q8,_⟩:=BP hWN;have HWB:=qd hWB;have HWN:=qd hWN;clear hWB hWN;have HOW:=qd (show(W.drew.alloc (.cells #[.int .u8 x.nd.kind,.int .u64 x.nd.s0,.int .u64 x.nd.s1,.int .u64 x.nd.s2,.int .u64 x.nd.s3,.string x.nd.text,.int .i64 x.nd.mn,.int .i64 x.nd.mx,.slice x.A x.nd.kids.length x.c] 42)).ownsRow (b+1) 42 9 (.slice V n vc) n (ndL.all ls)from World.ownsRow.alloc (Au HO.out (fun x hx=>HWB.out.block x (Aq HO.out x hx).2)) _);have HWS:=qd HWB.out.size;have HF:=qd (show n+1<=maxLen/\(n+1)*96<=140737488355328/\b+1<=(W.drew.alloc (.cells #[.int .u8 x.nd.kind,.int .u64 x.nd.s0,.int .u64 x.nd.s1,.int .u64 x.nd.s2,.int .u64 x.nd.s3,.string x.nd.text,.int .i64 x.nd.mn,.int .i64 x.nd.mx,.slice x.A x.nd.kids.length x.c] 42)).heap.size from⟨by unfold maxLen;omega,by omega,by have:=HWB.out.size;simp;omega⟩);have HKB:=qd (show(W.drew.alloc (.cells #[.int .u8 x.nd.kind,.int .u64 x.nd.s0,.int .u64 x.nd.s1,.int .u64 x.nd.s2,.int .u64 x.nd.s3,.string x.nd.text,.int .i64 x.nd.mn,.int .i64 x.nd.mx,.slice x.A x.nd.kids.length x.c] 42)).heap[b]?=some (.cells #[.slice V n vc] 76 (0,0))from A7 (w:=W.drew) (by have h:=Ae HWB.out HW.out;exact h));have HVB:=qd (show ∀x,Ai V=some x->b+1<=x from fun x hx=>(Aq HO.out x hx).1);have HVB2:=qd (show Ai V≠some b from fun e=>by have:=HVB.out b e;omega);have hBwW:b<W.heap.size:=by have:=HWS.out;omega
 go_region_law ((refine Bm (by rfl) (.tmp 9) (.tmp 11) 22 (by rfl) (b+1) 42 j0 (.agg #[.int .u8 0,.int .u64 0,.int .u64 0,.int .u64 0,.int .u64 0,.string ByteArray.empty,.int .i64 0,.int .i64 0,.slice none 0 0]) 9 96 Tryz.underlying22 hj hy0 hy1 hy2 hzc (by decide) V vc n (ndL.all ls) (by rfl) HOW.out (some ⟨W.heap.size,0,none⟩) 1 1 [.int .u8 x.nd.kind,.int .u64 x.nd.s0,.int .u64 x.nd.s1,.int .u64 x.nd.s2,.int .u64 x.nd.s3,.string x.nd.text,.int .i64 x.nd.mn,.int .i64 x.nd.mx,.slice x.A x.nd.kids.length x.c] (by rfl) rfl (Be (Ad W.drew _)) (fun u hu=>by simp only[List.mem_cons,List.not_mem_nil,or_false]at hu;rcases hu with rfl|rfl|rfl|rfl|rfl|rfl|rfl|rfl|rfl <;> rfl) HF.out.1 HF.out.2.1 HF.out.2.2 ?_;intro V' vc' w2 HO2 HG2 HA2;have HK2:=qd ((HG2.out.block b (Av HKB.out) (fun e=>HVB2.out e.symm)).trans HKB.out);have t1:w2.cell? ⟨b,0,none⟩=some (.slice V n vc):=(by simp[World.cell?,HK2.out]);have t2:w2.frozen? ⟨b,0,none⟩=false:=(by simp[World.frozen?,HK2.out])))
 all_goals
  clear t1 t2 p1 p2 q0 q1 q2 q3 q4 q5 q6 q7 q8;have HKA:=qd (show KeptA b w (w2.setCell ⟨b,0,none⟩ (.slice V' (n+1) vc'))from Ub HWB.out (by first|exact Or.inl HG2.out|exact Or.inr HG2.out) HO.out hlt)
  have HAA:=qd (show ArenaS (w2.setCell ⟨b,0,none⟩ (.slice V' (n+1) vc')) b S (ls++[x])from by
   have ho2:=HO2.out;rw[show ndL.all ls++[Value.int .u8 x.nd.kind,.int .u64 x.nd.s0,.int .u64 x.nd.s1,.int .u64 x.nd.s2,.int .u64 x.nd.s3,.string x.nd.text,.int .i64 x.nd.mn,.int .i64 x.nd.mx,.slice x.A x.nd.kids.length x.c]=ndL.all (ls++[x])by rw[ndL.all_append,ndL.all_one];rfl]at ho2;refine⟨V',vc',?_,?_,fun l hl=> ?_⟩
   ·rw[List.length_append,HNN.out];exact Fb HK2.out
   ·rw[List.length_append,HNN.out];exact Au ho2 fun x hx=>Below.heap_setCell _ _ _ _ (by have:=(Aq ho2 x hx).1;show x≠b;omega)
   ·refine HKA.out.nd hS ?_;rcases List.mem_append.1 hl with hl|hl
    ·exact HK.out l hl
    ·rw[List.mem_singleton.1 hl];exact HX.out)
  generalize (w2.setCell ⟨b,0,none⟩ (.slice V' (n+1) vc'))=w3 at *;obtain⟨V3,vc3,hk3,_⟩:=HAA.out;have t1:w3.cell? ⟨b,0,none⟩=some (.slice V3 (n+1) vc3):=(by simp[World.cell?,hk3,HNN.out]);clear hk3;go_wp2_with fail
  go_ret;exact⟨ls++[x],RU (by omega),by simp,HAA.out,HKA.out⟩
end Go.Proofs.YtdnochjajoiooaaGreatDoor
/- The contracts of keep,join,seq,choice. -/
namespace Go.Proofs.YtdnochjajoiooaaGreatDoor
open Go.RowKit
set_option linter.unusedSimpArgs false
set_option linter.unusedVariables false
theorem ArenaS.below {w w':World} {b:Nat} {S:Nat->Prop} {ls:List Ln} (h:ArenaS w b S ls) (hb:Below w.heap.size w w'):ArenaS w' b S ls:=by
 obtain⟨V,c,h1,h2,h3⟩:=h;exact⟨V,c,Ae hb h1,CI h2 hb,fun l hl=>(h3 l hl).agree (AF hb)⟩
theorem J4 {w:World} {b n c:Nat} {V:Option Addr} {ls:List Ln} (h:w.ownsRow (b+1) 42 9 (.slice V n c) n (ndL.all ls)) (hk:∀l∈ls,NdOwn w (b < ·) l):ndL.row w (b < ·) V ls:=
 ⟨Hk h fun ad e=>by have:=(Sw h ad e).1;show b<ad.block;omega,fun l hl=>(hk l hl).inn⟩
theorem ArenaAt.below {w w':World} {b:Nat} {ls:List Ln} (h:ArenaAt w b ls) (hb:Below w.heap.size w w'):ArenaAt w' b ls:=ArenaS.below (S:=(b < ·)) h hb
set_option maxRecDepth 100000 in
set_option maxHeartbeats 3200000 in
theorem Oa (b:Nat) (S:Nat->Prop) (hS:∀x,S x->b<x) (ls:List Ln) (x:Ln) (K:Value) (w:World) (hA:ArenaS w b S ls) (hx:NdOwn w S x) (hn:ls.length<=4294967296):
  Calls Tryz.prog 49 #[.pointer (some ⟨b,0,none⟩),ndV x.nd K,x.kv] w (BM b S (ls.map Ln.nd++[x.nd]) (ls.length:Int) w):=by
 have hlt:b<w.heap.size:=by obtain⟨V,c,h,_⟩:=hA;exact Av h
 have HA:=qd hA;have HX:=qd hx;clear hA hx;have HAD:=qd (fun w' (h:ArenaS w' b S ls) (hx:NdOwn w' S x)=>Rm b S hS ls x w' h hx hn);unfold BM at HAD ⊢;go_enter Tryz.func49,Tryz.ntmps49
 go_upto_region 2 with(fail)
 go_wp2_with (first
  |(go_at_call 67;(with_reducible refine(HAD.out _ (HA.out.below (bx1 w _)) (HX.out.agree (AF (bx1 w _)))).mono ?_);rintro e w3 ⟨ls',rfl,h1,h2,h3⟩;have H1:=qd h1;have H2:=qd h2;have H3:=qd h3;clear h1 h2 h3)
  |fail)
 go_ret;exact⟨ls',rfl,H1.out,H2.out,(Below.keptA (bx1 w _) (by omega)).trans H3.out⟩
def ES (pb:Nat) (ps:List Int) (w:World) (e:Ending) (w':World):Prop:=∃U uc,e=.returned (.tuple #[])/\w'.heap[pb]?=some (.cells #[.slice U ps.length uc] 40 (0,0))/\w'.ownsRow (pb+1) 3 1 (.slice U ps.length uc) ps.length (Az.all ps)/\Below pb w w'
set_option maxRecDepth 100000 in
set_option maxHeartbeats 3200000 in
theorem PE (b pb ab nb:Nat) (ls:List Ln) (n:Nd) (K:Value) (k:Nat) (ps:List Int) (uc:Nat) (U:Option Addr) (w:World) (hA:ArenaAt w b ls)
  (hn:w.heap[nb]?=some (.cells #[.int .u8 n.kind,.int .u64 n.s0,.int .u64 n.s1,.int .u64 n.s2,.int .u64 n.s3,.string n.text,.int .i64 n.mn,.int .i64 n.mx,K] 42 (0,0)))
  (ha:w.heap[ab]?=some (.cells #[.pointer (some ⟨b,0,none⟩)] 80 (0,0))) (hp:w.heap[pb]?=some (.cells #[.slice U ps.length uc] 40 (0,0)))
  (hU:w.ownsRow (pb+1) 3 1 (.slice U ps.length uc) ps.length (Az.all ps)) (hml:ps.length<=4294967296) (hk:k<ls.length):
  Calls Tryz.prog 82 #[.int .i64 (k:Int),.pointer (some ⟨nb,0,none⟩),.pointer (some ⟨ab,0,none⟩),.pointer (some ⟨pb,0,none⟩)] w (ES pb (ps++Cn (ls.map Ln.nd) n [(k:Int)]) w):=by
 obtain⟨i0,hi,hz0,hz1,hz2⟩:=info_parts DA;obtain⟨V,vc,hw,ho,hkk⟩:=hA;have hrow:=J4 ho hkk;clear hkk;obtain⟨y0,_⟩:=BP hn;have x0:w.cell? ⟨ab,0,none⟩=some (.pointer (some ⟨b,0,none⟩)):=by simp[World.cell?,ha]
 have x1:w.cell? ⟨b,0,none⟩=some (.slice V ls.length vc):=by simp[World.cell?,hw]
 have x2:w.cell? ⟨pb,0,none⟩=some (.slice U ps.length uc):=by simp[World.cell?,hp]
 have x3:w.frozen? ⟨pb,0,none⟩=false:=by simp[World.frozen?,hp]
 obtain⟨g,o,hA,_,hgl,z0,_⟩:=D3 hrow k hk;subst hA;have hlk:(An (ls.map Ln.nd) k).kind=ls[k].nd.kind:=by simp[An,hk]
 have hps:Cn (ls.map Ln.nd) n [(k:Int)]=if n.kind≠4\/ls[k].nd.kind≠0 then[(k:Int)]else[]:=by
  unfold Cn;rw[List.filter_cons,Int.toNat_natCast,hlk];simp
 have hpl:=Av hp;rw[hps];clear hps hrow ho;have HP:=qd hp;have HU:=qd hU;clear hp hU hn ha hw;have i1:(k:Int)<(ls.length:Int):=by omega
 have i2:(0:Int)<=(k:Int):=by omega
 have HO2:=qd (show(w.alloc (.cells #[.int .i64 (k:Int)] 3)).ownsRow (pb+1) 3 1 (.slice U ps.length uc) ps.length (Az.all ps)from World.ownsRow.alloc HU.out _);have F2:=qd (show ps.length+1<=maxLen/\(ps.length+1)*8<=140737488355328/\pb+1<=(w.alloc (.cells #[.int .i64 (k:Int)] 3)).heap.size from⟨by unfold maxLen;omega,by omega,by simp;omega⟩);generalize hnk:n.kind=nk at *;generalize ls[k].nd.kind=lk at *;have HVBB:=qd (show ∀x,Ai U=some x->pb+1<=x from fun x hx=>(Aq HU.out x hx).1);have HVB:=qd (show Ai U≠some pb from fun e=>by have:=HVBB.out pb e;omega);by_cases h4:nk=4
 ·subst h4;by_cases h0:lk=0
  ·subst h0;rw[if_neg (by simp),List.append_nil];go_enter Tryz.func82,Tryz.ntmps82
   go_wp2_with fail
   exact bodyPost_end (v:=.tuple #[]) (by simp[results,Tryz.results82,go_sem]) rfl (by
    unfold ES;exact⟨U,uc,rfl,HP.out,HU.out,Below.refl _ _⟩)
  ·have h0':(lk != 0)=true:=by simpa using h0
   rw[if_pos (.inr h0)];go_enter Tryz.func82,Tryz.ntmps82
   go_wp2_with (at_builtin;refine Ax _ rfl (.tmp 19) (.tmp 21) 40 rfl (pb+1) 3 i0 (.int .i64 0) 1 8 Tryz.underlying40 hi hz0 hz1 hz2 rfl (by decide) U uc ps.length (Az.all ps) rfl HO2.out (some ⟨w.heap.size,0,none⟩) 1 1 (Az.all [(k:Int)]) rfl (by simp[Az,Lay.all]) (Be (Ad w _)) (Az.all_one' _) F2.out.1 F2.out.2.1 F2.out.2.2 ?_;intro V'' vc'' w3 HO3 HG3 HA3;have HK3:=qd ((HG3.out.block pb (by simp;omega) (fun e=>HVB.out e.symm)).trans (A7 HP.out));have t1:w3.cell? ⟨pb,0,none⟩=some (.slice U ps.length uc):=(by simp[World.cell?,HK3.out]);have t2:w3.frozen? ⟨pb,0,none⟩=false:=(by simp[World.frozen?,HK3.out]))
   have hB3:Below pb w w3:=((bx1 w _).mono (Nat.le_of_lt hpl)).grown HG3.out (by simp;omega) (fun x hx=>by have:=HVBB.out x hx;omega)
   exact bodyPost_end (v:=.tuple #[]) (by simp[results,Tryz.results82,go_sem]) rfl (by
    unfold ES;rw[List.length_append];exact⟨V'',vc'',rfl,Fb HK3.out,by rw[Az.all_append];exact Au HO3.out fun x hx=>Below.heap_setCell _ _ _ _ (by have:=(Aq HO3.out x hx).1;show x≠pb;omega),hB3.setCell (p:=⟨pb,0,none⟩) (Nat.le_refl _) _⟩)
 ·have h4':(nk != 4)=true:=by simpa using h4
  rw[if_pos (.inl h4)]
  ·skip
   go_enter Tryz.func82,Tryz.ntmps82
   go_wp2_with (at_builtin;refine Ax _ rfl (.tmp 19) (.tmp 21) 40 rfl (pb+1) 3 i0 (.int .i64 0) 1 8 Tryz.underlying40 hi hz0 hz1 hz2 rfl (by decide) U uc ps.length (Az.all ps) rfl HO2.out (some ⟨w.heap.size,0,none⟩) 1 1 (Az.all [(k:Int)]) rfl (by simp[Az,Lay.all]) (Be (Ad w _)) (Az.all_one' _) F2.out.1 F2.out.2.1 F2.out.2.2 ?_;intro V'' vc'' w3 HO3 HG3 HA3;have HK3:=qd ((HG3.out.block pb (by simp;omega) (fun e=>HVB.out e.symm)).trans (A7 HP.out));have t1:w3.cell? ⟨pb,0,none⟩=some (.slice U ps.length uc):=(by simp[World.cell?,HK3.out]);have t2:w3.frozen? ⟨pb,0,none⟩=false:=(by simp[World.frozen?,HK3.out]))
   have hB3:Below pb w w3:=((bx1 w _).mono (Nat.le_of_lt hpl)).grown HG3.out (by simp;omega) (fun x hx=>by have:=HVBB.out x hx;omega)
   exact bodyPost_end (v:=.tuple #[]) (by simp[results,Tryz.results82,go_sem]) rfl (by
    unfold ES;rw[List.length_append];exact⟨V'',vc'',rfl,Fb HK3.out,by rw[Az.all_append];exact Au HO3.out fun x hx=>Below.heap_setCell _ _ _ _ (by have:=(Aq HO3.out x hx).1;show x≠pb;omega),hB3.setCell (p:=⟨pb,0,none⟩) (Nat.le_refl _) _⟩)
end Go.Proofs.YtdnochjajoiooaaGreatDoor
