/- The contract of print.Count. -/
import Derived.Test.YtdnochjajoiooaaDoorGh
import Derived.Test.YtdnochjajoiooaaDoorDw
import Derived.Test.YtdnochjajoiooaaDoorHg
import Derived.Test.YtdnochjajoiooaaDoorDj
import Derived.Test.YtdnochjajoiooaaDoorNs
import Derived.BigQuiet
namespace Go.Proofs.YtdnochjajoiooaaDoor
open Go.RowKit
set_option linter.unusedSimpArgs false
set_option linter.unusedVariables false
set_option maxHeartbeats 6400000 in
theorem wraps_any (k d:Int) (hk:0≤k∧k≤9) (hd:0≤d∧d≤9) (w:World):
  Calls Tryd.prog 36 #[.int .u8 k,.int .u8 d] w fun e w'=>e=.returned (.bool (wrapsK k d))∧w'=w:=by
 go_enter Tryd.func36,Tryd.ntmps36
 have hk':k=0∨k=1∨k=2∨k=3∨k=9∨k=4∨k=5∨k=6∨k=7∨k=8:=by omega
 have hd':d=0∨d=1∨d=2∨d=3∨d=9∨d=4∨d=5∨d=6∨d=7∨d=8:=by omega
 clear hk hd
 rcases hk' with rfl|rfl|rfl|rfl|rfl|rfl|rfl|rfl|rfl|rfl
 all_goals
  rcases hd' with rfl|rfl|rfl|rfl|rfl|rfl|rfl|rfl|rfl|rfl
  all_goals
   go_wp2
   go_ret
   exact⟨rfl,rfl⟩
end Go.Proofs.YtdnochjajoiooaaDoor
namespace Go.Proofs.YtdnochjajoiooaaDoor
open Go.RowKit
set_option linter.unusedSimpArgs false
set_option linter.unusedVariables false
def CoTab (w:World):Prop:=∀j u,[Value.int .i64 0,.int .i64 1,.string ⟨#[63]⟩,.int .i64 0,.int .i64 (-1),.string ⟨#[42]⟩,.int .i64 1,.int .i64 (-1),.string ⟨#[43]⟩][j]?=some u→w.cell? ⟨1,j,none⟩=some u
theorem CoTab.below {w w':World} (h:CoTab w) (hb:Below w.heap.size w w'):CoTab w':=fun j u hu=>(hb.cell (cellLt (h j u hu))).trans (h j u hu)
theorem row3 (x0 x1 x2 x3 x4 x5 x6 x7 x8:Value):∀w,(Instr.index 86 (.agg #[x0,x1,x2,x3,x4,x5,x6,x7,x8]) (.int .i64 0)).run Tryd.prog w=.ok (.agg #[x0,x1,x2]) w:=fun _=>by kernel_rfl
theorem row4 (x0 x1 x2 x3 x4 x5 x6 x7 x8:Value):∀w,(Instr.index 86 (.agg #[x0,x1,x2,x3,x4,x5,x6,x7,x8]) (.int .i64 1)).run Tryd.prog w=.ok (.agg #[x3,x4,x5]) w:=fun _=>by kernel_rfl
theorem row5 (x0 x1 x2 x3 x4 x5 x6 x7 x8:Value):∀w,(Instr.index 86 (.agg #[x0,x1,x2,x3,x4,x5,x6,x7,x8]) (.int .i64 2)).run Tryd.prog w=.ok (.agg #[x6,x7,x8]) w:=fun _=>by kernel_rfl
def hitC (k:Nat) (lo hi:Int):Prop:=(k=0∧lo=0∧hi=1)∨(k=1∧lo=0∧hi = -1)∨(k=2∧lo=1∧hi = -1)
set_option maxRecDepth 100000 in
set_option maxHeartbeats 3200000 in
theorem count_any (lo hi:Int) (w:World) (ht:Tab w) (hg:4<w.heap.size) (hc:CoTab w) (hn:CntTab w):
  Calls Tryd.prog 12 #[.int .i64 lo,.int .i64 hi] w (TextPost (countB lo hi) w):=by
 unfold TextPost
 have HT3:=Lib.hid (show ∀w',Below w.heap.size w w'→Tab w' from fun w' hb=>by
  unfold Tab Lib.TabIs at *
  exact var_below hb (by kernel_rfl) hg ht)
 have HC:=Lib.hid hc
 go_enter Tryd.func12,Tryd.ntmps12
 go_wp2_with fail
 refine(fits_any ⟨6,0,0,0,0,⟨#[]⟩,lo,hi,[]⟩ (.slice none 0 0) 1 w hn ⟨by simp,by simp⟩ (by simp[ByteArray.size])).mono ?_
 rintro e w1 ⟨rfl,hb1⟩
 have HB1:=Lib.hid hb1
 clear hb1 hc ht hn
 have hq:countB lo hi=if ¬(0≤lo∧lo≤99∧(hi = -1∨(lo≤hi∧hi≤99)))then[]else if lo=0∧hi=1 then[63]else if lo=0∧hi = -1 then[42]else if lo=1∧hi = -1 then[43]
  else if hi=lo then[123]++numB lo++[125]else if hi = -1 then[123]++numB lo++[44,125]else[123]++numB lo++[44]++numB hi++[125]:=rfl
 have hf:fitN ⟨6,0,0,0,0,⟨#[]⟩,lo,hi,[]⟩ 1=decide (0≤lo∧lo≤99∧(hi = -1∨(lo≤hi∧hi≤99))):=by
  simp[fitN,noSet,noText,ByteArray.size]
 rw[hf]
 by_cases hok:0≤lo∧lo≤99∧(hi = -1∨(lo≤hi∧hi≤99))
 ·have hd:=decide_eq_true hok
  rw[if_neg (fun h=>h hok)]at hq
  rw[hd]
  have c0:=HC.out.below HB1.out 0 _ rfl;have c1:=HC.out.below HB1.out 1 _ rfl;have c2:=HC.out.below HB1.out 2 _ rfl;have c3:=HC.out.below HB1.out 3 _ rfl;have c4:=HC.out.below HB1.out 4 _ rfl;have c5:=HC.out.below HB1.out 5 _ rfl;have c6:=HC.out.below HB1.out 6 _ rfl;have c7:=HC.out.below HB1.out 7 _ rfl;have c8:=HC.out.below HB1.out 8 _ rfl
  go_wp2_with fail
  clear c0 c1 c2 c3 c4 c5 c6 c7 c8
  go_loopw [13] (fun i wr=>∃k:Nat,k≤3∧i=.int .i64 k∧Hid (∀j,j<k→ ¬hitC j lo hi)∧Hid (Below w1.heap.size w1 wr)) (fun i _=>3-(intOf i).toNat)
  case atStart=>exact⟨0,by omega,rfl,Lib.hid (fun j hj=>by omega),Lib.hid (Below.refl _ _)⟩
  case round=>
   obtain⟨k,hk,rfl,HH,HB⟩:=hrel
   by_cases hlt:k<3
   ·generalize hz:(k:Int)=z
    obtain⟨rfl,rfl⟩|⟨rfl,rfl⟩|⟨rfl,rfl⟩:(k=0∧z=0)∨(k=1∧z=1)∨(k=2∧z=2):=by omega
    ·have i0:=row3 (.int .i64 0) (.int .i64 1) (.string ⟨#[63]⟩) (.int .i64 0) (.int .i64 (-1)) (.string ⟨#[42]⟩) (.int .i64 1) (.int .i64 (-1)) (.string ⟨#[43]⟩)
     by_cases a1:lo=0
     ·have b1:((0:Int)==lo)=true:=by simp;omega
      have A1:=Lib.hid a1
      clear a1
      by_cases a2:hi=1
      ·have b2:((1:Int)==hi)=true:=by simp;omega
       have A2:=Lib.hid a2
       clear a2
       go_wp2_with fail
       go_ret
       have hq2:countB lo hi=[63]:=by rw[hq,A1.out,A2.out];rfl
       exact⟨by rw[hq2];rfl,Below.step HB1.out (Below.step HB.out (bx1 _ _))⟩
      ·have b2:((1:Int)==hi)=false:=by simp;omega
       have d2:¬(1:Int)=hi:=by omega
       go_wp2_with fail
       exact⟨⟨1,by omega,rfl,Lib.hid (fun j hj=>by unfold hitC;have h8:=HH.out j;unfold hitC at h8;first|omega|(have h9:=A1.out;omega)),Lib.hid (Below.step HB.out (bx1 _ _))⟩,by simp only[intOf];decide⟩
     ·have b1:((0:Int)==lo)=false:=by simp;omega
      have d1:¬(0:Int)=lo:=by omega
      go_wp2_with fail
      exact⟨⟨1,by omega,rfl,Lib.hid (fun j hj=>by unfold hitC;have h8:=HH.out j;unfold hitC at h8;first|omega|(have h9:=A1.out;omega)),Lib.hid (Below.step HB.out (bx1 _ _))⟩,by simp only[intOf];decide⟩
    ·have i0:=row4 (.int .i64 0) (.int .i64 1) (.string ⟨#[63]⟩) (.int .i64 0) (.int .i64 (-1)) (.string ⟨#[42]⟩) (.int .i64 1) (.int .i64 (-1)) (.string ⟨#[43]⟩)
     by_cases a1:lo=0
     ·have b1:((0:Int)==lo)=true:=by simp;omega
      have A1:=Lib.hid a1
      clear a1
      by_cases a2:hi=(-1)
      ·have b2:(((-1):Int)==hi)=true:=by simp;omega
       have A2:=Lib.hid a2
       clear a2
       go_wp2_with fail
       go_ret
       have hq2:countB lo hi=[42]:=by rw[hq,A1.out,A2.out];rfl
       exact⟨by rw[hq2];rfl,Below.step HB1.out (Below.step HB.out (bx1 _ _))⟩
      ·have b2:(((-1):Int)==hi)=false:=by simp;omega
       have d2:¬((-1):Int)=hi:=by omega
       go_wp2_with fail
       exact⟨⟨2,by omega,rfl,Lib.hid (fun j hj=>by unfold hitC;have h8:=HH.out j;unfold hitC at h8;first|omega|(have h9:=A1.out;omega)),Lib.hid (Below.step HB.out (bx1 _ _))⟩,by simp only[intOf];decide⟩
     ·have b1:((0:Int)==lo)=false:=by simp;omega
      have d1:¬(0:Int)=lo:=by omega
      go_wp2_with fail
      exact⟨⟨2,by omega,rfl,Lib.hid (fun j hj=>by unfold hitC;have h8:=HH.out j;unfold hitC at h8;first|omega|(have h9:=A1.out;omega)),Lib.hid (Below.step HB.out (bx1 _ _))⟩,by simp only[intOf];decide⟩
    ·have i0:=row5 (.int .i64 0) (.int .i64 1) (.string ⟨#[63]⟩) (.int .i64 0) (.int .i64 (-1)) (.string ⟨#[42]⟩) (.int .i64 1) (.int .i64 (-1)) (.string ⟨#[43]⟩)
     by_cases a1:lo=1
     ·have b1:((1:Int)==lo)=true:=by simp;omega
      have A1:=Lib.hid a1
      clear a1
      by_cases a2:hi=(-1)
      ·have b2:(((-1):Int)==hi)=true:=by simp;omega
       have A2:=Lib.hid a2
       clear a2
       go_wp2_with fail
       go_ret
       have hq2:countB lo hi=[43]:=by rw[hq,A1.out,A2.out];rfl
       exact⟨by rw[hq2];rfl,Below.step HB1.out (Below.step HB.out (bx1 _ _))⟩
      ·have b2:(((-1):Int)==hi)=false:=by simp;omega
       have d2:¬((-1):Int)=hi:=by omega
       go_wp2_with fail
       exact⟨⟨3,by omega,rfl,Lib.hid (fun j hj=>by unfold hitC;have h8:=HH.out j;unfold hitC at h8;first|omega|(have h9:=A1.out;omega)),Lib.hid (Below.step HB.out (bx1 _ _))⟩,by simp only[intOf];decide⟩
     ·have b1:((1:Int)==lo)=false:=by simp;omega
      have d1:¬(1:Int)=lo:=by omega
      go_wp2_with fail
      exact⟨⟨3,by omega,rfl,Lib.hid (fun j hj=>by unfold hitC;have h8:=HH.out j;unfold hitC at h8;first|omega|(have h9:=A1.out;omega)),Lib.hid (Below.step HB.out (bx1 _ _))⟩,by simp only[intOf];decide⟩
   ·obtain rfl:k=3:=by omega
    have n0:=HH.out 0 (by decide);have n1:=HH.out 1 (by decide);have n2:=HH.out 2 (by decide)
    unfold hitC at n0 n1 n2
    have HT2:=Lib.hid (show ∀w',Below wr.heap.size wr w'→Tab w' from fun w' hb=>by have h:=(Below.step HB1.out HB.out);exact(HT3.out w' (Below.step h hb)))
    rw[if_neg (by omega),if_neg (by omega),if_neg (by omega)]at hq
    clear HH n0 n1 n2
    have HW:=Lib.hid (Below.step HB1.out HB.out)
    have hl1:=Lib.itoa_length_le lo (by omega) (by omega)
    have hl2:=Lib.itoa_length_le hi (by omega) (by omega)
    have q1:¬9223372036854775807<1+(Lib.itoa lo).length:=by omega
    have q2:¬9223372036854775807<1+(Lib.itoa lo).length+1:=by omega
    have q3:¬9223372036854775807<1+(Lib.itoa lo).length+2:=by omega
    have q4:¬9223372036854775807<1+(Lib.itoa lo).length+1+(Lib.itoa hi).length:=by omega
    have q5:¬9223372036854775807<1+(Lib.itoa lo).length+1+(Lib.itoa hi).length+1:=by omega
    by_cases e1:hi=lo
    ·have f1:(hi==lo)=true:=by simpa using e1
     rw[if_pos e1]at hq
     have E1:=Lib.hid e1
     clear e1
     go_wp2_with fail
     refine(show_any lo _ (by omega) (by omega) (HT2.out _ (Below.refl _ _))).mono ?_
     rintro e w5 ⟨rfl,g1⟩
     have HB5:=Lib.hid (Below.step HW.out g1)
     clear g1
     go_wp2_with fail
     go_ret
     exact⟨by rw[hq];congr 2,HB5.out⟩
    ·have f1:(hi==lo)=false:=by simpa using e1
     rw[if_neg e1]at hq
     by_cases e2:hi = -1
     ·have f2:(hi==(-1:Int))=true:=by simpa using e2
      rw[if_pos e2]at hq
      have E2:=Lib.hid e2
      clear e2
      go_wp2_with fail
      refine(show_any lo _ (by omega) (by omega) (HT2.out _ (Below.refl _ _))).mono ?_
      rintro e w5 ⟨rfl,g1⟩
      have HB5:=Lib.hid (Below.step HW.out g1)
      clear g1
      go_wp2_with fail
      go_ret
      exact⟨by rw[hq];congr 2,HB5.out⟩
     ·have f2:(hi==(-1:Int))=false:=by simpa using e2
      rw[if_neg e2]at hq
      go_wp2_with fail
      refine(show_any lo _ (by omega) (by omega) (HT2.out _ (Below.refl _ _))).mono ?_
      rintro e w5 ⟨rfl,g1⟩
      have HB5:=Lib.hid (g1)
      clear g1
      go_wp2_with fail
      refine(show_any hi _ (by omega) (by omega) (HT2.out _ HB5.out)).mono ?_
      rintro e w6 ⟨rfl,g1⟩
      have HB6:=Lib.hid (Below.step HW.out (Below.step HB5.out g1))
      clear g1
      go_wp2_with fail
      go_ret
      exact⟨by rw[hq];congr 2,HB6.out⟩
 ·have hd:=decide_eq_false hok
  rw[if_pos hok]at hq
  rw[hd]
  go_wp2_with fail
  go_ret
  exact⟨by rw[hq];rfl,HB1.out⟩
end Go.Proofs.YtdnochjajoiooaaDoor
/- The contract of print.behind. -/
namespace Go.Proofs.YtdnochjajoiooaaDoor
open Go.RowKit
set_option linter.unusedSimpArgs false
set_option linter.unusedVariables false
def sgL:List (List UInt8):=[[],[],[],[],[],[],[],[],[],[],[],[],[],[32],[],[],[32,47,32],[],[],[],[],[38],[],[],[33],[],[],[60],[],[62]]
def SgTab (w:World):Prop:=∀j l,sgL[j]?=some l→w.cell? ⟨0,j,none⟩=some (.string ⟨l.toArray⟩)
theorem SgTab.below {w w':World} (h:SgTab w) (hb:Below w.heap.size w w'):SgTab w':=fun j u hu=>(hb.cell (cellLt (h j u hu))).trans (h j u hu)
set_option maxRecDepth 100000 in
set_option maxHeartbeats 3200000 in
theorem pbehind_any (n:Nd) (K:Value) (w:World) (hk:0≤n.kind∧n.kind≤9) (hs:SgTab w) (ht:Tab w) (hg:4<w.heap.size) (hc:CoTab w) (hn:CntTab w):
  Calls Tryd.prog 37 #[ndV n K] w (TextPost (behindB n) w):=by
 obtain⟨kd,s0,s1,s2,s3,tx,mn,mx,kids⟩:=n
 simp only at hk
 unfold TextPost
 have HB0:=Lib.hid (bx1 w (.cells #[.int .u8 kd,.int .u64 s0,.int .u64 s1,.int .u64 s2,.int .u64 s3,.string tx,.int .i64 mn,.int .i64 mx,K] 35))
 have HS:=Lib.hid (hs.below HB0.out)
 go_enter Tryd.func37,Tryd.ntmps37
 have hk':kd=6∨kd=0∨kd=1∨kd=2∨kd=3∨kd=4∨kd=5∨kd=7∨kd=8∨kd=9:=by omega
 clear hk
 rcases hk' with rfl|rfl|rfl|rfl|rfl|rfl|rfl|rfl|rfl|rfl
 ·have hz:4<(w.alloc (.cells #[.int .u8 6,.int .u64 s0,.int .u64 s1,.int .u64 s2,.int .u64 s3,.string tx,.int .i64 mn,.int .i64 mx,K] 35)).heap.size:=by have:=HB0.out.size;omega
  go_wp2_with (go_at_call 12;refine(count_any mn mx _ (by unfold Tab Lib.TabIs at *;exact var_below HB0.out (by kernel_rfl) hg ht) hz (hc.below HB0.out) (hn.below HB0.out)).mono ?_;rintro e w5 ⟨rfl,g1⟩;have HB5:=Lib.hid (Below.step HB0.out g1);clear g1)
  go_ret
  exact⟨rfl,HB5.out⟩
 ·have q:=HS.out 2 _ rfl
  go_wp2_with fail
  go_ret
  exact⟨rfl,HB0.out⟩
 ·have q:=HS.out 5 _ rfl
  go_wp2_with fail
  go_ret
  exact⟨rfl,HB0.out⟩
 ·have q:=HS.out 8 _ rfl
  go_wp2_with fail
  go_ret
  exact⟨rfl,HB0.out⟩
 ·have q:=HS.out 11 _ rfl
  go_wp2_with fail
  go_ret
  exact⟨rfl,HB0.out⟩
 ·have q:=HS.out 14 _ rfl
  go_wp2_with fail
  go_ret
  exact⟨rfl,HB0.out⟩
 ·have q:=HS.out 17 _ rfl
  go_wp2_with fail
  go_ret
  exact⟨rfl,HB0.out⟩
 ·have q:=HS.out 23 _ rfl
  go_wp2_with fail
  go_ret
  exact⟨rfl,HB0.out⟩
 ·have q:=HS.out 26 _ rfl
  go_wp2_with fail
  go_ret
  exact⟨rfl,HB0.out⟩
 ·have q:=HS.out 29 _ rfl
  go_wp2_with fail
  go_ret
  exact⟨rfl,HB0.out⟩
end Go.Proofs.YtdnochjajoiooaaDoor
/- The contract of print.ahead. -/
namespace Go.Proofs.YtdnochjajoiooaaDoor
open Go.RowKit
set_option linter.unusedSimpArgs false
set_option linter.unusedVariables false
theorem mk_text (tx:ByteArray):(⟨tx.data.toList.toArray⟩:ByteArray)=tx:=by cases tx;simp
def wordsOk (n:Nd):Prop:=(0≤n.s0∧n.s0<18446744073709551616)∧(0≤n.s1∧n.s1<18446744073709551616)∧(0≤n.s2∧n.s2<18446744073709551616)∧(0≤n.s3∧n.s3<18446744073709551616)
set_option maxRecDepth 100000 in
set_option maxHeartbeats 3200000 in
theorem pahead_any (n:Nd) (K:Value) (w:World) (hk:0≤n.kind∧n.kind≤9) (hw:wordsOk n) (htx:n.text.size≤1000000) (hs:SgTab w) (hd:DbTab w):
  Calls Tryd.prog 35 #[ndV n K] w (TextPost (aheadB n) w):=by
 obtain⟨kd,s0,s1,s2,s3,tx,mn,mx,kids⟩:=n
 simp only[wordsOk]at hk hw htx
 obtain⟨⟨p0,q0⟩,⟨p1,q1⟩,⟨p2,q2⟩,p3,q3⟩:=hw
 obtain⟨w0,rfl⟩:=Int.eq_ofNat_of_zero_le p0
 obtain⟨w1,rfl⟩:=Int.eq_ofNat_of_zero_le p1
 obtain⟨w2,rfl⟩:=Int.eq_ofNat_of_zero_le p2
 obtain⟨w3,rfl⟩:=Int.eq_ofNat_of_zero_le p3
 unfold TextPost
 have HB0:=Lib.hid (bx1 w (.cells #[.int .u8 kd,.int .u64 (w0:Int),.int .u64 (w1:Int),.int .u64 (w2:Int),.int .u64 (w3:Int),.string tx,.int .i64 mn,.int .i64 mx,K] 35))
 have HS:=Lib.hid (hs.below HB0.out);have HD:=Lib.hid (hd.below HB0.out)
 have HM:=Lib.hid (mk_text tx)
 go_enter Tryd.func35,Tryd.ntmps35
 have hk':kd=0∨kd=2∨kd=1∨kd=3∨kd=4∨kd=5∨kd=6∨kd=7∨kd=8∨kd=9:=by omega
 clear hk
 rcases hk' with rfl|rfl|rfl|rfl|rfl|rfl|rfl|rfl|rfl|rfl
 ·go_wp2_with (go_at_call 59;refine(lit_any tx _ htx).mono ?_;rintro e w5 ⟨rfl,g1⟩;have HB5:=Lib.hid (Below.step HB0.out g1);clear g1)
  go_ret
  exact⟨rfl,HB5.out⟩
 ·go_wp2_with (go_at_call 59;refine(lit_any tx _ htx).mono ?_;rintro e w5 ⟨rfl,g1⟩;have HB5:=Lib.hid (Below.step HB0.out g1);clear g1)
  go_ret
  exact⟨rfl,HB5.out⟩
 ·go_wp2_with (go_at_call 60;refine(qclass_any w0 w1 w2 w3 (by unfold u64N;omega) (by unfold u64N;omega) (by unfold u64N;omega) (by unfold u64N;omega) _ HD.out).mono ?_;rintro e w5 ⟨rfl,g1⟩;have HB5:=Lib.hid (Below.step HB0.out g1);clear g1)
  go_ret
  exact⟨rfl,HB5.out⟩
 ·go_wp2_with fail
  go_ret
  refine⟨?_,HB0.out⟩
  show _=Ending.returned (Value.string ⟨tx.data.toList.toArray⟩)
  rw[mk_text]
  rfl
 ·have q:=HS.out 12 _ rfl
  go_wp2_with fail
  go_ret
  exact⟨rfl,HB0.out⟩
 ·have q:=HS.out 15 _ rfl
  go_wp2_with fail
  go_ret
  exact⟨rfl,HB0.out⟩
 ·have q:=HS.out 18 _ rfl
  go_wp2_with fail
  go_ret
  exact⟨rfl,HB0.out⟩
 ·have q:=HS.out 21 _ rfl
  go_wp2_with fail
  go_ret
  exact⟨rfl,HB0.out⟩
 ·have q:=HS.out 24 _ rfl
  go_wp2_with fail
  go_ret
  exact⟨rfl,HB0.out⟩
 ·have q:=HS.out 27 _ rfl
  have c1:¬9223372036854775807<1+tx.size:=by omega
  have c2:¬9223372036854775807<1+tx.size+2:=by omega
  go_upto_region 10 with(fail)
  go_quiet (fail)
  go_wp2_with fail
  go_ret
  refine⟨?_,⟨HB0.out.1,HB0.out.2,HB0.out.3,HB0.out.4,fun k hk=>HB0.out.5 k hk⟩⟩
  refine congrArg (fun t=>Ending.returned (Value.string t)) (show _=(⟨([60]++tx.data.toList++[58,32]).toArray⟩:ByteArray)from ?_)
  apply ByteArray.ext
  apply Array.ext'
  simp
end Go.Proofs.YtdnochjajoiooaaDoor
