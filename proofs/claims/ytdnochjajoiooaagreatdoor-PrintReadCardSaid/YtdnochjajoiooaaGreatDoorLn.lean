/- The contracts of what reads a word that begins by a certain byte: lex.literal, class. -/
import Derived.Test.YtdnochjajoiooaaGreatDoorNb
import Derived.Test.YtdnochjajoiooaaGreatDoorLl
namespace Go.Proofs.YtdnochjajoiooaaGreatDoor
open Go.RowKit
set_option linter.unusedSimpArgs false
set_option linter.unusedVariables false
theorem Pi (left:List UInt8) (en:UInt8) (t:List UInt8):∀f a,a<=t.length->(Fl left en t f a).2.1<=t.length
 |0,a,ha=>ha
 |f+1,a,ha=>by
  simp only[Fl];split
  ·exact ha
  cases e:AQ left t a with
  |no p k=>rcases D5 e with h|h <;> simp only <;> omega
  |ok b n=>
   have h1:=Ch e;exact Pi left en t f n h1.2
theorem Pj (t:List UInt8):(BN t).2.1<=t.length:=by
 unfold BN;split
 ·exact Nat.zero_le _
 ·rename_i c hc
  have hl:=(List.getElem?_eq_some_iff.1 hc).1;split
  ·exact Nat.zero_le _
  ·have h:=JM [34] 34 t t.length 1 (by omega) (by omega);simp only;by_cases h0:(Fl [34] 34 t t.length 1).2.2=0
   ·have h1:=(List.getElem?_eq_some_iff.1 (h.2 h0).1).1;rw[if_neg (by simpa using h0)];split
    ·exact Nat.zero_le _
    ·simp only;omega
   ·rw[if_pos h0];exact Pi [34] 34 t t.length 1 (by omega)
theorem Pk (t:List UInt8):(Bx t).2.1<=t.length+1:=by
 unfold Bx;split
 ·exact Nat.zero_le _
 ·rename_i c hc
  have hl:=(List.getElem?_eq_some_iff.1 hc).1;split
  ·exact Nat.zero_le _
  ·simp only
   have hp:(if decide (t[1]?=some 94)=true then 2 else 1)<=t.length:=by
    split
    ·rename_i h;have:=(List.getElem?_eq_some_iff.1 (of_decide_eq_true h)).1;omega
    ·omega
   have h:=L6 t t.length _ hp;generalize Bh t t.length (if decide (t[1]?=some 94)=true then 2 else 1)=r at *;by_cases h0:r.2.2≠0
   ·rw[if_pos h0];show r.2.1<=_;omega
   ·rw[if_neg h0];show r.2.1+1<=_;omega
set_option maxRecDepth 100000 in
set_option maxHeartbeats 1000000 in
theorem Pm (s:ByteArray) (a:Nat) (w:World) (ha:a<s.size) (hs:s.size<=1000000) (hk:s.data.toList[a]?=some 34):
  Calls Tryz.prog 93 #[.string s,.int .i64 (a:Int)] w (ReadPost s.data.toList a w):=by
 have hd:=Gb s a (by omega);have hse:(s.extract a s.size).size<=s.size:=by simp[ByteArray.size_extract]
 have i1:(0:Int)<=(a:Int):=by omega
 have i2:(a:Int)<=(s.size:Int):=by omega
 have hh:Bf (s.data.toList.drop a)=if (BN (s.data.toList.drop a)).2.2=0 then some ⟨15,0,(BN (s.data.toList.drop a)).2.1,(BN (s.data.toList.drop a)).1,0,0,0,0,0,0⟩else none:=by
  unfold Bf;rw[Cy,hk];rfl
 have hpl:=Pj (s.data.toList.drop a);obtain⟨⟨l,n,k⟩,hx⟩:∃p,BN (s.data.toList.drop a)=p:=⟨_,rfl⟩;rw[hx]at hh hpl;have hnl:n<=s.size:=by have h1:n<=(s.data.toList.drop a).length:=hpl;rw[List.length_drop,Ar]at h1;omega
 have HX:=qd hx;have HH:=qd hh;clear hx hh hpl;have HD:=qd hd;have HB0:=qd (bx1 w (.cells (wdC ⟨0,0,0,[],0,0,0,0,0,0⟩) 106));have HK0:=qd (Ad w (.cells (wdC ⟨0,0,0,[],0,0,0,0,0,0⟩) 106));clear hd;go_enter Tryz.func93,Tryz.ntmps93
 go_wp2_with (first
  |(go_at_call 109;refine(Tt _ _ (by omega)).mono ?_;rintro e w1 ⟨he,hb⟩;rw[HD.out,HX.out]at he;subst he;have HB1:=qd (Below.step HB0.out hb);have HK1:=qd (Ae hb HK0.out);obtain⟨_,_,_,_,_,_,_,_,_,_,bf⟩:=BB HK1.out;have f0:=bf 0;have f1:=bf 1;have f2:=bf 2;have f3:=bf 3;have f4:=bf 4;have f5:=bf 5;have f6:=bf 6;have f7:=bf 7;have f8:=bf 8;have f9:=bf 9;clear bf hb)
  |fail)
 have e0:=CC HK1.out (.int .u8 15) (.int .i64 (a:Int)) (.int .i64 ((a:Int)+(n:Int))) (.string ⟨l.toArray⟩) (.int .u64 0) (.int .u64 0) (.int .u64 0) (.int .u64 0) (.int .i64 0) (.int .i64 0);obtain⟨t0,t1,t2,t3,t4,t5,t6,t7,t8,t9,_⟩:=BB e0;refine bodyPost_ret (v:=.tuple #[.agg #[.int .u8 15,.int .i64 (a:Int),.int .i64 ((a:Int)+(n:Int)),.string ⟨l.toArray⟩,.int .u64 0,.int .u64 0,.int .u64 0,.int .u64 0,.int .i64 0,.int .i64 0],.bool ((k:Int)==0)]) (by simp[results,Tryz.results93,go_sem,t0,t1,t2,t3,t4,t5,t6,t7,t8,t9]) rfl ?_;refine⟨⟨15,a,a+n,l,0,0,0,0,0,0⟩,((k:Int)==0),rfl,fun h=> ?_,fun h=> ?_,Ck HB1.out (Nat.le_refl _) _ _ _ _ _ _ _ _ _ _⟩
 ·have hk0:k=0:=by simpa using h
  have hh:=HH.out;rw[if_pos hk0]at hh;rw[D7 hh]
 ·have hk0:¬k=0:=by simpa using h
  have hh:=HH.out;rw[if_neg hk0]at hh;exact De hh
set_option maxRecDepth 100000 in
set_option maxHeartbeats 1000000 in
theorem T1 (s:ByteArray) (a:Nat) (w:World) (ha:a<s.size) (hs:s.size<=1000000) (hk:s.data.toList[a]?=some 91):
  Calls Tryz.prog 94 #[.string s,.int .i64 (a:Int)] w (ReadPost s.data.toList a w):=by
 have hd:=Gb s a (by omega);have hse:(s.extract a s.size).size<=s.size:=by simp[ByteArray.size_extract]
 have i1:(0:Int)<=(a:Int):=by omega
 have i2:(a:Int)<=(s.size:Int):=by omega
 have hh:Bf (s.data.toList.drop a)=if (Bx (s.data.toList.drop a)).2.2=0 then some ⟨16,0,(Bx (s.data.toList.drop a)).2.1,[],Af (Bx (s.data.toList.drop a)).1 0,Af (Bx (s.data.toList.drop a)).1 1,Af (Bx (s.data.toList.drop a)).1 2,Af (Bx (s.data.toList.drop a)).1 3,0,0⟩else none:=by
  unfold Bf;rw[Cy,hk];rfl
 have hpl:=Pk (s.data.toList.drop a);obtain⟨⟨f,n,k⟩,hx⟩:∃p,Bx (s.data.toList.drop a)=p:=⟨_,rfl⟩;rw[hx]at hh hpl;have hnl:n<=s.size+1:=by have h1:n<=(s.data.toList.drop a).length+1:=hpl;rw[List.length_drop,Ar]at h1;omega
 have HX:=qd hx;have HH:=qd hh;clear hx hh hpl;have HD:=qd hd;have HB0:=qd (bx1 w (.cells (wdC ⟨0,0,0,[],0,0,0,0,0,0⟩) 106));have HK0:=qd (Ad w (.cells (wdC ⟨0,0,0,[],0,0,0,0,0,0⟩) 106));clear hd;go_enter Tryz.func94,Tryz.ntmps94
 go_wp2_with (first
  |(go_at_call 110;refine(T0 _ _ (by omega)).mono ?_;rintro e w1 ⟨he,hb⟩;rw[HD.out,HX.out,Dq]at he;subst he;have HBN:=qd (bx1 w1 (.cells (CK (Af f 0) (Af f 1) (Af f 2) (Af f 3)) 39));have HB1:=qd (Below.step (Below.step HB0.out hb) HBN.out);have HK1:=qd (A7 (p:=.cells (CK (Af f 0) (Af f 1) (Af f 2) (Af f 3)) 39) (Ae hb HK0.out));obtain⟨_,_,_,_,_,_,_,_,_,_,bf⟩:=BB HK1.out;have f0:=bf 0;have f1:=bf 1;have f2:=bf 2;have f3:=bf 3;have f4:=bf 4;have f5:=bf 5;have f6:=bf 6;have f7:=bf 7;have f8:=bf 8;have f9:=bf 9;clear bf hb)
  |fail)
 have e0:=CC HK1.out (.int .u8 16) (.int .i64 (a:Int)) (.int .i64 ((a:Int)+(n:Int))) (.string ⟨#[]⟩) (.int .u64 (Af f 0:Int)) (.int .u64 (Af f 1:Int)) (.int .u64 (Af f 2:Int)) (.int .u64 (Af f 3:Int)) (.int .i64 0) (.int .i64 0);obtain⟨t0,t1,t2,t3,t4,t5,t6,t7,t8,t9,_⟩:=BB e0;refine bodyPost_ret (v:=.tuple #[.agg #[.int .u8 16,.int .i64 (a:Int),.int .i64 ((a:Int)+(n:Int)),.string ⟨#[]⟩,.int .u64 (Af f 0:Int),.int .u64 (Af f 1:Int),.int .u64 (Af f 2:Int),.int .u64 (Af f 3:Int),.int .i64 0,.int .i64 0],.bool ((k:Int)==0)]) (by simp[results,Tryz.results94,go_sem,t0,t1,t2,t3,t4,t5,t6,t7,t8,t9]) rfl ?_;refine⟨⟨16,a,a+n,[],Af f 0,Af f 1,Af f 2,Af f 3,0,0⟩,((k:Int)==0),rfl,fun h=> ?_,fun h=> ?_,Ck HB1.out (Nat.le_refl _) _ _ _ _ _ _ _ _ _ _⟩
 ·have hk0:k=0:=by simpa using h
  have hh:=HH.out;rw[if_pos hk0]at hh;rw[D7 hh]
 ·have hk0:¬k=0:=by simpa using h
  have hh:=HH.out;rw[if_neg hk0]at hh;exact De hh
end Go.Proofs.YtdnochjajoiooaaGreatDoor
