/- The contract of tree.Fits, kinds 0 to 4 (printed by gen_fits.py). The contract of lex.count. -/
import Derived.Test.YtdnochjajoiooaaGreatDoorKd
import Derived.Test.YtdnochjajoiooaaGreatDoorNb
import Derived.Test.YtdnochjajoiooaaGreatDoorCu
import Derived.Deep.DeepCutAuto
import Derived.Deep.Cut
import Derived.Deep.CutRange
namespace Go.Proofs.YtdnochjajoiooaaGreatDoor
open Go.RowKit
set_option linter.unusedSimpArgs false
set_option linter.unusedVariables false
set_option maxRecDepth 100000 in
set_option maxHeartbeats 3200000 in
theorem Yh (n:Nd) (K:Value) (k:Int) (w:World) (ht:CntTab w) (hk:n.kind=0) (hts:n.text.size<=281474976710656):
  Calls Tryz.prog 35 #[ndV n K,.int .i64 k] w fun e w'=>e=.returned (.bool (Am n k))/\Below w.heap.size w w':=by
 obtain⟨kind,s0,s1,s2,s3,text,mn,mx,kids⟩:=n;simp only at hk hts ⊢;subst hk;have hc:=ht.cells;have t0:=hc 0;have t1:=hc 1;clear hc;simp at t0 t1;have hg:=AP t0;simp only at hg;have hE:=fun w=>Dg w s0 s1 s2 s3 0 0 0 0
 have HS:=qd (show decide (s0=0/\s1=0/\s2=0/\s3=0)=BQ ⟨0,s0,s1,s2,s3,text,mn,mx,kids⟩from rfl);generalize decide (s0=0/\s1=0/\s2=0/\s3=0)=b at hE HS;clear ht;rcases Nat.lt_or_ge 0 text.size with h0|h0
 ·have⟨e1,e2⟩:=Bb text h0;have HX:=qd (show Ay ⟨0,s0,s1,s2,s3,text,mn,mx,kids⟩=false from decide_eq_false (show ¬text.size=0 by omega));cases b
  all_goals
   go_enter Tryz.func35,Tryz.ntmps35
   go_wp2_with fail
   go_region
   go_wp2_with fail
   all_goals (go_ret;refine⟨Aj ?_,(bx1 w _).drew⟩)
   all_goals (first|(simp[Am,<-HS.out,HX.out,Ah];done)|(simp[Am,<-HS.out,HX.out,Ah];omega)|(rw[Bool.eq_iff_iff];simp[Am,<-HS.out,HX.out,Ah];omega)|(simp only[bne_eq_false_iff_eq]at *;simp[Am,<-HS.out,HX.out,Ah];omega))
 ·have⟨e1,e2,e3⟩:=AH text (by omega);clear e3;have HX:=qd (show Ay ⟨0,s0,s1,s2,s3,text,mn,mx,kids⟩=true from decide_eq_true (show text.size=0 by omega));cases b
  all_goals
   go_enter Tryz.func35,Tryz.ntmps35
   go_wp2_with fail
   go_region
   go_wp2_with fail
   all_goals (go_ret;refine⟨Aj ?_,(bx1 w _).drew⟩)
   all_goals (first|(simp[Am,<-HS.out,HX.out,Ah];done)|(simp[Am,<-HS.out,HX.out,Ah];omega)|(rw[Bool.eq_iff_iff];simp[Am,<-HS.out,HX.out,Ah];omega)|(simp only[bne_eq_false_iff_eq]at *;simp[Am,<-HS.out,HX.out,Ah];omega))
set_option maxRecDepth 100000 in
set_option maxHeartbeats 3200000 in
theorem Yi (n:Nd) (K:Value) (k:Int) (w:World) (ht:CntTab w) (hk:n.kind=1) (hts:n.text.size<=281474976710656):
  Calls Tryz.prog 35 #[ndV n K,.int .i64 k] w fun e w'=>e=.returned (.bool (Am n k))/\Below w.heap.size w w':=by
 obtain⟨kind,s0,s1,s2,s3,text,mn,mx,kids⟩:=n;simp only at hk hts ⊢;subst hk;have hc:=ht.cells;have t0:=hc 2;have t1:=hc 3;clear hc;simp at t0 t1;have hg:=AP t0;simp only at hg;have hE:=fun w=>Dg w 0 0 0 0 0 0 0 0
 simp only[and_self,decide_true]at hE;clear ht;rcases Nat.lt_or_ge 0 text.size with h0|h0
 ·have⟨e1,e2⟩:=Bb text h0;have HX:=qd (show Ay ⟨1,s0,s1,s2,s3,text,mn,mx,kids⟩=false from decide_eq_false (show ¬text.size=0 by omega))
  all_goals
   go_enter Tryz.func35,Tryz.ntmps35
   go_wp2_with fail
   go_region
   go_wp2_with fail
   all_goals (go_ret;refine⟨Aj ?_,(bx1 w _).drew⟩)
   all_goals (first|(simp[Am,HX.out,Ah];done)|(simp[Am,HX.out,Ah];omega)|(rw[Bool.eq_iff_iff];simp[Am,HX.out,Ah];omega)|(simp only[bne_eq_false_iff_eq]at *;simp[Am,HX.out,Ah];omega))
 ·have⟨e1,e2,e3⟩:=AH text (by omega);clear e3;have HX:=qd (show Ay ⟨1,s0,s1,s2,s3,text,mn,mx,kids⟩=true from decide_eq_true (show text.size=0 by omega))
  all_goals
   go_enter Tryz.func35,Tryz.ntmps35
   go_wp2_with fail
   go_region
   go_wp2_with fail
   all_goals (go_ret;refine⟨Aj ?_,(bx1 w _).drew⟩)
   all_goals (first|(simp[Am,HX.out,Ah];done)|(simp[Am,HX.out,Ah];omega)|(rw[Bool.eq_iff_iff];simp[Am,HX.out,Ah];omega)|(simp only[bne_eq_false_iff_eq]at *;simp[Am,HX.out,Ah];omega))
set_option maxRecDepth 100000 in
set_option maxHeartbeats 3200000 in
theorem Yj (n:Nd) (K:Value) (k:Int) (w:World) (ht:CntTab w) (hk:n.kind=2) (hts:n.text.size<=281474976710656):
  Calls Tryz.prog 35 #[ndV n K,.int .i64 k] w fun e w'=>e=.returned (.bool (Am n k))/\Below w.heap.size w w':=by
 obtain⟨kind,s0,s1,s2,s3,text,mn,mx,kids⟩:=n;simp only at hk hts ⊢;subst hk;have hc:=ht.cells;have t0:=hc 4;have t1:=hc 5;clear hc;simp at t0 t1;have hg:=AP t0;simp only at hg;have hE:=fun w=>Dg w s0 s1 s2 s3 0 0 0 0
 have HS:=qd (show decide (s0=0/\s1=0/\s2=0/\s3=0)=BQ ⟨2,s0,s1,s2,s3,text,mn,mx,kids⟩from rfl);generalize decide (s0=0/\s1=0/\s2=0/\s3=0)=b at hE HS;clear ht;rcases Nat.lt_or_ge 0 text.size with h0|h0
 ·have⟨e1,e2⟩:=Bb text h0;have HX:=qd (show Ay ⟨2,s0,s1,s2,s3,text,mn,mx,kids⟩=false from decide_eq_false (show ¬text.size=0 by omega));cases b
  all_goals
   go_enter Tryz.func35,Tryz.ntmps35
   go_wp2_with fail
   go_region
   go_wp2_with fail
   all_goals (go_ret;refine⟨Aj ?_,(bx1 w _).drew⟩)
   all_goals (first|(simp[Am,<-HS.out,HX.out,Ah];done)|(simp[Am,<-HS.out,HX.out,Ah];omega)|(rw[Bool.eq_iff_iff];simp[Am,<-HS.out,HX.out,Ah];omega)|(simp only[bne_eq_false_iff_eq]at *;simp[Am,<-HS.out,HX.out,Ah];omega))
 ·have⟨e1,e2,e3⟩:=AH text (by omega);clear e3;have HX:=qd (show Ay ⟨2,s0,s1,s2,s3,text,mn,mx,kids⟩=true from decide_eq_true (show text.size=0 by omega));cases b
  all_goals
   go_enter Tryz.func35,Tryz.ntmps35
   go_wp2_with fail
   go_region
   go_wp2_with fail
   all_goals (go_ret;refine⟨Aj ?_,(bx1 w _).drew⟩)
   all_goals (first|(simp[Am,<-HS.out,HX.out,Ah];done)|(simp[Am,<-HS.out,HX.out,Ah];omega)|(rw[Bool.eq_iff_iff];simp[Am,<-HS.out,HX.out,Ah];omega)|(simp only[bne_eq_false_iff_eq]at *;simp[Am,<-HS.out,HX.out,Ah];omega))
set_option maxRecDepth 100000 in
set_option maxHeartbeats 3200000 in
theorem Yk (n:Nd) (K:Value) (k:Int) (w:World) (ht:CntTab w) (hk:n.kind=3) (hts:n.text.size<=281474976710656):
  Calls Tryz.prog 35 #[ndV n K,.int .i64 k] w fun e w'=>e=.returned (.bool (Am n k))/\Below w.heap.size w w':=by
 obtain⟨kind,s0,s1,s2,s3,text,mn,mx,kids⟩:=n;simp only at hk hts ⊢;subst hk;have hc:=ht.cells;have t0:=hc 6;have t1:=hc 7;clear hc;simp at t0 t1;have hg:=AP t0;simp only at hg;have hE:=fun w=>Dg w s0 s1 s2 s3 0 0 0 0
 have HS:=qd (show decide (s0=0/\s1=0/\s2=0/\s3=0)=BQ ⟨3,s0,s1,s2,s3,text,mn,mx,kids⟩from rfl);generalize decide (s0=0/\s1=0/\s2=0/\s3=0)=b at hE HS;clear ht;rcases Nat.lt_or_ge 0 text.size with h0|h0
 ·have⟨e1,e2⟩:=Bb text h0;have HX:=qd (show Ay ⟨3,s0,s1,s2,s3,text,mn,mx,kids⟩=false from decide_eq_false (show ¬text.size=0 by omega));cases b;all_goals
  rcases hm:Cb text.data.toList
  all_goals
   go_enter Tryz.func35,Tryz.ntmps35
   go_wp2_with fail
   go_region
   go_wp2_with (go_at_call 59;refine(IB text _ hts).mono ?_;rintro e w' ⟨rfl,hb⟩;obtain⟨q0,q1,q2,q3,q4,q5,q6,q7,q8,r0,r1,r2,r3,r4,r5,r6,r7,r8⟩:=BP (RY hb))
   all_goals (go_ret;refine⟨Aj ?_,(by first|exact(bx1 w _).drew|exact(bx1 w _).drew.trans (hb.mono (by simp))|exact((bx1 w _).drew.trans (hb.mono (by simp))).setCell (p:=⟨w.heap.size,5,none⟩) (Nat.le_refl _) _)⟩)
   all_goals (first|(simp[Am,<-HS.out,HX.out,Ah,hm];done)|(simp[Am,<-HS.out,HX.out,Ah,hm];omega)|(rw[Bool.eq_iff_iff];simp[Am,<-HS.out,HX.out,Ah,hm];omega)|(simp only[bne_eq_false_iff_eq]at *;simp[Am,<-HS.out,HX.out,Ah,hm];omega))
 ·have⟨e1,e2,e3⟩:=AH text (by omega);clear e3;have HX:=qd (show Ay ⟨3,s0,s1,s2,s3,text,mn,mx,kids⟩=true from decide_eq_true (show text.size=0 by omega));cases b;all_goals
  rcases hm:Cb text.data.toList
  all_goals
   go_enter Tryz.func35,Tryz.ntmps35
   go_wp2_with fail
   go_region
   go_wp2_with (go_at_call 59;refine(IB text _ hts).mono ?_;rintro e w' ⟨rfl,hb⟩;obtain⟨q0,q1,q2,q3,q4,q5,q6,q7,q8,r0,r1,r2,r3,r4,r5,r6,r7,r8⟩:=BP (RY hb))
   all_goals (go_ret;refine⟨Aj ?_,(by first|exact(bx1 w _).drew|exact(bx1 w _).drew.trans (hb.mono (by simp))|exact((bx1 w _).drew.trans (hb.mono (by simp))).setCell (p:=⟨w.heap.size,5,none⟩) (Nat.le_refl _) _)⟩)
   all_goals (first|(simp[Am,<-HS.out,HX.out,Ah,hm];done)|(simp[Am,<-HS.out,HX.out,Ah,hm];omega)|(rw[Bool.eq_iff_iff];simp[Am,<-HS.out,HX.out,Ah,hm];omega)|(simp only[bne_eq_false_iff_eq]at *;simp[Am,<-HS.out,HX.out,Ah,hm];omega))
set_option maxRecDepth 100000 in
set_option maxHeartbeats 3200000 in
theorem Yl (n:Nd) (K:Value) (k:Int) (w:World) (ht:CntTab w) (hk:n.kind=4) (hts:n.text.size<=281474976710656):
  Calls Tryz.prog 35 #[ndV n K,.int .i64 k] w fun e w'=>e=.returned (.bool (Am n k))/\Below w.heap.size w w':=by
 obtain⟨kind,s0,s1,s2,s3,text,mn,mx,kids⟩:=n;simp only at hk hts ⊢;subst hk;have hc:=ht.cells;have t0:=hc 8;have t1:=hc 9;clear hc;simp at t0 t1;have hg:=AP t0;simp only at hg;have hE:=fun w=>Dg w s0 s1 s2 s3 0 0 0 0
 have HS:=qd (show decide (s0=0/\s1=0/\s2=0/\s3=0)=BQ ⟨4,s0,s1,s2,s3,text,mn,mx,kids⟩from rfl);generalize decide (s0=0/\s1=0/\s2=0/\s3=0)=b at hE HS;clear ht;rcases Nat.lt_or_ge 0 text.size with h0|h0
 ·have⟨e1,e2⟩:=Bb text h0;have HX:=qd (show Ay ⟨4,s0,s1,s2,s3,text,mn,mx,kids⟩=false from decide_eq_false (show ¬text.size=0 by omega));cases b
  all_goals
   go_enter Tryz.func35,Tryz.ntmps35
   go_wp2_with fail
   go_region
   go_wp2_with fail
   all_goals (go_ret;refine⟨Aj ?_,(bx1 w _).drew⟩)
   all_goals (first|(simp[Am,<-HS.out,HX.out,Ah];done)|(simp[Am,<-HS.out,HX.out,Ah];omega)|(rw[Bool.eq_iff_iff];simp[Am,<-HS.out,HX.out,Ah];omega)|(simp only[bne_eq_false_iff_eq]at *;simp[Am,<-HS.out,HX.out,Ah];omega))
 ·have⟨e1,e2,e3⟩:=AH text (by omega);clear e3;have HX:=qd (show Ay ⟨4,s0,s1,s2,s3,text,mn,mx,kids⟩=true from decide_eq_true (show text.size=0 by omega));cases b
  all_goals
   go_enter Tryz.func35,Tryz.ntmps35
   go_wp2_with fail
   go_region
   go_wp2_with fail
   all_goals (go_ret;refine⟨Aj ?_,(bx1 w _).drew⟩)
   all_goals (first|(simp[Am,<-HS.out,HX.out,Ah];done)|(simp[Am,<-HS.out,HX.out,Ah];omega)|(rw[Bool.eq_iff_iff];simp[Am,<-HS.out,HX.out,Ah];omega)|(simp only[bne_eq_false_iff_eq]at *;simp[Am,<-HS.out,HX.out,Ah];omega))
theorem Jg {b:ByteArray} {l:List UInt8} (h:b.data.toList=l):b.toList.isEmpty=l.isEmpty/\b.data.isEmpty=l.isEmpty:=by
 refine⟨by rw[Lib.toList_data,h],?_⟩;rw[<-h];simp
set_option maxRecDepth 100000 in
set_option maxHeartbeats 3000000 in
theorem QB (s:ByteArray) (a:Nat) (w:World) (ha:a<s.size) (hs:s.size<=1000000) (hk:s.data.toList[a]?=some 123):
  Calls Tryz.prog 92 #[.string s,.int .i64 (a:Int)] w (ReadPost s.data.toList a w):=by
 have hd:=Gb s (a+1) (by omega);have hse:(s.extract (a+1) s.size).size<=s.size:=by simp[ByteArray.size_extract]
 have i1:(0:Int)<=(a:Int):=by omega
 have i2:(a:Int)+1<=(s.size:Int):=by omega
 have hh:Bf (s.data.toList.drop a)=(Ci (s.data.toList.drop (a+1))).map fun x=>⟨14,0,x.1+2,[],0,0,0,0,x.2.1,x.2.2⟩:=by
  unfold Bf;rw[Cy,hk];show(Ci ((s.data.toList.drop a).drop 1)).map _=_;rw[List.drop_drop]
 have HD:=qd hd;have HH:=qd hh;have HB0:=qd (bx1 w (.cells (wdC ⟨0,0,0,[],0,0,0,0,0,0⟩) 106));have HK0:=qd (Ad w (.cells (wdC ⟨0,0,0,[],0,0,0,0,0,0⟩) 106));clear hd hh;have HLN:=qd (Pw 125 (s.data.toList.drop (a+1)));have HLD:=qd (show(s.data.toList.drop (a+1)).length<=s.size from by rw[List.length_drop,Ar];omega);go_enter Tryz.func92,Tryz.ntmps92
 have hq:Ci (s.data.toList.drop (a+1))=if (Bq 125 (s.data.toList.drop (a+1))).2.2=false then none else if (CM (Bq 44 (Bq 125 (s.data.toList.drop (a+1))).1).1 99).2≠0 then none else if (Bq 44 (Bq 125 (s.data.toList.drop (a+1))).1).2.2=false then some ((Bq 125 (s.data.toList.drop (a+1))).1.length,(CM (Bq 44 (Bq 125 (s.data.toList.drop (a+1))).1).1 99).1,(CM (Bq 44 (Bq 125 (s.data.toList.drop (a+1))).1).1 99).1)else if (Bq 44 (Bq 125 (s.data.toList.drop (a+1))).1).2.1=[]then some ((Bq 125 (s.data.toList.drop (a+1))).1.length,(CM (Bq 44 (Bq 125 (s.data.toList.drop (a+1))).1).1 99).1, -1)else if (CM (Bq 44 (Bq 125 (s.data.toList.drop (a+1))).1).2.1 99).2≠0\/(CM (Bq 44 (Bq 125 (s.data.toList.drop (a+1))).1).2.1 99).1<(CM (Bq 44 (Bq 125 (s.data.toList.drop (a+1))).1).1 99).1 then none else some ((Bq 125 (s.data.toList.drop (a+1))).1.length,(CM (Bq 44 (Bq 125 (s.data.toList.drop (a+1))).1).1 99).1,(CM (Bq 44 (Bq 125 (s.data.toList.drop (a+1))).1).2.1 99).1):=rfl
 generalize hc1:Bq 125 (s.data.toList.drop (a+1))=c1 at *;obtain⟨inn,rst,cl⟩:=c1;generalize hc2:Bq 44 inn=c2 at *;obtain⟨lea,mos,two⟩:=c2;simp only at hq;have HC1:=qd hc1;have HC2:=qd hc2;have hil:inn.length<=s.size:=Nat.le_trans HLN.out.1 HLD.out;have hll:=Pw 44 inn;rw[hc2]at hll;simp only at hll;have hl1:lea.length<=s.size:=Nat.le_trans hll.1 hil;have hl2:mos.length<=s.size:=Nat.le_trans hll.2 hil;have HQ:=qd hq;clear hc1 hc2 hq hll;obtain⟨⟨lo,e1⟩,hn1⟩:∃p,CM lea 99=p:=⟨_,rfl⟩;obtain⟨⟨hi,e2⟩,hn2⟩:∃p,CM mos 99=p:=⟨_,rfl⟩;have HN1:=qd hn1;have HN2:=qd hn2;have HNC1:=qd (Pu lea 99);have HNC2:=qd (Pu mos 99);rw[hn1,hn2]at HQ;rw[hn1]at HNC1;rw[hn2]at HNC2;simp only at HQ;clear hn1 hn2;cases cl
 ·rw[if_pos rfl]at HQ
  go_wp2_with (first
   |(go_at_call 107;(with_reducible refine(Dj (s.extract (a+1) s.size) 125 _ (by omega)).mono ?_);rintro e w1 ⟨x1,y1,rfl,h1,h2,hb⟩;rw[HD.out,HC1.out]at h1 h2;have HX1:=qd (show x1.data.toList=inn from h1);have HB1:=qd (Below.step HB0.out hb);have HK1:=qd (Ae hb HK0.out);have hx1:x1.size=inn.length:=(by rw[<-Ar,h1]);rw[HD.out,HC1.out];clear h1 h2 hb;obtain⟨_,_,_,_,_,_,_,_,_,_,bf⟩:=BB HK1.out;have f0:=bf 0;have f1:=bf 1;have f2:=bf 2;have f3:=bf 3;have f4:=bf 4;have f5:=bf 5;have f6:=bf 6;have f7:=bf 7;have f8:=bf 8;have f9:=bf 9;clear bf)
   |fail)
  have e0:=CC HK1.out (.int .u8 0) (.int .i64 0) (.int .i64 0) (.string ⟨#[]⟩) (.int .u64 0) (.int .u64 0) (.int .u64 0) (.int .u64 0) (.int .i64 0) (.int .i64 0);obtain⟨t0,t1,t2,t3,t4,t5,t6,t7,t8,t9,_⟩:=BB e0;refine bodyPost_ret (v:=.tuple #[.agg #[.int .u8 0,.int .i64 0,.int .i64 0,.string ⟨#[]⟩,.int .u64 0,.int .u64 0,.int .u64 0,.int .u64 0,.int .i64 0,.int .i64 0],.bool false]) (by simp[results,Tryz.results92,go_sem,t0,t1,t2,t3,t4,t5,t6,t7,t8,t9]) rfl ?_;exact⟨⟨0,0,0,[],0,0,0,0,0,0⟩,false,rfl,fun h=>(by cases h),fun _=>De (by rw[HH.out,HQ.out];rfl),Ck HB1.out (Nat.le_refl _) _ _ _ _ _ _ _ _ _ _⟩
 rw[if_neg (by simp)]at HQ;by_cases h1:e1≠0
 ·rw[if_pos h1]at HQ;have i3:(e1 != 0)=true:=by simpa using h1
  have i4:¬e1=0:=h1
  go_wp2_with (first
   |(go_at_call 107;refine(Dj x1 44 _ (by omega)).mono ?_;rintro e w2 ⟨x2,y2,rfl,h1,h2,hb⟩;rw[HX1.out,HC2.out]at h1 h2;have HX2:=qd (show x2.data.toList=lea from h1);have HY2:=qd (show y2.data.toList=mos from h2);have HB2:=qd (Below.step HB1.out hb);have HK2:=qd (Ae hb HK1.out);have hx2:x2.size=lea.length:=(by rw[<-Ar,h1]);have hy2:y2.size=mos.length:=(by rw[<-Ar,h2]);rw[HX1.out,HC2.out];clear h1 h2 hb;obtain⟨_,_,_,_,_,_,_,_,_,_,bf⟩:=BB HK2.out;have f0:=bf 0;have f1:=bf 1;have f2:=bf 2;have f3:=bf 3;have f4:=bf 4;have f5:=bf 5;have f6:=bf 6;have f7:=bf 7;have f8:=bf 8;have f9:=bf 9;clear bf)
   |(go_at_call 107;(with_reducible refine(Dj (s.extract (a+1) s.size) 125 _ (by omega)).mono ?_);rintro e w1 ⟨x1,y1,rfl,h1,h2,hb⟩;rw[HD.out,HC1.out]at h1 h2;have HX1:=qd (show x1.data.toList=inn from h1);have HB1:=qd (Below.step HB0.out hb);have HK1:=qd (Ae hb HK0.out);have hx1:x1.size=inn.length:=(by rw[<-Ar,h1]);rw[HD.out,HC1.out];clear h1 h2 hb)
   |(go_at_call 108;(with_reducible refine(EK x2 99 _ (by omega) (by decide)).mono ?_);rintro e w' ⟨rfl,rfl⟩;rw[HX2.out,HN1.out])
   |fail)
  have e0:=CC HK2.out (.int .u8 0) (.int .i64 0) (.int .i64 0) (.string ⟨#[]⟩) (.int .u64 0) (.int .u64 0) (.int .u64 0) (.int .u64 0) (.int .i64 0) (.int .i64 0);obtain⟨t0,t1,t2,t3,t4,t5,t6,t7,t8,t9,_⟩:=BB e0;refine bodyPost_ret (v:=.tuple #[.agg #[.int .u8 0,.int .i64 0,.int .i64 0,.string ⟨#[]⟩,.int .u64 0,.int .u64 0,.int .u64 0,.int .u64 0,.int .i64 0,.int .i64 0],.bool false]) (by simp[results,Tryz.results92,go_sem,t0,t1,t2,t3,t4,t5,t6,t7,t8,t9]) rfl ?_;exact⟨⟨0,0,0,[],0,0,0,0,0,0⟩,false,rfl,fun h=>(by cases h),fun _=>De (by rw[HH.out,HQ.out];rfl),Ck HB2.out (Nat.le_refl _) _ _ _ _ _ _ _ _ _ _⟩
 rw[if_neg h1]at HQ;have h1':e1=0:=by omega
 subst h1';clear h1;cases two
 ·rw[if_pos rfl]at HQ
  go_wp2_with (first
   |(go_at_call 107;refine(Dj x1 44 _ (by omega)).mono ?_;rintro e w2 ⟨x2,y2,rfl,h1,h2,hb⟩;rw[HX1.out,HC2.out]at h1 h2;have HX2:=qd (show x2.data.toList=lea from h1);have HY2:=qd (show y2.data.toList=mos from h2);have HB2:=qd (Below.step HB1.out hb);have HK2:=qd (Ae hb HK1.out);have hx2:x2.size=lea.length:=(by rw[<-Ar,h1]);have hy2:y2.size=mos.length:=(by rw[<-Ar,h2]);rw[HX1.out,HC2.out];clear h1 h2 hb;obtain⟨_,_,_,_,_,_,_,_,_,_,bf⟩:=BB HK2.out;have f0:=bf 0;have f1:=bf 1;have f2:=bf 2;have f3:=bf 3;have f4:=bf 4;have f5:=bf 5;have f6:=bf 6;have f7:=bf 7;have f8:=bf 8;have f9:=bf 9;clear bf)
   |(go_at_call 107;(with_reducible refine(Dj (s.extract (a+1) s.size) 125 _ (by omega)).mono ?_);rintro e w1 ⟨x1,y1,rfl,h1,h2,hb⟩;rw[HD.out,HC1.out]at h1 h2;have HX1:=qd (show x1.data.toList=inn from h1);have HB1:=qd (Below.step HB0.out hb);have HK1:=qd (Ae hb HK0.out);have hx1:x1.size=inn.length:=(by rw[<-Ar,h1]);rw[HD.out,HC1.out];clear h1 h2 hb)
   |(go_at_call 108;(with_reducible refine(EK x2 99 _ (by omega) (by decide)).mono ?_);rintro e w' ⟨rfl,rfl⟩;rw[HX2.out,HN1.out])
   |fail)
  have e0:=CC HK2.out (.int .u8 14) (.int .i64 (a:Int)) (.int .i64 ((a:Int)+(inn.length:Int)+2)) (.string ⟨#[]⟩) (.int .u64 0) (.int .u64 0) (.int .u64 0) (.int .u64 0) (.int .i64 lo) (.int .i64 lo);obtain⟨t0,t1,t2,t3,t4,t5,t6,t7,t8,t9,_⟩:=BB e0;refine bodyPost_ret (v:=.tuple #[.agg #[.int .u8 14,.int .i64 (a:Int),.int .i64 ((a:Int)+(inn.length:Int)+2),.string ⟨#[]⟩,.int .u64 0,.int .u64 0,.int .u64 0,.int .u64 0,.int .i64 lo,.int .i64 lo],.bool true]) (by simp[results,Tryz.results92,go_sem,t0,t1,t2,t3,t4,t5,t6,t7,t8,t9]) rfl ?_;refine⟨⟨14,a,a+inn.length+2,[],0,0,0,0,lo,lo⟩,true,rfl,fun _=> ?_,fun h=>(by cases h),Ck HB2.out (Nat.le_refl _) _ _ _ _ _ _ _ _ _ _⟩;rw[D7 (x:=⟨14,0,inn.length+2,[],0,0,0,0,lo,lo⟩) (by rw[HH.out,HQ.out];rfl)];rfl
 rw[if_neg (by simp)]at HQ;by_cases hm:mos=[]
 ·rw[if_pos hm]at HQ;have hme:mos.isEmpty=true:=by rw[hm];rfl
  go_wp2_with (first
   |(go_at_call 107;refine(Dj x1 44 _ (by omega)).mono ?_;rintro e w2 ⟨x2,y2,rfl,h1,h2,hb⟩;rw[HX1.out,HC2.out]at h1 h2;have HX2:=qd (show x2.data.toList=lea from h1);have HY2:=qd (show y2.data.toList=mos from h2);have HB2:=qd (Below.step HB1.out hb);have HK2:=qd (Ae hb HK1.out);have hx2:x2.size=lea.length:=(by rw[<-Ar,h1]);have hy2:y2.size=mos.length:=(by rw[<-Ar,h2]);rw[HX1.out,HC2.out];clear h1 h2 hb;obtain⟨_,_,_,_,_,_,_,_,_,_,bf⟩:=BB HK2.out;have f0:=bf 0;have f1:=bf 1;have f2:=bf 2;have f3:=bf 3;have f4:=bf 4;have f5:=bf 5;have f6:=bf 6;have f7:=bf 7;have f8:=bf 8;have f9:=bf 9;clear bf;obtain⟨z1,z2⟩:=Jg HY2.out;rw[hme]at z1 z2)
   |(go_at_call 107;(with_reducible refine(Dj (s.extract (a+1) s.size) 125 _ (by omega)).mono ?_);rintro e w1 ⟨x1,y1,rfl,h1,h2,hb⟩;rw[HD.out,HC1.out]at h1 h2;have HX1:=qd (show x1.data.toList=inn from h1);have HB1:=qd (Below.step HB0.out hb);have HK1:=qd (Ae hb HK0.out);have hx1:x1.size=inn.length:=(by rw[<-Ar,h1]);rw[HD.out,HC1.out];clear h1 h2 hb)
   |(go_at_call 108;(with_reducible refine(EK x2 99 _ (by omega) (by decide)).mono ?_);rintro e w' ⟨rfl,rfl⟩;rw[HX2.out,HN1.out])
   |fail)
  have e0:=CC HK2.out (.int .u8 14) (.int .i64 (a:Int)) (.int .i64 ((a:Int)+(inn.length:Int)+2)) (.string ⟨#[]⟩) (.int .u64 0) (.int .u64 0) (.int .u64 0) (.int .u64 0) (.int .i64 lo) (.int .i64 (-1));obtain⟨t0,t1,t2,t3,t4,t5,t6,t7,t8,t9,_⟩:=BB e0;refine bodyPost_ret (v:=.tuple #[.agg #[.int .u8 14,.int .i64 (a:Int),.int .i64 ((a:Int)+(inn.length:Int)+2),.string ⟨#[]⟩,.int .u64 0,.int .u64 0,.int .u64 0,.int .u64 0,.int .i64 lo,.int .i64 (-1)],.bool true]) (by simp[results,Tryz.results92,go_sem,t0,t1,t2,t3,t4,t5,t6,t7,t8,t9]) rfl ?_;refine⟨⟨14,a,a+inn.length+2,[],0,0,0,0,lo,(-1)⟩,true,rfl,fun _=> ?_,fun h=>(by cases h),Ck HB2.out (Nat.le_refl _) _ _ _ _ _ _ _ _ _ _⟩;rw[D7 (x:=⟨14,0,inn.length+2,[],0,0,0,0,lo,(-1)⟩) (by rw[HH.out,HQ.out];rfl)];rfl
 rw[if_neg hm]at HQ
 have hme:mos.isEmpty=false:=by cases mos with
  |nil=>exact absurd rfl hm
  |cons x l=>rfl
 by_cases h2:e2≠0
 ·rw[if_pos (.inl h2)]at HQ;have i3:(e2 != 0)=true:=by simpa using h2
  have i4:¬e2=0:=h2
  go_wp2_with (first
   |(go_at_call 107;refine(Dj x1 44 _ (by omega)).mono ?_;rintro e w2 ⟨x2,y2,rfl,h1,h2,hb⟩;rw[HX1.out,HC2.out]at h1 h2;have HX2:=qd (show x2.data.toList=lea from h1);have HY2:=qd (show y2.data.toList=mos from h2);have HB2:=qd (Below.step HB1.out hb);have HK2:=qd (Ae hb HK1.out);have hx2:x2.size=lea.length:=(by rw[<-Ar,h1]);have hy2:y2.size=mos.length:=(by rw[<-Ar,h2]);rw[HX1.out,HC2.out];clear h1 h2 hb;obtain⟨_,_,_,_,_,_,_,_,_,_,bf⟩:=BB HK2.out;have f0:=bf 0;have f1:=bf 1;have f2:=bf 2;have f3:=bf 3;have f4:=bf 4;have f5:=bf 5;have f6:=bf 6;have f7:=bf 7;have f8:=bf 8;have f9:=bf 9;clear bf;obtain⟨z1,z2⟩:=Jg HY2.out;rw[hme]at z1 z2)
   |(go_at_call 107;(with_reducible refine(Dj (s.extract (a+1) s.size) 125 _ (by omega)).mono ?_);rintro e w1 ⟨x1,y1,rfl,h1,h2,hb⟩;rw[HD.out,HC1.out]at h1 h2;have HX1:=qd (show x1.data.toList=inn from h1);have HB1:=qd (Below.step HB0.out hb);have HK1:=qd (Ae hb HK0.out);have hx1:x1.size=inn.length:=(by rw[<-Ar,h1]);rw[HD.out,HC1.out];clear h1 h2 hb)
   |(go_at_call 108;(with_reducible refine(EK x2 99 _ (by omega) (by decide)).mono ?_);rintro e w' ⟨rfl,rfl⟩;rw[HX2.out,HN1.out])
   |(go_at_call 108;(with_reducible refine(EK y2 99 _ (by omega) (by decide)).mono ?_);rintro e w' ⟨rfl,rfl⟩;rw[HY2.out,HN2.out])
   |fail)
  have e0:=CC HK2.out (.int .u8 0) (.int .i64 0) (.int .i64 0) (.string ⟨#[]⟩) (.int .u64 0) (.int .u64 0) (.int .u64 0) (.int .u64 0) (.int .i64 0) (.int .i64 0);obtain⟨t0,t1,t2,t3,t4,t5,t6,t7,t8,t9,_⟩:=BB e0;refine bodyPost_ret (v:=.tuple #[.agg #[.int .u8 0,.int .i64 0,.int .i64 0,.string ⟨#[]⟩,.int .u64 0,.int .u64 0,.int .u64 0,.int .u64 0,.int .i64 0,.int .i64 0],.bool false]) (by simp[results,Tryz.results92,go_sem,t0,t1,t2,t3,t4,t5,t6,t7,t8,t9]) rfl ?_;exact⟨⟨0,0,0,[],0,0,0,0,0,0⟩,false,rfl,fun h=>(by cases h),fun _=>De (by rw[HH.out,HQ.out];rfl),Ck HB2.out (Nat.le_refl _) _ _ _ _ _ _ _ _ _ _⟩
 have h2':e2=0:=by omega
 subst h2';clear h2;by_cases h3:hi<lo
 ·rw[if_pos (.inr h3)]at HQ
  go_wp2_with (first
   |(go_at_call 107;refine(Dj x1 44 _ (by omega)).mono ?_;rintro e w2 ⟨x2,y2,rfl,h1,h2,hb⟩;rw[HX1.out,HC2.out]at h1 h2;have HX2:=qd (show x2.data.toList=lea from h1);have HY2:=qd (show y2.data.toList=mos from h2);have HB2:=qd (Below.step HB1.out hb);have HK2:=qd (Ae hb HK1.out);have hx2:x2.size=lea.length:=(by rw[<-Ar,h1]);have hy2:y2.size=mos.length:=(by rw[<-Ar,h2]);rw[HX1.out,HC2.out];clear h1 h2 hb;obtain⟨_,_,_,_,_,_,_,_,_,_,bf⟩:=BB HK2.out;have f0:=bf 0;have f1:=bf 1;have f2:=bf 2;have f3:=bf 3;have f4:=bf 4;have f5:=bf 5;have f6:=bf 6;have f7:=bf 7;have f8:=bf 8;have f9:=bf 9;clear bf;obtain⟨z1,z2⟩:=Jg HY2.out;rw[hme]at z1 z2)
   |(go_at_call 107;(with_reducible refine(Dj (s.extract (a+1) s.size) 125 _ (by omega)).mono ?_);rintro e w1 ⟨x1,y1,rfl,h1,h2,hb⟩;rw[HD.out,HC1.out]at h1 h2;have HX1:=qd (show x1.data.toList=inn from h1);have HB1:=qd (Below.step HB0.out hb);have HK1:=qd (Ae hb HK0.out);have hx1:x1.size=inn.length:=(by rw[<-Ar,h1]);rw[HD.out,HC1.out];clear h1 h2 hb)
   |(go_at_call 108;(with_reducible refine(EK x2 99 _ (by omega) (by decide)).mono ?_);rintro e w' ⟨rfl,rfl⟩;rw[HX2.out,HN1.out])
   |(go_at_call 108;(with_reducible refine(EK y2 99 _ (by omega) (by decide)).mono ?_);rintro e w' ⟨rfl,rfl⟩;rw[HY2.out,HN2.out])
   |fail)
  have e0:=CC HK2.out (.int .u8 0) (.int .i64 0) (.int .i64 0) (.string ⟨#[]⟩) (.int .u64 0) (.int .u64 0) (.int .u64 0) (.int .u64 0) (.int .i64 0) (.int .i64 0);obtain⟨t0,t1,t2,t3,t4,t5,t6,t7,t8,t9,_⟩:=BB e0;refine bodyPost_ret (v:=.tuple #[.agg #[.int .u8 0,.int .i64 0,.int .i64 0,.string ⟨#[]⟩,.int .u64 0,.int .u64 0,.int .u64 0,.int .u64 0,.int .i64 0,.int .i64 0],.bool false]) (by simp[results,Tryz.results92,go_sem,t0,t1,t2,t3,t4,t5,t6,t7,t8,t9]) rfl ?_;exact⟨⟨0,0,0,[],0,0,0,0,0,0⟩,false,rfl,fun h=>(by cases h),fun _=>De (by rw[HH.out,HQ.out];rfl),Ck HB2.out (Nat.le_refl _) _ _ _ _ _ _ _ _ _ _⟩
 ·rw[if_neg (by omega)]at HQ
  go_wp2_with (first
   |(go_at_call 107;refine(Dj x1 44 _ (by omega)).mono ?_;rintro e w2 ⟨x2,y2,rfl,h1,h2,hb⟩;rw[HX1.out,HC2.out]at h1 h2;have HX2:=qd (show x2.data.toList=lea from h1);have HY2:=qd (show y2.data.toList=mos from h2);have HB2:=qd (Below.step HB1.out hb);have HK2:=qd (Ae hb HK1.out);have hx2:x2.size=lea.length:=(by rw[<-Ar,h1]);have hy2:y2.size=mos.length:=(by rw[<-Ar,h2]);rw[HX1.out,HC2.out];clear h1 h2 hb;obtain⟨_,_,_,_,_,_,_,_,_,_,bf⟩:=BB HK2.out;have f0:=bf 0;have f1:=bf 1;have f2:=bf 2;have f3:=bf 3;have f4:=bf 4;have f5:=bf 5;have f6:=bf 6;have f7:=bf 7;have f8:=bf 8;have f9:=bf 9;clear bf;obtain⟨z1,z2⟩:=Jg HY2.out;rw[hme]at z1 z2)
   |(go_at_call 107;(with_reducible refine(Dj (s.extract (a+1) s.size) 125 _ (by omega)).mono ?_);rintro e w1 ⟨x1,y1,rfl,h1,h2,hb⟩;rw[HD.out,HC1.out]at h1 h2;have HX1:=qd (show x1.data.toList=inn from h1);have HB1:=qd (Below.step HB0.out hb);have HK1:=qd (Ae hb HK0.out);have hx1:x1.size=inn.length:=(by rw[<-Ar,h1]);rw[HD.out,HC1.out];clear h1 h2 hb)
   |(go_at_call 108;(with_reducible refine(EK x2 99 _ (by omega) (by decide)).mono ?_);rintro e w' ⟨rfl,rfl⟩;rw[HX2.out,HN1.out])
   |(go_at_call 108;(with_reducible refine(EK y2 99 _ (by omega) (by decide)).mono ?_);rintro e w' ⟨rfl,rfl⟩;rw[HY2.out,HN2.out])
   |fail)
  have e0:=CC HK2.out (.int .u8 14) (.int .i64 (a:Int)) (.int .i64 ((a:Int)+(inn.length:Int)+2)) (.string ⟨#[]⟩) (.int .u64 0) (.int .u64 0) (.int .u64 0) (.int .u64 0) (.int .i64 lo) (.int .i64 hi);obtain⟨t0,t1,t2,t3,t4,t5,t6,t7,t8,t9,_⟩:=BB e0;refine bodyPost_ret (v:=.tuple #[.agg #[.int .u8 14,.int .i64 (a:Int),.int .i64 ((a:Int)+(inn.length:Int)+2),.string ⟨#[]⟩,.int .u64 0,.int .u64 0,.int .u64 0,.int .u64 0,.int .i64 lo,.int .i64 hi],.bool true]) (by simp[results,Tryz.results92,go_sem,t0,t1,t2,t3,t4,t5,t6,t7,t8,t9]) rfl ?_;refine⟨⟨14,a,a+inn.length+2,[],0,0,0,0,lo,hi⟩,true,rfl,fun _=> ?_,fun h=>(by cases h),Ck HB2.out (Nat.le_refl _) _ _ _ _ _ _ _ _ _ _⟩;rw[D7 (x:=⟨14,0,inn.length+2,[],0,0,0,0,lo,hi⟩) (by rw[HH.out,HQ.out];rfl)];rfl
end Go.Proofs.YtdnochjajoiooaaGreatDoor
