/- The contract of lex.count. -/
import Derived.Test.YtpfokabdpmjobaaGreatDoorLm
import Derived.Test.YtpfokabdpmjobaaGreatDoorNb
import Derived.Deep.DeepCutAuto
import Derived.Deep.Cut
import Derived.Deep.CutRange
namespace Go.Proofs.YtpfokabdpmjobaaGreatDoor
open Go.RowKit
set_option linter.unusedSimpArgs false
set_option linter.unusedVariables false
theorem emp_data {b:ByteArray} {l:List UInt8} (h:b.data.toList=l):b.toList.isEmpty=l.isEmpty∧b.data.isEmpty=l.isEmpty:=by
 refine⟨by rw[Lib.toList_data,h],?_⟩
 rw[←h];simp
set_option maxRecDepth 100000 in
set_option maxHeartbeats 3000000 in
theorem count_word (s:ByteArray) (a:Nat) (w:World) (ha:a<s.size) (hs:s.size≤1000000) (hk:s.data.toList[a]?=some 123):
  Calls Tryz.prog 95 #[.string s,.int .i64 (a:Int)] w (ReadPost s.data.toList a w):=by
 have hd:=cut_data s (a+1) (by omega)
 have hse:(s.extract (a+1) s.size).size≤s.size:=by simp[ByteArray.size_extract]
 have i1:(0:Int)≤(a:Int):=by omega
 have i2:(a:Int)+1≤(s.size:Int):=by omega
 have hh:headW (s.data.toList.drop a)=(countL (s.data.toList.drop (a+1))).map fun x=>⟨14,0,x.1+2,[],0,0,0,0,x.2.1,x.2.2⟩:=by
  unfold headW
  rw[drop_first,hk]
  show(countL ((s.data.toList.drop a).drop 1)).map _=_
  rw[List.drop_drop]
 have HD:=Lib.hid hd
 have HH:=Lib.hid hh
 have HB0:=Lib.hid (bx1 w (.cells (wdC ⟨0,0,0,[],0,0,0,0,0,0⟩) 32))
 have HK0:=Lib.hid (bx_new w (.cells (wdC ⟨0,0,0,[],0,0,0,0,0,0⟩) 32))
 clear hd hh
 have HLN:=Lib.hid (cut1_len 125 (s.data.toList.drop (a+1)))
 have HLD:=Lib.hid (show(s.data.toList.drop (a+1)).length≤s.size from by rw[List.length_drop,sz_data];omega)
 go_enter Tryz.func95,Tryz.ntmps95
 have hq:countL (s.data.toList.drop (a+1))=if (cut1 125 (s.data.toList.drop (a+1))).2.2=false then none else if (numL (cut1 44 (cut1 125 (s.data.toList.drop (a+1))).1).1 99).2≠0 then none else if (cut1 44 (cut1 125 (s.data.toList.drop (a+1))).1).2.2=false then some ((cut1 125 (s.data.toList.drop (a+1))).1.length,(numL (cut1 44 (cut1 125 (s.data.toList.drop (a+1))).1).1 99).1,(numL (cut1 44 (cut1 125 (s.data.toList.drop (a+1))).1).1 99).1)else if (cut1 44 (cut1 125 (s.data.toList.drop (a+1))).1).2.1=[]then some ((cut1 125 (s.data.toList.drop (a+1))).1.length,(numL (cut1 44 (cut1 125 (s.data.toList.drop (a+1))).1).1 99).1, -1)else if (numL (cut1 44 (cut1 125 (s.data.toList.drop (a+1))).1).2.1 99).2≠0∨(numL (cut1 44 (cut1 125 (s.data.toList.drop (a+1))).1).2.1 99).1<(numL (cut1 44 (cut1 125 (s.data.toList.drop (a+1))).1).1 99).1 then none else some ((cut1 125 (s.data.toList.drop (a+1))).1.length,(numL (cut1 44 (cut1 125 (s.data.toList.drop (a+1))).1).1 99).1,(numL (cut1 44 (cut1 125 (s.data.toList.drop (a+1))).1).2.1 99).1):=rfl
 generalize hc1:cut1 125 (s.data.toList.drop (a+1))=c1 at *
 obtain⟨inn,rst,cl⟩:=c1
 generalize hc2:cut1 44 inn=c2 at *
 obtain⟨lea,mos,two⟩:=c2
 simp only at hq
 have HC1:=Lib.hid hc1;have HC2:=Lib.hid hc2
 have hil:inn.length≤s.size:=Nat.le_trans HLN.out.1 HLD.out
 have hll:=cut1_len 44 inn
 rw[hc2]at hll
 simp only at hll
 have hl1:lea.length≤s.size:=Nat.le_trans hll.1 hil
 have hl2:mos.length≤s.size:=Nat.le_trans hll.2 hil
 have HQ:=Lib.hid hq
 clear hc1 hc2 hq hll
 obtain⟨⟨lo,e1⟩,hn1⟩:∃p,numL lea 99=p:=⟨_,rfl⟩
 obtain⟨⟨hi,e2⟩,hn2⟩:∃p,numL mos 99=p:=⟨_,rfl⟩
 have HN1:=Lib.hid hn1;have HN2:=Lib.hid hn2
 have HNC1:=Lib.hid (num_code lea 99);have HNC2:=Lib.hid (num_code mos 99)
 rw[hn1,hn2]at HQ
 rw[hn1]at HNC1;rw[hn2]at HNC2
 simp only at HQ
 clear hn1 hn2
 cases cl
 ·rw[if_pos rfl]at HQ
  go_wp2_with (first
   |(go_at_call 117;(with_reducible refine(cut_any (s.extract (a+1) s.size) 125 _ (by omega)).mono ?_);rintro e w1 ⟨x1,y1,rfl,h1,h2,hb⟩;rw[HD.out,HC1.out]at h1 h2;have HX1:=Lib.hid (show x1.data.toList=inn from h1);have HB1:=Lib.hid (Below.step HB0.out hb);have HK1:=Lib.hid (bx_kept hb HK0.out);have hx1:x1.size=inn.length:=(by rw[←sz_data,h1]);rw[HD.out,HC1.out];clear h1 h2 hb;obtain⟨_,_,_,_,_,_,_,_,_,_,bf⟩:=blk10 HK1.out;have f0:=bf 0;have f1:=bf 1;have f2:=bf 2;have f3:=bf 3;have f4:=bf 4;have f5:=bf 5;have f6:=bf 6;have f7:=bf 7;have f8:=bf 8;have f9:=bf 9;clear bf)
   |fail)
  have e0:=putW_blk HK1.out (.int .u8 0) (.int .i64 0) (.int .i64 0) (.string ⟨#[]⟩) (.int .u64 0) (.int .u64 0) (.int .u64 0) (.int .u64 0) (.int .i64 0) (.int .i64 0)
  obtain⟨t0,t1,t2,t3,t4,t5,t6,t7,t8,t9,_⟩:=blk10 e0
  refine bodyPost_ret (v:=.tuple #[.agg #[.int .u8 0,.int .i64 0,.int .i64 0,.string ⟨#[]⟩,.int .u64 0,.int .u64 0,.int .u64 0,.int .u64 0,.int .i64 0,.int .i64 0],.bool false]) (by simp[results,Tryz.results95,go_sem,t0,t1,t2,t3,t4,t5,t6,t7,t8,t9]) rfl ?_
  exact⟨⟨0,0,0,[],0,0,0,0,0,0⟩,false,rfl,fun h=>(by cases h),fun _=>wordL_none (by rw[HH.out,HQ.out];rfl),putW_below HB1.out (Nat.le_refl _) _ _ _ _ _ _ _ _ _ _⟩
 rw[if_neg (by simp)]at HQ
 by_cases h1:e1≠0
 ·rw[if_pos h1]at HQ
  have i3:(e1 != 0)=true:=by simpa using h1
  have i4:¬e1=0:=h1
  go_wp2_with (first
   |(go_at_call 117;refine(cut_any x1 44 _ (by omega)).mono ?_;rintro e w2 ⟨x2,y2,rfl,h1,h2,hb⟩;rw[HX1.out,HC2.out]at h1 h2;have HX2:=Lib.hid (show x2.data.toList=lea from h1);have HY2:=Lib.hid (show y2.data.toList=mos from h2);have HB2:=Lib.hid (Below.step HB1.out hb);have HK2:=Lib.hid (bx_kept hb HK1.out);have hx2:x2.size=lea.length:=(by rw[←sz_data,h1]);have hy2:y2.size=mos.length:=(by rw[←sz_data,h2]);rw[HX1.out,HC2.out];clear h1 h2 hb;obtain⟨_,_,_,_,_,_,_,_,_,_,bf⟩:=blk10 HK2.out;have f0:=bf 0;have f1:=bf 1;have f2:=bf 2;have f3:=bf 3;have f4:=bf 4;have f5:=bf 5;have f6:=bf 6;have f7:=bf 7;have f8:=bf 8;have f9:=bf 9;clear bf)
   |(go_at_call 117;(with_reducible refine(cut_any (s.extract (a+1) s.size) 125 _ (by omega)).mono ?_);rintro e w1 ⟨x1,y1,rfl,h1,h2,hb⟩;rw[HD.out,HC1.out]at h1 h2;have HX1:=Lib.hid (show x1.data.toList=inn from h1);have HB1:=Lib.hid (Below.step HB0.out hb);have HK1:=Lib.hid (bx_kept hb HK0.out);have hx1:x1.size=inn.length:=(by rw[←sz_data,h1]);rw[HD.out,HC1.out];clear h1 h2 hb)
   |(go_at_call 118;(with_reducible refine(num_any x2 99 _ (by omega) (by decide)).mono ?_);rintro e w' ⟨rfl,rfl⟩;rw[HX2.out,HN1.out])
   |fail)
  have e0:=putW_blk HK2.out (.int .u8 0) (.int .i64 0) (.int .i64 0) (.string ⟨#[]⟩) (.int .u64 0) (.int .u64 0) (.int .u64 0) (.int .u64 0) (.int .i64 0) (.int .i64 0)
  obtain⟨t0,t1,t2,t3,t4,t5,t6,t7,t8,t9,_⟩:=blk10 e0
  refine bodyPost_ret (v:=.tuple #[.agg #[.int .u8 0,.int .i64 0,.int .i64 0,.string ⟨#[]⟩,.int .u64 0,.int .u64 0,.int .u64 0,.int .u64 0,.int .i64 0,.int .i64 0],.bool false]) (by simp[results,Tryz.results95,go_sem,t0,t1,t2,t3,t4,t5,t6,t7,t8,t9]) rfl ?_
  exact⟨⟨0,0,0,[],0,0,0,0,0,0⟩,false,rfl,fun h=>(by cases h),fun _=>wordL_none (by rw[HH.out,HQ.out];rfl),putW_below HB2.out (Nat.le_refl _) _ _ _ _ _ _ _ _ _ _⟩
 rw[if_neg h1]at HQ
 have h1':e1=0:=by omega
 subst h1'
 clear h1
 cases two
 ·rw[if_pos rfl]at HQ
  go_wp2_with (first
   |(go_at_call 117;refine(cut_any x1 44 _ (by omega)).mono ?_;rintro e w2 ⟨x2,y2,rfl,h1,h2,hb⟩;rw[HX1.out,HC2.out]at h1 h2;have HX2:=Lib.hid (show x2.data.toList=lea from h1);have HY2:=Lib.hid (show y2.data.toList=mos from h2);have HB2:=Lib.hid (Below.step HB1.out hb);have HK2:=Lib.hid (bx_kept hb HK1.out);have hx2:x2.size=lea.length:=(by rw[←sz_data,h1]);have hy2:y2.size=mos.length:=(by rw[←sz_data,h2]);rw[HX1.out,HC2.out];clear h1 h2 hb;obtain⟨_,_,_,_,_,_,_,_,_,_,bf⟩:=blk10 HK2.out;have f0:=bf 0;have f1:=bf 1;have f2:=bf 2;have f3:=bf 3;have f4:=bf 4;have f5:=bf 5;have f6:=bf 6;have f7:=bf 7;have f8:=bf 8;have f9:=bf 9;clear bf)
   |(go_at_call 117;(with_reducible refine(cut_any (s.extract (a+1) s.size) 125 _ (by omega)).mono ?_);rintro e w1 ⟨x1,y1,rfl,h1,h2,hb⟩;rw[HD.out,HC1.out]at h1 h2;have HX1:=Lib.hid (show x1.data.toList=inn from h1);have HB1:=Lib.hid (Below.step HB0.out hb);have HK1:=Lib.hid (bx_kept hb HK0.out);have hx1:x1.size=inn.length:=(by rw[←sz_data,h1]);rw[HD.out,HC1.out];clear h1 h2 hb)
   |(go_at_call 118;(with_reducible refine(num_any x2 99 _ (by omega) (by decide)).mono ?_);rintro e w' ⟨rfl,rfl⟩;rw[HX2.out,HN1.out])
   |fail)
  have e0:=putW_blk HK2.out (.int .u8 14) (.int .i64 (a:Int)) (.int .i64 ((a:Int)+(inn.length:Int)+2)) (.string ⟨#[]⟩) (.int .u64 0) (.int .u64 0) (.int .u64 0) (.int .u64 0) (.int .i64 lo) (.int .i64 lo)
  obtain⟨t0,t1,t2,t3,t4,t5,t6,t7,t8,t9,_⟩:=blk10 e0
  refine bodyPost_ret (v:=.tuple #[.agg #[.int .u8 14,.int .i64 (a:Int),.int .i64 ((a:Int)+(inn.length:Int)+2),.string ⟨#[]⟩,.int .u64 0,.int .u64 0,.int .u64 0,.int .u64 0,.int .i64 lo,.int .i64 lo],.bool true]) (by simp[results,Tryz.results95,go_sem,t0,t1,t2,t3,t4,t5,t6,t7,t8,t9]) rfl ?_
  refine⟨⟨14,a,a+inn.length+2,[],0,0,0,0,lo,lo⟩,true,rfl,fun _=> ?_,fun h=>(by cases h),putW_below HB2.out (Nat.le_refl _) _ _ _ _ _ _ _ _ _ _⟩
  rw[wordL_of (x:=⟨14,0,inn.length+2,[],0,0,0,0,lo,lo⟩) (by rw[HH.out,HQ.out];rfl)]
  rfl
 rw[if_neg (by simp)]at HQ
 by_cases hm:mos=[]
 ·rw[if_pos hm]at HQ
  have hme:mos.isEmpty=true:=by rw[hm];rfl
  go_wp2_with (first
   |(go_at_call 117;refine(cut_any x1 44 _ (by omega)).mono ?_;rintro e w2 ⟨x2,y2,rfl,h1,h2,hb⟩;rw[HX1.out,HC2.out]at h1 h2;have HX2:=Lib.hid (show x2.data.toList=lea from h1);have HY2:=Lib.hid (show y2.data.toList=mos from h2);have HB2:=Lib.hid (Below.step HB1.out hb);have HK2:=Lib.hid (bx_kept hb HK1.out);have hx2:x2.size=lea.length:=(by rw[←sz_data,h1]);have hy2:y2.size=mos.length:=(by rw[←sz_data,h2]);rw[HX1.out,HC2.out];clear h1 h2 hb;obtain⟨_,_,_,_,_,_,_,_,_,_,bf⟩:=blk10 HK2.out;have f0:=bf 0;have f1:=bf 1;have f2:=bf 2;have f3:=bf 3;have f4:=bf 4;have f5:=bf 5;have f6:=bf 6;have f7:=bf 7;have f8:=bf 8;have f9:=bf 9;clear bf;obtain⟨z1,z2⟩:=emp_data HY2.out;rw[hme]at z1 z2)
   |(go_at_call 117;(with_reducible refine(cut_any (s.extract (a+1) s.size) 125 _ (by omega)).mono ?_);rintro e w1 ⟨x1,y1,rfl,h1,h2,hb⟩;rw[HD.out,HC1.out]at h1 h2;have HX1:=Lib.hid (show x1.data.toList=inn from h1);have HB1:=Lib.hid (Below.step HB0.out hb);have HK1:=Lib.hid (bx_kept hb HK0.out);have hx1:x1.size=inn.length:=(by rw[←sz_data,h1]);rw[HD.out,HC1.out];clear h1 h2 hb)
   |(go_at_call 118;(with_reducible refine(num_any x2 99 _ (by omega) (by decide)).mono ?_);rintro e w' ⟨rfl,rfl⟩;rw[HX2.out,HN1.out])
   |fail)
  have e0:=putW_blk HK2.out (.int .u8 14) (.int .i64 (a:Int)) (.int .i64 ((a:Int)+(inn.length:Int)+2)) (.string ⟨#[]⟩) (.int .u64 0) (.int .u64 0) (.int .u64 0) (.int .u64 0) (.int .i64 lo) (.int .i64 (-1))
  obtain⟨t0,t1,t2,t3,t4,t5,t6,t7,t8,t9,_⟩:=blk10 e0
  refine bodyPost_ret (v:=.tuple #[.agg #[.int .u8 14,.int .i64 (a:Int),.int .i64 ((a:Int)+(inn.length:Int)+2),.string ⟨#[]⟩,.int .u64 0,.int .u64 0,.int .u64 0,.int .u64 0,.int .i64 lo,.int .i64 (-1)],.bool true]) (by simp[results,Tryz.results95,go_sem,t0,t1,t2,t3,t4,t5,t6,t7,t8,t9]) rfl ?_
  refine⟨⟨14,a,a+inn.length+2,[],0,0,0,0,lo,(-1)⟩,true,rfl,fun _=> ?_,fun h=>(by cases h),putW_below HB2.out (Nat.le_refl _) _ _ _ _ _ _ _ _ _ _⟩
  rw[wordL_of (x:=⟨14,0,inn.length+2,[],0,0,0,0,lo,(-1)⟩) (by rw[HH.out,HQ.out];rfl)]
  rfl
 rw[if_neg hm]at HQ
 have hme:mos.isEmpty=false:=by cases mos with
  |nil=>exact absurd rfl hm
  |cons x l=>rfl
 by_cases h2:e2≠0
 ·rw[if_pos (.inl h2)]at HQ
  have i3:(e2 != 0)=true:=by simpa using h2
  have i4:¬e2=0:=h2
  go_wp2_with (first
   |(go_at_call 117;refine(cut_any x1 44 _ (by omega)).mono ?_;rintro e w2 ⟨x2,y2,rfl,h1,h2,hb⟩;rw[HX1.out,HC2.out]at h1 h2;have HX2:=Lib.hid (show x2.data.toList=lea from h1);have HY2:=Lib.hid (show y2.data.toList=mos from h2);have HB2:=Lib.hid (Below.step HB1.out hb);have HK2:=Lib.hid (bx_kept hb HK1.out);have hx2:x2.size=lea.length:=(by rw[←sz_data,h1]);have hy2:y2.size=mos.length:=(by rw[←sz_data,h2]);rw[HX1.out,HC2.out];clear h1 h2 hb;obtain⟨_,_,_,_,_,_,_,_,_,_,bf⟩:=blk10 HK2.out;have f0:=bf 0;have f1:=bf 1;have f2:=bf 2;have f3:=bf 3;have f4:=bf 4;have f5:=bf 5;have f6:=bf 6;have f7:=bf 7;have f8:=bf 8;have f9:=bf 9;clear bf;obtain⟨z1,z2⟩:=emp_data HY2.out;rw[hme]at z1 z2)
   |(go_at_call 117;(with_reducible refine(cut_any (s.extract (a+1) s.size) 125 _ (by omega)).mono ?_);rintro e w1 ⟨x1,y1,rfl,h1,h2,hb⟩;rw[HD.out,HC1.out]at h1 h2;have HX1:=Lib.hid (show x1.data.toList=inn from h1);have HB1:=Lib.hid (Below.step HB0.out hb);have HK1:=Lib.hid (bx_kept hb HK0.out);have hx1:x1.size=inn.length:=(by rw[←sz_data,h1]);rw[HD.out,HC1.out];clear h1 h2 hb)
   |(go_at_call 118;(with_reducible refine(num_any x2 99 _ (by omega) (by decide)).mono ?_);rintro e w' ⟨rfl,rfl⟩;rw[HX2.out,HN1.out])
   |(go_at_call 118;(with_reducible refine(num_any y2 99 _ (by omega) (by decide)).mono ?_);rintro e w' ⟨rfl,rfl⟩;rw[HY2.out,HN2.out])
   |fail)
  have e0:=putW_blk HK2.out (.int .u8 0) (.int .i64 0) (.int .i64 0) (.string ⟨#[]⟩) (.int .u64 0) (.int .u64 0) (.int .u64 0) (.int .u64 0) (.int .i64 0) (.int .i64 0)
  obtain⟨t0,t1,t2,t3,t4,t5,t6,t7,t8,t9,_⟩:=blk10 e0
  refine bodyPost_ret (v:=.tuple #[.agg #[.int .u8 0,.int .i64 0,.int .i64 0,.string ⟨#[]⟩,.int .u64 0,.int .u64 0,.int .u64 0,.int .u64 0,.int .i64 0,.int .i64 0],.bool false]) (by simp[results,Tryz.results95,go_sem,t0,t1,t2,t3,t4,t5,t6,t7,t8,t9]) rfl ?_
  exact⟨⟨0,0,0,[],0,0,0,0,0,0⟩,false,rfl,fun h=>(by cases h),fun _=>wordL_none (by rw[HH.out,HQ.out];rfl),putW_below HB2.out (Nat.le_refl _) _ _ _ _ _ _ _ _ _ _⟩
 have h2':e2=0:=by omega
 subst h2'
 clear h2
 by_cases h3:hi<lo
 ·rw[if_pos (.inr h3)]at HQ
  go_wp2_with (first
   |(go_at_call 117;refine(cut_any x1 44 _ (by omega)).mono ?_;rintro e w2 ⟨x2,y2,rfl,h1,h2,hb⟩;rw[HX1.out,HC2.out]at h1 h2;have HX2:=Lib.hid (show x2.data.toList=lea from h1);have HY2:=Lib.hid (show y2.data.toList=mos from h2);have HB2:=Lib.hid (Below.step HB1.out hb);have HK2:=Lib.hid (bx_kept hb HK1.out);have hx2:x2.size=lea.length:=(by rw[←sz_data,h1]);have hy2:y2.size=mos.length:=(by rw[←sz_data,h2]);rw[HX1.out,HC2.out];clear h1 h2 hb;obtain⟨_,_,_,_,_,_,_,_,_,_,bf⟩:=blk10 HK2.out;have f0:=bf 0;have f1:=bf 1;have f2:=bf 2;have f3:=bf 3;have f4:=bf 4;have f5:=bf 5;have f6:=bf 6;have f7:=bf 7;have f8:=bf 8;have f9:=bf 9;clear bf;obtain⟨z1,z2⟩:=emp_data HY2.out;rw[hme]at z1 z2)
   |(go_at_call 117;(with_reducible refine(cut_any (s.extract (a+1) s.size) 125 _ (by omega)).mono ?_);rintro e w1 ⟨x1,y1,rfl,h1,h2,hb⟩;rw[HD.out,HC1.out]at h1 h2;have HX1:=Lib.hid (show x1.data.toList=inn from h1);have HB1:=Lib.hid (Below.step HB0.out hb);have HK1:=Lib.hid (bx_kept hb HK0.out);have hx1:x1.size=inn.length:=(by rw[←sz_data,h1]);rw[HD.out,HC1.out];clear h1 h2 hb)
   |(go_at_call 118;(with_reducible refine(num_any x2 99 _ (by omega) (by decide)).mono ?_);rintro e w' ⟨rfl,rfl⟩;rw[HX2.out,HN1.out])
   |(go_at_call 118;(with_reducible refine(num_any y2 99 _ (by omega) (by decide)).mono ?_);rintro e w' ⟨rfl,rfl⟩;rw[HY2.out,HN2.out])
   |fail)
  have e0:=putW_blk HK2.out (.int .u8 0) (.int .i64 0) (.int .i64 0) (.string ⟨#[]⟩) (.int .u64 0) (.int .u64 0) (.int .u64 0) (.int .u64 0) (.int .i64 0) (.int .i64 0)
  obtain⟨t0,t1,t2,t3,t4,t5,t6,t7,t8,t9,_⟩:=blk10 e0
  refine bodyPost_ret (v:=.tuple #[.agg #[.int .u8 0,.int .i64 0,.int .i64 0,.string ⟨#[]⟩,.int .u64 0,.int .u64 0,.int .u64 0,.int .u64 0,.int .i64 0,.int .i64 0],.bool false]) (by simp[results,Tryz.results95,go_sem,t0,t1,t2,t3,t4,t5,t6,t7,t8,t9]) rfl ?_
  exact⟨⟨0,0,0,[],0,0,0,0,0,0⟩,false,rfl,fun h=>(by cases h),fun _=>wordL_none (by rw[HH.out,HQ.out];rfl),putW_below HB2.out (Nat.le_refl _) _ _ _ _ _ _ _ _ _ _⟩
 ·rw[if_neg (by omega)]at HQ
  go_wp2_with (first
   |(go_at_call 117;refine(cut_any x1 44 _ (by omega)).mono ?_;rintro e w2 ⟨x2,y2,rfl,h1,h2,hb⟩;rw[HX1.out,HC2.out]at h1 h2;have HX2:=Lib.hid (show x2.data.toList=lea from h1);have HY2:=Lib.hid (show y2.data.toList=mos from h2);have HB2:=Lib.hid (Below.step HB1.out hb);have HK2:=Lib.hid (bx_kept hb HK1.out);have hx2:x2.size=lea.length:=(by rw[←sz_data,h1]);have hy2:y2.size=mos.length:=(by rw[←sz_data,h2]);rw[HX1.out,HC2.out];clear h1 h2 hb;obtain⟨_,_,_,_,_,_,_,_,_,_,bf⟩:=blk10 HK2.out;have f0:=bf 0;have f1:=bf 1;have f2:=bf 2;have f3:=bf 3;have f4:=bf 4;have f5:=bf 5;have f6:=bf 6;have f7:=bf 7;have f8:=bf 8;have f9:=bf 9;clear bf;obtain⟨z1,z2⟩:=emp_data HY2.out;rw[hme]at z1 z2)
   |(go_at_call 117;(with_reducible refine(cut_any (s.extract (a+1) s.size) 125 _ (by omega)).mono ?_);rintro e w1 ⟨x1,y1,rfl,h1,h2,hb⟩;rw[HD.out,HC1.out]at h1 h2;have HX1:=Lib.hid (show x1.data.toList=inn from h1);have HB1:=Lib.hid (Below.step HB0.out hb);have HK1:=Lib.hid (bx_kept hb HK0.out);have hx1:x1.size=inn.length:=(by rw[←sz_data,h1]);rw[HD.out,HC1.out];clear h1 h2 hb)
   |(go_at_call 118;(with_reducible refine(num_any x2 99 _ (by omega) (by decide)).mono ?_);rintro e w' ⟨rfl,rfl⟩;rw[HX2.out,HN1.out])
   |(go_at_call 118;(with_reducible refine(num_any y2 99 _ (by omega) (by decide)).mono ?_);rintro e w' ⟨rfl,rfl⟩;rw[HY2.out,HN2.out])
   |fail)
  have e0:=putW_blk HK2.out (.int .u8 14) (.int .i64 (a:Int)) (.int .i64 ((a:Int)+(inn.length:Int)+2)) (.string ⟨#[]⟩) (.int .u64 0) (.int .u64 0) (.int .u64 0) (.int .u64 0) (.int .i64 lo) (.int .i64 hi)
  obtain⟨t0,t1,t2,t3,t4,t5,t6,t7,t8,t9,_⟩:=blk10 e0
  refine bodyPost_ret (v:=.tuple #[.agg #[.int .u8 14,.int .i64 (a:Int),.int .i64 ((a:Int)+(inn.length:Int)+2),.string ⟨#[]⟩,.int .u64 0,.int .u64 0,.int .u64 0,.int .u64 0,.int .i64 lo,.int .i64 hi],.bool true]) (by simp[results,Tryz.results95,go_sem,t0,t1,t2,t3,t4,t5,t6,t7,t8,t9]) rfl ?_
  refine⟨⟨14,a,a+inn.length+2,[],0,0,0,0,lo,hi⟩,true,rfl,fun _=> ?_,fun h=>(by cases h),putW_below HB2.out (Nat.le_refl _) _ _ _ _ _ _ _ _ _ _⟩
  rw[wordL_of (x:=⟨14,0,inn.length+2,[],0,0,0,0,lo,hi⟩) (by rw[HH.out,HQ.out];rfl)]
  rfl
end Go.Proofs.YtpfokabdpmjobaaGreatDoor
