/- The contracts of what reads a word that begins by a certain byte: lex.literal, class. strings.Cut at a separator of one byte: its contract, and the plain law. The contract of name.Num. -/
import Derived.Test.YtpfokabdpmjobaaGreatDoorLm
import Derived.Test.YtpfokabdpmjobaaGreatDoorLl
import Derived.Test.YtpfokabdpmjobaaGreatDoorLa
import Derived.Test.YtpfokabdpmjobaaGreatDoorShelf
import Derived.WalkKit
import Derived.WalkSpells
import Derived.WalkLawsBesides
import Derived.Below
import Derived.Lib.IndexBytes
import Derived.RegionTactic
import Derived.BigQuiet
import Derived.Deep.QuietTactic
import Derived.Test.YtpfokabdpmjobaaGreatDoorNa
import Derived.Deep.Cut
namespace Go.Proofs.YtpfokabdpmjobaaGreatDoor
open Go.RowKit
set_option linter.unusedSimpArgs false
set_option linter.unusedVariables false
theorem RN_place (left:List UInt8) (en:UInt8) (t:List UInt8):∀f a,a≤t.length→(runR left en t f a).2.1≤t.length
 |0,a,ha=>ha
 |f+1,a,ha=>by
  simp only[runR]
  split
  ·exact ha
  cases e:signR left t a with
  |no p k=>rcases signR_no e with h|h <;> simp only <;> omega
  |ok b n=>
   have h1:=signR_ok e
   exact RN_place left en t f n h1.2
theorem unlit_place (t:List UInt8):(unlitR t).2.1≤t.length:=by
 unfold unlitR
 split
 ·exact Nat.zero_le _
 ·rename_i c hc
  have hl:=(List.getElem?_eq_some_iff.1 hc).1
  split
  ·exact Nat.zero_le _
  ·have h:=RN_len [34] 34 t t.length 1 (by omega) (by omega)
   simp only
   by_cases h0:(runR [34] 34 t t.length 1).2.2=0
   ·have h1:=(List.getElem?_eq_some_iff.1 (h.2 h0).1).1
    rw[if_neg (by simpa using h0)]
    split
    ·exact Nat.zero_le _
    ·simp only;omega
   ·rw[if_pos h0]
    exact RN_place [34] 34 t t.length 1 (by omega)
theorem uncls_place (t:List UInt8):(unclsR t).2.1≤t.length+1:=by
 unfold unclsR
 split
 ·exact Nat.zero_le _
 ·rename_i c hc
  have hl:=(List.getElem?_eq_some_iff.1 hc).1
  split
  ·exact Nat.zero_le _
  ·simp only
   have hp:(if decide (t[1]?=some 94)=true then 2 else 1)≤t.length:=by
    split
    ·rename_i h;have:=(List.getElem?_eq_some_iff.1 (of_decide_eq_true h)).1;omega
    ·omega
   have h:=GN_place t t.length _ hp
   generalize rangesR t t.length (if decide (t[1]?=some 94)=true then 2 else 1)=r at *
   by_cases h0:r.2.2≠0
   ·rw[if_pos h0];show r.2.1≤_;omega
   ·rw[if_neg h0];show r.2.1+1≤_;omega
set_option maxRecDepth 100000 in
set_option maxHeartbeats 1000000 in
theorem literal_any (s:ByteArray) (a:Nat) (w:World) (ha:a<s.size) (hs:s.size≤1000000) (hk:s.data.toList[a]?=some 34):
  Calls Tryz.prog 96 #[.string s,.int .i64 (a:Int)] w (ReadPost s.data.toList a w):=by
 have hd:=cut_data s a (by omega)
 have hse:(s.extract a s.size).size≤s.size:=by simp[ByteArray.size_extract]
 have i1:(0:Int)≤(a:Int):=by omega
 have i2:(a:Int)≤(s.size:Int):=by omega
 have hh:headW (s.data.toList.drop a)=if (unlitR (s.data.toList.drop a)).2.2=0 then some ⟨15,0,(unlitR (s.data.toList.drop a)).2.1,(unlitR (s.data.toList.drop a)).1,0,0,0,0,0,0⟩else none:=by
  unfold headW
  rw[drop_first,hk]
  rfl
 have hpl:=unlit_place (s.data.toList.drop a)
 obtain⟨⟨l,n,k⟩,hx⟩:∃p,unlitR (s.data.toList.drop a)=p:=⟨_,rfl⟩
 rw[hx]at hh hpl
 have hnl:n≤s.size:=by have h1:n≤(s.data.toList.drop a).length:=hpl;rw[List.length_drop,sz_data]at h1;omega
 have HX:=Lib.hid hx
 have HH:=Lib.hid hh
 clear hx hh hpl
 have HD:=Lib.hid hd
 have HB0:=Lib.hid (bx1 w (.cells (wdC ⟨0,0,0,[],0,0,0,0,0,0⟩) 32))
 have HK0:=Lib.hid (bx_new w (.cells (wdC ⟨0,0,0,[],0,0,0,0,0,0⟩) 32))
 clear hd
 go_enter Tryz.func96,Tryz.ntmps96
 go_wp2_with (first
  |(go_at_call 119;refine(unlit_any _ _ (by omega)).mono ?_;rintro e w1 ⟨he,hb⟩;rw[HD.out,HX.out]at he;subst he;have HB1:=Lib.hid (Below.step HB0.out hb);have HK1:=Lib.hid (bx_kept hb HK0.out);obtain⟨_,_,_,_,_,_,_,_,_,_,bf⟩:=blk10 HK1.out;have f0:=bf 0;have f1:=bf 1;have f2:=bf 2;have f3:=bf 3;have f4:=bf 4;have f5:=bf 5;have f6:=bf 6;have f7:=bf 7;have f8:=bf 8;have f9:=bf 9;clear bf hb)
  |fail)
 have e0:=putW_blk HK1.out (.int .u8 15) (.int .i64 (a:Int)) (.int .i64 ((a:Int)+(n:Int))) (.string ⟨l.toArray⟩) (.int .u64 0) (.int .u64 0) (.int .u64 0) (.int .u64 0) (.int .i64 0) (.int .i64 0)
 obtain⟨t0,t1,t2,t3,t4,t5,t6,t7,t8,t9,_⟩:=blk10 e0
 refine bodyPost_ret (v:=.tuple #[.agg #[.int .u8 15,.int .i64 (a:Int),.int .i64 ((a:Int)+(n:Int)),.string ⟨l.toArray⟩,.int .u64 0,.int .u64 0,.int .u64 0,.int .u64 0,.int .i64 0,.int .i64 0],.bool ((k:Int)==0)]) (by simp[results,Tryz.results96,go_sem,t0,t1,t2,t3,t4,t5,t6,t7,t8,t9]) rfl ?_
 refine⟨⟨15,a,a+n,l,0,0,0,0,0,0⟩,((k:Int)==0),rfl,fun h=> ?_,fun h=> ?_,putW_below HB1.out (Nat.le_refl _) _ _ _ _ _ _ _ _ _ _⟩
 ·have hk0:k=0:=by simpa using h
  have hh:=HH.out
  rw[if_pos hk0]at hh
  rw[wordL_of hh]
 ·have hk0:¬k=0:=by simpa using h
  have hh:=HH.out
  rw[if_neg hk0]at hh
  exact wordL_none hh
set_option maxRecDepth 100000 in
set_option maxHeartbeats 1000000 in
theorem class_any (s:ByteArray) (a:Nat) (w:World) (ha:a<s.size) (hs:s.size≤1000000) (hk:s.data.toList[a]?=some 91):
  Calls Tryz.prog 97 #[.string s,.int .i64 (a:Int)] w (ReadPost s.data.toList a w):=by
 have hd:=cut_data s a (by omega)
 have hse:(s.extract a s.size).size≤s.size:=by simp[ByteArray.size_extract]
 have i1:(0:Int)≤(a:Int):=by omega
 have i2:(a:Int)≤(s.size:Int):=by omega
 have hh:headW (s.data.toList.drop a)=if (unclsR (s.data.toList.drop a)).2.2=0 then some ⟨16,0,(unclsR (s.data.toList.drop a)).2.1,[],wordF (unclsR (s.data.toList.drop a)).1 0,wordF (unclsR (s.data.toList.drop a)).1 1,wordF (unclsR (s.data.toList.drop a)).1 2,wordF (unclsR (s.data.toList.drop a)).1 3,0,0⟩else none:=by
  unfold headW
  rw[drop_first,hk]
  rfl
 have hpl:=uncls_place (s.data.toList.drop a)
 obtain⟨⟨f,n,k⟩,hx⟩:∃p,unclsR (s.data.toList.drop a)=p:=⟨_,rfl⟩
 rw[hx]at hh hpl
 have hnl:n≤s.size+1:=by have h1:n≤(s.data.toList.drop a).length+1:=hpl;rw[List.length_drop,sz_data]at h1;omega
 have HX:=Lib.hid hx
 have HH:=Lib.hid hh
 clear hx hh hpl
 have HD:=Lib.hid hd
 have HB0:=Lib.hid (bx1 w (.cells (wdC ⟨0,0,0,[],0,0,0,0,0,0⟩) 32))
 have HK0:=Lib.hid (bx_new w (.cells (wdC ⟨0,0,0,[],0,0,0,0,0,0⟩) 32))
 clear hd
 go_enter Tryz.func97,Tryz.ntmps97
 go_wp2_with (first
  |(go_at_call 120;refine(uncls_any _ _ (by omega)).mono ?_;rintro e w1 ⟨he,hb⟩;rw[HD.out,HX.out,setV_eq]at he;subst he;have HBN:=Lib.hid (bx1 w1 (.cells (fourC (wordF f 0) (wordF f 1) (wordF f 2) (wordF f 3)) 30));have HB1:=Lib.hid (Below.step (Below.step HB0.out hb) HBN.out);have HK1:=Lib.hid (bx_old (p:=.cells (fourC (wordF f 0) (wordF f 1) (wordF f 2) (wordF f 3)) 30) (bx_kept hb HK0.out));obtain⟨_,_,_,_,_,_,_,_,_,_,bf⟩:=blk10 HK1.out;have f0:=bf 0;have f1:=bf 1;have f2:=bf 2;have f3:=bf 3;have f4:=bf 4;have f5:=bf 5;have f6:=bf 6;have f7:=bf 7;have f8:=bf 8;have f9:=bf 9;clear bf hb)
  |fail)
 have e0:=putW_blk HK1.out (.int .u8 16) (.int .i64 (a:Int)) (.int .i64 ((a:Int)+(n:Int))) (.string ⟨#[]⟩) (.int .u64 (wordF f 0:Int)) (.int .u64 (wordF f 1:Int)) (.int .u64 (wordF f 2:Int)) (.int .u64 (wordF f 3:Int)) (.int .i64 0) (.int .i64 0)
 obtain⟨t0,t1,t2,t3,t4,t5,t6,t7,t8,t9,_⟩:=blk10 e0
 refine bodyPost_ret (v:=.tuple #[.agg #[.int .u8 16,.int .i64 (a:Int),.int .i64 ((a:Int)+(n:Int)),.string ⟨#[]⟩,.int .u64 (wordF f 0:Int),.int .u64 (wordF f 1:Int),.int .u64 (wordF f 2:Int),.int .u64 (wordF f 3:Int),.int .i64 0,.int .i64 0],.bool ((k:Int)==0)]) (by simp[results,Tryz.results97,go_sem,t0,t1,t2,t3,t4,t5,t6,t7,t8,t9]) rfl ?_
 refine⟨⟨16,a,a+n,[],wordF f 0,wordF f 1,wordF f 2,wordF f 3,0,0⟩,((k:Int)==0),rfl,fun h=> ?_,fun h=> ?_,putW_below HB1.out (Nat.le_refl _) _ _ _ _ _ _ _ _ _ _⟩
 ·have hk0:k=0:=by simpa using h
  have hh:=HH.out
  rw[if_pos hk0]at hh
  rw[wordL_of hh]
 ·have hk0:¬k=0:=by simpa using h
  have hh:=HH.out
  rw[if_neg hk0]at hh
  exact wordL_none hh
end Go.Proofs.YtpfokabdpmjobaaGreatDoor
namespace Go.Proofs.YtpfokabdpmjobaaGreatDoor
open Go.RowKit
set_option linter.unusedSimpArgs false
set_option linter.unusedVariables false
def CutPost (s:ByteArray) (c:UInt8) (w:World) (e:Ending) (w':World):Prop:=∃a b:ByteArray,e=.returned (.tuple #[.string a,.string b,.bool (cut1 c s.data.toList).2.2])∧a.data.toList=(cut1 c s.data.toList).1∧b.data.toList=(cut1 c s.data.toList).2.1∧Below w.heap.size w w'
set_option maxRecDepth 100000 in
set_option maxHeartbeats 800000 in
theorem slcut_any (s:ByteArray) (c:UInt8) (w:World) (hs:s.size≤281474976710656):
  Calls Tryz.prog 141 #[.string s,.string ⟨#[c]⟩] w (CutPost s c w):=by
 have hsd:=sz_data s
 rcases cut1_index c s.data.toList with⟨h1,h2⟩|⟨k,h1,h2,h3⟩
 ·have HC:=Lib.hid h2
  have HI:=Lib.hid h1;clear h1 h2 hsd
  go_enter Tryz.func141,Tryz.ntmps141
  go_wp2_with (go_at_call 171;refine(Tryz.stringslite_Index_one s c _).mono ?_;rintro e w' ⟨rfl,rfl⟩;have hi:=HI.out;generalize Lib.indexByte s.data.toList c=z at hi ⊢)
  refine bodyPost_ret (v:=.tuple #[.string s,.string ⟨#[]⟩,.bool false]) (by simp[results,Tryz.results141,go_sem]) rfl ?_
  unfold CutPost;rw[HC.out]
  exact⟨s,⟨#[]⟩,rfl,rfl,rfl,Below.refl _ _⟩
 ·have HC:=Lib.hid h3
  have HI:=Lib.hid h1
  have hk:k<s.size:=by omega
  clear h1 h2 h3 hsd
  go_enter Tryz.func141,Tryz.ntmps141
  have hk0:(0:Int)≤(k:Int):=by omega
  have hk1:(k:Int)≤(s.size:Int):=by omega
  have hk2:(k:Int)+1≤(s.size:Int):=by omega
  have e1:ByteArray.size ⟨#[c]⟩=1:=rfl
  go_wp2_with (go_at_call 171;refine(Tryz.stringslite_Index_one s c _).mono ?_;rintro e w' ⟨rfl,rfl⟩;rw[HI.out])
  have hw:IntKind.i64.wrap ((k:Int)+1)=(k:Int)+1:=IntWalk.i64_in _ (by omega)
  have ht1:((k:Int)+1).toNat=k+1:=by omega
  have h10:(0:Int)≤(k:Int)+1:=by omega
  go_region
  all_goals
   clear hw ht1
   go_wp2_with fail
   go_ret3
   unfold CutPost;rw[HC.out]
   exact⟨_,_,rfl,by simp,by rw[Lib.extract_to_end],(Below.refl _ _).drew⟩
theorem cut_any (s:ByteArray) (c:UInt8) (w:World) (hs:s.size≤281474976710656):
  Calls Tryz.prog 117 #[.string s,.string ⟨#[c]⟩] w (CutPost s c w):=by
 go_enter Tryz.func117,Tryz.ntmps117
 go_wp2_with fail
 refine(slcut_any s c w hs).mono ?_
 rintro e w' ⟨a,b,rfl,ha,hb,hB⟩
 have H:=Lib.hid (And.intro ha hb);clear ha hb
 obtain⟨f,hf⟩:∃f,f=(cut1 c s.data.toList).2.2:=⟨_,rfl⟩
 rw[←hf]
 have HF:=Lib.hid hf;clear hf
 go_wp2_with fail
 go_ret3
 exact⟨a,b,by rw[←HF.out];rfl,H.out.1,H.out.2,hB⟩
end Go.Proofs.YtpfokabdpmjobaaGreatDoor
namespace Go.Proofs.YtpfokabdpmjobaaGreatDoor
open Go.RowKit
theorem ret_pair {p:Int×Int} {a b:Int} (h:p=(a,b)):Ending.returned (.tuple #[.int .i64 a,.int .i64 b])=.returned (.tuple #[.int .i64 p.1,.int .i64 p.2]):=by rw[h]
theorem num_yes (s:ByteArray) (most a:Int) (h0:0<s.size) (hz:¬(s[0].toNat=48∧1<s.size)) (k:Nat) (hk:s.size≤k) (hd:allDig (s.data.toList.take k)=true) (ha:a=decVal (s.data.toList.take k)):
  (a≤most→numL s.data.toList most=(a,0))∧(most<a→numL s.data.toList most=(0,40)):=by
 rw[take_all s k hk]at hd ha
 constructor <;> intro h <;> simp only[numL,numText_ok s h0 hz hd,if_true]
 ·rw[if_neg (by omega),ha]
 ·rw[if_pos (by omega)]
theorem num_large (s:ByteArray) (most:Int) (h0:0<s.size) (hm:most≤9223372036854775807) (hz:¬(s[0].toNat=48∧1<s.size)) (k:Nat) (hk:s.size≤k) (hd:allDig (s.data.toList.take k)=true) (ha:9223372036854775807<(decVal (s.data.toList.take k):Int)):
  numL s.data.toList most=(0,40):=by
 rw[take_all s k hk]at hd ha
 simp only[numL,numText_ok s h0 hz hd,if_true]
 rw[if_pos (by omega)]
def NumInv (s:ByteArray) (k:Nat) (a:Int) (b:Bool):Prop:=
 allDig (s.data.toList.take k)=true∧(b=false→a=decVal (s.data.toList.take k))∧(b=true→9223372036854775807<(decVal (s.data.toList.take k):Int))
theorem NumInv.large {s:ByteArray} {k:Nat} {a c:Int} {b:Bool} (h:NumInv s k a b) (hk:k<s.size) (hc:(s[k].toNat:Int)=c) (h3:48≤c) (h4:c≤57) (ha:b=false→(9223372036854775807-(c-48))/10<a):NumInv s (k+1) a true:=by
 obtain⟨h1,h2,h5⟩:=h
 refine⟨by rw[take_at s k hk,allDig_snoc,h1,(isDigit_iff _).2 (by omega)];rfl,fun h=>(by cases h),fun _=> ?_⟩
 rw[take_at s k hk,decVal_snoc]
 cases b
 ·have:=h2 rfl;have:=ha rfl;omega
 ·have:=h5 rfl;omega
theorem NumInv.step {s:ByteArray} {k:Nat} {a c:Int} (h:NumInv s k a false) (hk:k<s.size) (hc:(s[k].toNat:Int)=c) (h3:48≤c) (h4:c≤57):NumInv s (k+1) (a*10+(c-48)) false:=by
 obtain⟨h1,h2,h5⟩:=h
 refine⟨by rw[take_at s k hk,allDig_snoc,h1,(isDigit_iff _).2 (by omega)];rfl,fun _=> ?_,fun h=>(by cases h)⟩
 rw[take_at s k hk,decVal_snoc,h2 rfl];omega
set_option maxHeartbeats 1000000 in
theorem num_any (s:ByteArray) (most:Int) (w:World) (hs:s.size≤281474976710656) (hm:most≤9223372036854775807):
  Calls Tryz.prog 118 #[.string s,.int .i64 most] w fun e w'=>e=.returned (.tuple #[.int .i64 (numL s.data.toList most).1,.int .i64 (numL s.data.toList most).2])∧w'=w:=by
 go_enter Tryz.func118,Tryz.ntmps118
 go_wp2
 refine wp_scope_jumps 0 (fun a' w'=>w'=w∧numL s.data.toList most=(0,4)∧ ∃u0 u1 u2 u3 u4 u5 u6 u7 u8 u9 u10 u11 u12 u13 u14 u15 u16 u17 u18 u19 u20 u21 u22 u23 u24 u25 u26 u27 u28 u29 u30 u31 u32 u33 u34 u35 u36 u37 u38 u39 u40 u41 u42 u43 u44 u45 u46 u47 u48 u49 u50 u51 u52 u53 u54 u55 u56:Value,a'={tmps:= #[u0,u1,u2,u3,u4,u5,u6,u7,u8,u9,u10,u11,u12,u13,u14,u15,u16,u17,u18,u19,u20,u21,u22,u23,u24,u25,u26,u27,u28,u29,u30,u31,u32,u33,u34,u35,u36,u37,u38,u39,u40,u41,u42,u43,u44,u45,u46,u47,u48,u49,u50,u51,u52,u53,u54,u55,u56],defers:=[]}) (fun _ _=>0) rfl ?_ ?_
 ·by_cases h0:0<s.size
  ·have⟨e1,e2⟩:=bytes_ne s h0
   by_cases hz:s[0].toNat=48∧1<s.size
   ·have HN:=Lib.hid (numL_form _ most (numText_zero s hz.2 hz.1))
    have h5:((s[0].toNat:Int)==48)=true:=by simp;omega
    have h6:(1:Int)<(s.size:Int):=by omega
    clear hz
    go_wp2
    go_step3
    exact⟨rfl,rfl,HN.out,_,_,_,_,_,_,_,_,_,_,_,_,_,_,_,_,_,_,_,_,_,_,_,_,_,_,_,_,_,_,_,_,_,_,_,_,_,_,_,_,_,_,_,_,_,_,_,_,_,_,_,_,_,_,_,_,_,rfl⟩
   ·have HZ:=Lib.hid hz
    have hc:((s[0].toNat:Int)==48)=false∨(((s[0].toNat:Int)==48)=true∧ ¬(1:Int)<(s.size:Int)):=by
     by_cases h48:s[0].toNat=48
     ·right;exact⟨by simp;omega,by omega⟩
     ·left;simp;omega
    clear hz
    rcases hc with h5|⟨h5,h6⟩
    all_goals
     go_wp2
     go_loop [6,7,8] (fun n g i=>∃(k:Nat) (a:Int) (b:Bool),k≤s.size∧n=.int .i64 a∧g=.bool b∧i=.int .i64 k∧0≤a∧a≤9223372036854775807∧NumInv s k a b) (fun _ _ i=>s.size-(intOf i).toNat)
     case atStart=>exact⟨0,0,false,by omega,rfl,rfl,rfl,by omega,by omega,by simp[allDig],fun _=>by simp[decVal],fun h=>by cases h⟩
     case round=>
      obtain⟨k,a,b,hk,rfl,rfl,rfl,ha0,ha1,hR⟩:=hrel
      have HR:=Lib.hid hR;clear hR
      by_cases hlt:k<s.size
      ·have hby:(s[k].toNat:Int)<256:=by have:=s[k].toNat_lt;omega
       cases hd:isDigit s[k].toNat
       ·have HN:=Lib.hid (numL_form _ most (numText_bad s k hlt hd))
        go_wp2_with (first|(go_at_call 90;refine(digit_any _ _).mono ?_;rintro e w' ⟨rfl,rfl⟩))
        go_step3
        exact⟨rfl,rfl,HN.out,_,_,_,_,_,_,_,_,_,_,_,_,_,_,_,_,_,_,_,_,_,_,_,_,_,_,_,_,_,_,_,_,_,_,_,_,_,_,_,_,_,_,_,_,_,_,_,_,_,_,_,_,_,_,_,_,_,rfl⟩
       ·have hd2:=(isDigit_iff _).1 hd
        obtain⟨hd3,hd4⟩:=hd2
        cases b
        ·go_upto_region 8 with(first|(go_at_call 90;refine(digit_any _ _).mono ?_;rintro e w' ⟨rfl,rfl⟩))
         clear hd
         generalize hc:(s[k].toNat:Int)=c at *
         have HC:=Lib.hid hc;clear hc
         go_wp2
         ·have hlg:(9223372036854775807-(c-48))/10<a:=by assumption
          exact⟨⟨k+1,a,true,by omega,rfl,rfl,by go_num,ha0,ha1,HR.out.large hlt HC.out hd3 hd4 (fun _=>hlg)⟩,by simp[intOf];omega⟩
         ·have hlg:a≤(9223372036854775807-(c-48))/10:=by assumption
          exact⟨⟨k+1,_,false,by omega,rfl,rfl,by go_num,by omega,by omega,HR.out.step hlt HC.out hd3 hd4⟩,by simp[intOf];omega⟩
        ·go_upto_region 8 with(first|(go_at_call 90;refine(digit_any _ _).mono ?_;rintro e w' ⟨rfl,rfl⟩))
         clear hd
         generalize hc:(s[k].toNat:Int)=c at *
         have HC:=Lib.hid hc;clear hc
         go_wp2
         exact⟨⟨k+1,a,true,by omega,rfl,rfl,by go_num,ha0,ha1,HR.out.large hlt HC.out hd3 hd4 (fun h=>by cases h)⟩,by simp[intOf];omega⟩
      ·cases b
       ·have HY:=Lib.hid (num_yes s most a h0 HZ.out k (by omega) HR.out.1 (HR.out.2.1 rfl))
        go_wp2
        ·have hlg:most<a:=by assumption
         simp only[Exit.jump]
         go_ret2
         exact⟨ret_pair (HY.out.2 hlg),rfl⟩
        ·have hlg:a≤most:=by assumption
         simp only[Exit.jump]
         go_ret2
         exact⟨ret_pair (HY.out.1 hlg),rfl⟩
       ·have HY:=Lib.hid (num_large s most h0 hm HZ.out k (by omega) HR.out.1 (HR.out.2.2 rfl))
        go_wp2
        simp only[Exit.jump]
        go_ret2
        exact⟨ret_pair HY.out,rfl⟩
  ·have⟨e1,e2,e3⟩:=bytes_none s h0
   have HN:=Lib.hid (numL_form s.data.toList most (by rw[e3];rfl))
   go_wp2
   go_step3
   exact⟨rfl,rfl,HN.out,_,_,_,_,_,_,_,_,_,_,_,_,_,_,_,_,_,_,_,_,_,_,_,_,_,_,_,_,_,_,_,_,_,_,_,_,_,_,_,_,_,_,_,_,_,_,_,_,_,_,_,_,_,_,_,_,_,rfl⟩
 ·rintro a' w' ⟨rfl,hn,u0,u1,u2,u3,u4,u5,u6,u7,u8,u9,u10,u11,u12,u13,u14,u15,u16,u17,u18,u19,u20,u21,u22,u23,u24,u25,u26,u27,u28,u29,u30,u31,u32,u33,u34,u35,u36,u37,u38,u39,u40,u41,u42,u43,u44,u45,u46,u47,u48,u49,u50,u51,u52,u53,u54,u55,u56,rfl⟩
  have HN:=Lib.hid hn;clear hn
  go_wp2
  simp only[Exit.jump]
  go_ret2
  exact⟨ret_pair HN.out,rfl⟩
end Go.Proofs.YtpfokabdpmjobaaGreatDoor
