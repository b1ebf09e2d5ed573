/- The contract of lex.skip. Plain laws of words: a text's words, step by step. Plain laws of words: a word is read from its own bytes alone. -/
import Derived.Test.YtpfokabdpmjobaaGreatDoorLm
import Derived.Test.YtpfokabdpmjobaaGreatDoorLb
namespace Go.Proofs.YtpfokabdpmjobaaGreatDoor
open Go.RowKit
set_option linter.unusedSimpArgs false
set_option linter.unusedVariables false
theorem skip_true:∀l:List UInt8,(Lib.indexByte l 10<0→skipM true l=l.length)∧(∀n:Nat,Lib.indexByte l 10=n→n≤l.length∧skipM true l=n+skipM false (l.drop n))
 |[]=>⟨fun _=>rfl,fun n h=>by simp[Lib.indexByte]at h⟩
 |c::r=>by
  have ih:=skip_true r
  have hg:=Lib.indexByte_ge r 10
  by_cases hc:c=10
  ·subst hc
   refine⟨fun h=>by simp[Lib.indexByte]at h,fun n h=> ?_⟩
   have h0:n=0:=by simp[Lib.indexByte]at h;omega
   subst h0
   exact⟨Nat.zero_le _,by simp[skipM,partB]⟩
  ·have h1:(c==10)=false:=by simpa using hc
   have h2:(c != 10)=true:=by simpa using hc
   constructor
   ·intro h
    have h3:Lib.indexByte r 10<0:=by
     unfold Lib.indexByte at h
     rw[if_neg (by simp[h1])]at h
     by_cases h4:Lib.indexByte r 10 = -1
     ·omega
     ·rw[if_neg (by simpa using h4)]at h;omega
    simp only[skipM,h2,List.length_cons,ih.1 h3];omega
   ·intro n h
    unfold Lib.indexByte at h
    rw[if_neg (by simp[h1])]at h
    by_cases h4:Lib.indexByte r 10 = -1
    ·rw[if_pos (by simpa using h4)]at h;omega
    ·rw[if_neg (by simpa using h4)]at h
     obtain⟨m,rfl⟩:∃m,n=m+1:=⟨n-1,by omega⟩
     have h5:=ih.2 m (by omega)
     refine⟨by simp only[List.length_cons];omega,?_⟩
     simp only[skipM,h2,List.drop_succ_cons,h5.2];omega
theorem next_end {s:List UInt8} {k:Nat} (h:s.length≤k):nextL s k=k:=by unfold nextL;rw[List.drop_eq_nil_of_le h];simp[skipM]
theorem next_part {s:List UInt8} {k:Nat} {c:UInt8} (h:s[k]?=some c) (hc:partB c=true):nextL s k=nextL s (k+1):=by
 have hl:=(List.getElem?_eq_some_iff.1 h).1
 have h35:c≠35:=fun e=>by subst e;revert hc;decide
 unfold nextL
 rw[List.drop_eq_getElem_cons hl,(List.getElem?_eq_some_iff.1 h).2]
 simp only[skipM,if_neg h35,hc,if_true];omega
theorem next_here {s:List UInt8} {k:Nat} {c:UInt8} (h:s[k]?=some c) (hc:partB c=false) (h35:c≠35):nextL s k=k:=by
 have hl:=(List.getElem?_eq_some_iff.1 h).1
 unfold nextL
 rw[List.drop_eq_getElem_cons hl,(List.getElem?_eq_some_iff.1 h).2]
 simp[skipM,if_neg h35,hc]
theorem next_comment {s:List UInt8} {k:Nat} (h:s[k]?=some 35):nextL s k=k+skipM true (s.drop k):=by
 have hl:=(List.getElem?_eq_some_iff.1 h).1
 unfold nextL
 rw[List.drop_eq_getElem_cons hl,(List.getElem?_eq_some_iff.1 h).2]
 rfl
theorem next_all {s:List UInt8} {k:Nat} (h:s[k]?=some 35) (hi:Lib.indexByte (s.drop k) 10<0):nextL s k=s.length:=by
 have hl:=(List.getElem?_eq_some_iff.1 h).1
 rw[next_comment h,(skip_true _).1 hi,List.length_drop];omega
theorem next_line {s:List UInt8} {k n:Nat} (h:s[k]?=some 35) (hi:Lib.indexByte (s.drop k) 10=n):nextL s k=nextL s (k+n)∧k+n≤s.length∧0<n:=by
 have hl:=(List.getElem?_eq_some_iff.1 h).1
 obtain⟨h1,h2⟩:=(skip_true _).2 n hi
 rw[List.length_drop]at h1
 refine⟨?_,by omega,?_⟩
 ·rw[next_comment h,h2];unfold nextL;rw[List.drop_drop];omega
 ·rcases Nat.eq_zero_or_pos n with h0|h0
  ·subst h0
   rw[List.drop_eq_getElem_cons hl,(List.getElem?_eq_some_iff.1 h).2]at hi
   have hg:=Lib.indexByte_ge (s.drop (k+1)) 10
   unfold Lib.indexByte at hi
   rw[if_neg (by decide)]at hi
   by_cases h4:Lib.indexByte (s.drop (k+1)) 10 = -1
   ·rw[if_pos (by simpa using h4)]at hi;omega
   ·rw[if_neg (by simpa using h4)]at hi;omega
  ·exact h0
theorem next_le (s:List UInt8) (k:Nat):nextL s k≤max k s.length:=by
 unfold nextL
 have:=skipM_le false (s.drop k)
 rw[List.length_drop]at this
 omega
theorem next_ge (s:List UInt8) (k:Nat):k≤nextL s k:=by unfold nextL;omega
set_option maxRecDepth 100000 in
set_option maxHeartbeats 2000000 in
theorem skip_any (s:ByteArray) (a:Nat) (w:World) (ha:a≤s.size) (hs:s.size≤1000000):
  Calls Tryz.prog 67 #[.string s,.int .i64 (a:Int)] w fun e w'=>e=.returned (.int .i64 (nextL s.data.toList a:Int))∧w'=w:=by
 have hsz:=sz_data s
 go_enter Tryz.func67,Tryz.ntmps67
 go_wp2_with fail
 go_loopw [1] (fun i wr=>∃k:Nat,i=.int .i64 (k:Int)∧k≤s.size∧Hid (nextL s.data.toList k=nextL s.data.toList a)∧wr=w) (fun i _=>s.size-(intOf i).toNat)
 case atStart=>exact⟨a,rfl,ha,Lib.hid rfl,rfl⟩
 case round=>
  obtain⟨k,rfl,hk,HN,rfl⟩:=hrel
  by_cases hlt:k<s.size
  ·have i1:(k:Int)<(s.size:Int):=by omega
   have i2:(0:Int)≤(k:Int):=by omega
   have hA:=Lib.data_getElem? s k hlt
   by_cases hp:partB s[k]=true
   ·have HP:=Lib.hid (next_part hA hp)
    have hp4:s[k]=32∨s[k]=9∨s[k]=13∨s[k]=10:=by
     unfold partB at hp;simpa[or_assoc]using hp
    have hp5:(s[k].toNat:Int)=32∨(s[k].toNat:Int)=9∨(s[k].toNat:Int)=13∨(s[k].toNat:Int)=10:=by
     rcases hp4 with h|h|h|h <;> rw[h] <;> simp
    clear hA hp hp4
    rcases hp5 with n1|n1|n1|n1
    all_goals
     go_wp2_with fail
     exact⟨⟨k+1,by go_num,by omega,Lib.hid (by rw[←HP.out];exact HN.out),by first|trivial|rfl⟩,by simp only[intOf];omega⟩
   ·by_cases h35:s[k]=35
    ·have n1:(s[k].toNat:Int)=35:=by rw[h35];rfl
     have hd:=cut_data s k (by omega)
     have i3:(k:Int)≤(s.size:Int):=by omega
     rw[h35]at hA
     have hix:=Lib.indexByte_ge (s.data.toList.drop k) 10
     by_cases hneg:Lib.indexByte (s.data.toList.drop k) 10<0
     ·have HI:=Lib.hid (next_all hA hneg)
      have HD:=Lib.hid hd
      clear hA hp h35 hd
      generalize hz:Lib.indexByte (s.data.toList.drop k) 10=z at *
      have HZ:=Lib.hid hz;clear hz
      go_wp2_with (first|(go_at_call 102;refine(Tryz.strings_IndexByte _ 10 _).mono ?_;rintro e w' ⟨rfl,rfl⟩;rw[HD.out,show((10:Int).toNat).toUInt8=10 from rfl,HZ.out])|fail)
      go_ret
      exact⟨by rw[←HN.out,HI.out,hsz];rfl,rfl⟩
     ·obtain⟨n,hn⟩:∃n:Nat,Lib.indexByte (s.data.toList.drop k) 10=(n:Int):=⟨(Lib.indexByte (s.data.toList.drop k) 10).toNat,by omega⟩
      obtain⟨h1,h2,h3⟩:=next_line hA hn
      have HI:=Lib.hid h1
      have HD:=Lib.hid hd
      have HZ:=Lib.hid hn
      have i4:¬(n:Int)<0:=by omega
      clear hA hp h35 hd h1 hix hneg hn
      go_wp2_with (first|(go_at_call 102;refine(Tryz.strings_IndexByte _ 10 _).mono ?_;rintro e w' ⟨rfl,rfl⟩;rw[HD.out,show((10:Int).toNat).toUInt8=10 from rfl,HZ.out])|fail)
      exact⟨⟨k+n,by go_num,by omega,Lib.hid (by rw[←HI.out];exact HN.out),by first|trivial|rfl⟩,by simp only[intOf];omega⟩
    ·have HP:=Lib.hid (next_here hA (by simpa using hp) h35)
     have hp4:s[k]≠32∧s[k]≠9∧s[k]≠13∧s[k]≠10:=by
      unfold partB at hp;simpa[not_or,and_assoc]using hp
     have n1:¬(s[k].toNat:Int)=32:=fun e=>hp4.1 (UInt8.toNat_inj.1 (by simp;omega))
     have n2:¬(s[k].toNat:Int)=9:=fun e=>hp4.2.1 (UInt8.toNat_inj.1 (by simp;omega))
     have n3:¬(s[k].toNat:Int)=13:=fun e=>hp4.2.2.1 (UInt8.toNat_inj.1 (by simp;omega))
     have n4:¬(s[k].toNat:Int)=10:=fun e=>hp4.2.2.2 (UInt8.toNat_inj.1 (by simp;omega))
     have n5:¬(s[k].toNat:Int)=35:=fun e=>h35 (UInt8.toNat_inj.1 (by simp;omega))
     clear hA hp hp4 h35
     go_wp2_with fail
     go_ret
     exact⟨by rw[←HN.out,HP.out];rfl,rfl⟩
  ·have hke:k=s.size:=by omega
   have i1:¬(k:Int)<(s.size:Int):=by omega
   have HE:=Lib.hid (next_end (s:=s.data.toList) (k:=k) (by omega))
   go_wp2_with fail
   go_ret
   exact⟨by rw[←HN.out,HE.out,hke];rfl,rfl⟩
end Go.Proofs.YtpfokabdpmjobaaGreatDoor
namespace Go.Proofs.YtpfokabdpmjobaaGreatDoor
set_option linter.unusedSimpArgs false
set_option linter.unusedVariables false
theorem rawL_stable (s:List UInt8):∀f g a,s.length≤a+f→s.length≤a+g→rawL s f a=rawL s g a
 |0,0,_,_,_=>rfl
 |0,g+1,a,h,_=>by simp only[rawL];rw[if_pos (by omega)]
 |f+1,0,a,_,h=>by simp only[rawL];rw[if_pos (by omega)]
 |f+1,g+1,a,hf,hg=>by
  simp only[rawL]
  split
  ·rfl
  cases h:wordL s a with
  |none=>rfl
  |some x=>
   have h1:=word_til h
   have h2:=next_ge s x.til
   simp only
   rw[rawL_stable s f g (nextL s x.til) (by omega) (by omega)]
def RW (s:List UInt8) (a:Nat):List Wd×Option Nat:=rawL s (s.length+1-a) a
theorem RW_end {s:List UInt8} {a:Nat} (h:s.length≤a):RW s a=([],none):=by
 unfold RW
 rw[rawL_stable s _ 0 a (by omega) (by omega)];rfl
theorem RW_none {s:List UInt8} {a:Nat} (h:a<s.length) (hw:wordL s a=none):RW s a=([],some a):=by
 unfold RW
 obtain⟨k,hk⟩:∃k,s.length+1-a=k+1:=⟨s.length-a,by omega⟩
 rw[hk,rawL,if_neg (by omega),hw]
theorem RW_word {s:List UInt8} {a:Nat} {x:Wd} (h:a<s.length) (hw:wordL s a=some x):RW s a=(x::(RW s (nextL s x.til)).1,(RW s (nextL s x.til)).2):=by
 have h1:=word_til hw
 have h2:=next_ge s x.til
 unfold RW
 obtain⟨k,hk⟩:∃k,s.length+1-a=k+1:=⟨s.length-a,by omega⟩
 rw[hk,rawL,if_neg (by omega),hw]
 simp only
 rw[rawL_stable s k (s.length+1-nextL s x.til) (nextL s x.til) (by omega) (by omega)]
theorem wordsL_big {s:List UInt8} (h:65536<s.length):wordsL s=([],65536,40):=by unfold wordsL;rw[if_pos h]
theorem wordsL_of {s:List UInt8} (h:¬65536<s.length):wordsL s=match (RW s (nextL s 0)).2 with
  |some p=>([],p,4)
  |none=>((RW s (nextL s 0)).1,0,0):=by
 unfold wordsL RW
 rw[if_neg h,rawL_stable s (s.length+1) (s.length+1-nextL s 0) (nextL s 0) (by omega) (by omega)]
 rfl
theorem RW_len (s:List UInt8):∀f a,s.length≤a+f→(rawL s f a).1.length≤s.length-a
 |0,a,_=>by simp[rawL]
 |f+1,a,h=>by
  simp only[rawL]
  split
  ·simp
  cases hw:wordL s a with
  |none=>simp
  |some x=>
   have h1:=word_til hw
   have h2:=next_ge s x.til
   have:=RW_len s f (nextL s x.til) (by omega)
   simp only[List.length_cons]
   omega
end Go.Proofs.YtpfokabdpmjobaaGreatDoor
namespace Go.Proofs.YtpfokabdpmjobaaGreatDoor
set_option linter.unusedSimpArgs false
set_option linter.unusedVariables false
def Ag (n:Nat) (t u:List UInt8):Prop:=∀i,i<n→u[i]?=t[i]?
theorem Ag.mono {n m:Nat} {t u:List UInt8} (h:Ag n t u) (hm:m≤n):Ag m t u:=fun i hi=>h i (by omega)
theorem Ag.len {n:Nat} {t u:List UInt8} (h:Ag n t u) (hn:n≤t.length):n≤u.length:=by
 rcases Nat.eq_zero_or_pos n with h0|h0
 ·omega
 have h1:=h (n-1) (by omega)
 rw[List.getElem?_eq_getElem (show n-1<t.length by omega)]at h1
 have:=(List.getElem?_eq_some_iff.1 h1).1
 omega
theorem Ag.drop {n:Nat} {t u:List UInt8} (h:Ag n t u) (k:Nat):Ag (n-k) (t.drop k) (u.drop k):=fun i hi=>by
 rw[List.getElem?_drop,List.getElem?_drop];exact h (k+i) (by omega)
theorem Ag.take (m:Nat) (t:List UInt8):Ag m t (t.take m):=fun i hi=>List.getElem?_take_of_lt hi
theorem hexR_ag {t u:List UInt8} {a n:Nat} {b:UInt8} (h:hexR t a=.ok b n) (hg:Ag n t u):hexR u a=.ok b n:=by
 have h0:=hexR_ok h
 unfold hexR at h ⊢
 rw[hg a (by omega),hg (a+1) (by omega)]
 exact(by
  split at h
  ·cases h
  rename_i c hc
  (try rw[hc])
  (try simp only)
  split at h
  ·cases h
  rename_i x hx
  (try rw[hx])
  (try simp only)
  split at h
  ·cases h
  rename_i d hd
  (try rw[hd])
  (try simp only)
  split at h
  ·cases h
  rename_i y hy
  (try rw[hy])
  exact h)
theorem signR_ag {left t u:List UInt8} {a n:Nat} {b:UInt8} (h:signR left t a=.ok b n) (hg:Ag n t u):signR left u a=.ok b n:=by
 have h0:=signR_ok h
 unfold signR at h ⊢
 rw[hg a (by omega)]
 split at h
 ·cases h
 rename_i c hc
 (try rw[hc])
 (try simp only)
 by_cases h92:c=92
 ·rw[if_pos h92]at h ⊢
  split at h
  ·cases h
  rename_i d hd
  have hd2:a+1<n:=by
   split at h
   ·cases h;omega
   split at h
   ·have:=hexR_ok h;omega
   ·cases h
  rw[hg (a+1) hd2]
  (try rw[hd])
  (try simp only)
  split at h
  ·rename_i v hv
   (try rw[hv]);exact h
  ·rename_i hv
   (try rw[hv])
   (try simp only)
   split at h
   ·rename_i h120
    rw[if_pos h120]
    exact hexR_ag h hg
   ·cases h
 ·rw[if_neg h92]at h ⊢
  exact h
theorem runR_ag (left:List UInt8) (en:UInt8) (t u:List UInt8):∀f a,a≤t.length→t.length<a+f→(runR left en t f a).2.2=0→Ag ((runR left en t f a).2.1+1) t u→RN left en u a=runR left en t f a
 |0,a,ha,hf,_,_=>by omega
 |f+1,a,ha,hf,h0,hg=>by
  have hlen:=RN_len left en t (f+1) a ha hf
  have hle:=(hlen.2 h0).2
  simp only[runR]at h0 hg hle ⊢
  by_cases he:t[a]?=some en
  ·rw[if_pos he]at h0 hg ⊢
   exact RN_end (by rw[hg a (by simp)];exact he)
  ·rw[if_neg he]at h0 hg hle ⊢
   cases e:signR left t a with
   |no p k=>
    rw[e]at h0
    rcases signR_no e with h|h <;> simp only at h0 <;> omega
   |ok b n=>
    rw[e]at h0 hg hle
    simp only at h0 hg hle ⊢
    have h1:=signR_ok e
    have h2:=(RN_len left en t f n h1.2 (by omega)).2 h0
    rw[RN_ok (by rw[hg a (by omega)];exact he) (signR_ag e (hg.mono (by omega))),runR_ag left en t u f n h1.2 (by omega) h0 hg]
theorem highR_ag {t u:List UInt8} {a b:UInt8} {n m k:Nat} (h:highR t a n=.ok b m) (hn:n<k) (hm:m≤k) (hg:Ag k t u):highR u a n=.ok b m:=by
 unfold highR at h ⊢
 rw[hg n hn]
 split at h
 ·rename_i h45
  rw[if_pos h45]
  exact signR_ag h (hg.mono hm)
 ·rename_i h45
  rw[if_neg h45];exact h
theorem rangesR_ag (t u:List UInt8):∀f a,a≤t.length→t.length<a+f→(rangesR t f a).2.2=0→Ag ((rangesR t f a).2.1+1) t u→GN u a=rangesR t f a
 |0,a,ha,hf,_,_=>by omega
 |f+1,a,ha,hf,h0,hg=>by
  have hle:=(GN_close t (f+1) a ha hf h0).2
  simp only[rangesR]at h0 hg hle ⊢
  by_cases he:t[a]?=some 93
  ·rw[if_pos he]at h0 hg ⊢
   exact GN_end (by rw[hg a (by simp)];exact he)
  ·rw[if_neg he]at h0 hg hle ⊢
   cases e:signR clsL t a with
   |no p k=>
    rw[e]at h0
    rcases signR_no e with h|h <;> simp only at h0 <;> omega
   |ok b n=>
    rw[e]at h0 hg hle
    simp only at h0 hg hle ⊢
    have h1:=signR_ok e
    cases e2:highR t b n with
    |no p k=>
     rw[e2]at h0
     rcases highR_no e2 with h|h <;> simp only at h0 <;> omega
    |ok c m=>
     rw[e2]at h0 hg hle
     simp only at h0 hg hle ⊢
     have h2:=highR_ok h1.2 e2
     by_cases hlt:c.toNat<b.toNat
     ·rw[if_pos hlt]at h0;simp only at h0;omega
     ·rw[if_neg hlt]at h0 hg hle ⊢
      simp only at h0 hg hle ⊢
      have h3:=(GN_close t f m h2.2 (by omega) h0).2
      rw[GN_ok (by rw[hg a (by omega)];exact he) (signR_ag e (hg.mono (by omega))) (highR_ag e2 (k:=(rangesR t f m).2.1+1) (by omega) (by omega) hg) hlt,rangesR_ag t u f m h2.2 (by omega) h0 hg]
theorem cut1_ag (c:UInt8):∀(l k:List UInt8),(cut1 c l).2.2=true→Ag ((cut1 c l).1.length+1) l k→(cut1 c k).1=(cut1 c l).1∧(cut1 c k).2.2=true
 |[],_,h,_=>by cases h
 |b::l,k,h,hg=>by
  cases k with
  |nil=>have:=hg 0 (by omega);simp at this
  |cons d k=>
   have hd:d=b:=by have:=hg 0 (by omega);simpa using this
   subst hd
   unfold cut1 at h hg ⊢
   by_cases he:d=c
   ·rw[if_pos he]at h hg ⊢
    rw[if_pos he]
    exact⟨rfl,rfl⟩
   ·rw[if_neg he]at h hg ⊢
    rw[if_neg he]
    simp only at h hg ⊢
    have ih:=cut1_ag c l k h (fun i hi=>by
     have:=hg (i+1) (by simp only[List.length_cons];omega)
     simpa using this)
    rw[ih.1,ih.2]
    exact⟨rfl,rfl⟩
theorem countL_ag {l k:List UInt8} {x:Nat×Int×Int} (h:countL l=some x) (hg:Ag (x.1+1) l k):countL k=some x:=by
 have hx:(cut1 125 l).2.2=true∧x.1=(cut1 125 l).1.length:=by
  unfold countL at h
  simp only at h
  split at h
  ·cases h
  rename_i h0
  refine⟨by simpa using h0,?_⟩
  split at h
  ·cases h
  split at h
  ·cases h;rfl
  split at h
  ·cases h;rfl
  split at h
  ·cases h
  ·cases h;rfl
 have:=cut1_ag 125 l k hx.1 (by rw[←hx.2];exact hg)
 unfold countL at h ⊢
 simp only at h ⊢
 rw[hx.1]at h
 rw[this.1,this.2]
 exact h
theorem takeWhile_ag (p:UInt8→Bool):∀(r q:List UInt8),Ag (r.takeWhile p).length r q→(∀c,q[(r.takeWhile p).length]?=some c→p c=false)→q.takeWhile p=r.takeWhile p
 |[],q,_,h=>by
  cases q with
  |nil=>rfl
  |cons d q=>have:=h d rfl;simp[List.takeWhile_cons,this]
 |b::r,q,hg,h=>by
  by_cases hb:p b=true
  ·rw[List.takeWhile_cons,if_pos hb]at hg h ⊢
   cases q with
   |nil=>have:=hg 0 (by simp);simp at this
   |cons d q=>
    have hd:d=b:=by have:=hg 0 (by simp);simpa using this
    subst hd
    rw[List.takeWhile_cons,if_pos hb,takeWhile_ag p r q (fun i hi=>by have:=hg (i+1) (by simp;omega);simpa using this) (fun c hc=>h c (by simpa using hc))]
  ·rw[List.takeWhile_cons,if_neg hb]at hg h ⊢
   cases q with
   |nil=>rfl
   |cons d q=>have:=h d rfl;simp[List.takeWhile_cons,this]
def Fol (x:Wd) (u:List UInt8):Prop:=(x.kind=1→ ∀c,u[x.til]?=some c→alnum c=false)∧(x.kind=11→u[1]? ≠ some 45)
theorem unlitR_of {t:List UInt8} (hc:t[0]?=some 34):unlitR t=if (RN [34] 34 t 1).2.2≠0 then([],(RN [34] 34 t 1).2.1,(RN [34] 34 t 1).2.2)else if 255<(RN [34] 34 t 1).1.length then([],0,40)else((RN [34] 34 t 1).1,(RN [34] 34 t 1).2.1+1,0):=by
 unfold unlitR RN
 rw[hc]
 simp only
 rw[if_neg (by simp),show t.length+1-1=t.length by omega]
def butB (t:List UInt8):Bool:=decide (t[1]?=some 94)
def butA (t:List UInt8):Nat:=if butB t then 2 else 1
theorem butA_le {t:List UInt8} (hc:t[0]?=some 91):1≤butA t∧butA t≤t.length:=by
 have hl:=(List.getElem?_eq_some_iff.1 hc).1
 unfold butA butB
 split
 ·rename_i h;have:=(List.getElem?_eq_some_iff.1 (of_decide_eq_true h)).1;omega
 ·omega
theorem unclsR_of {t:List UInt8} (hc:t[0]?=some 91):unclsR t=if (GN t (butA t)).2.2≠0 then(fun _=>false,(GN t (butA t)).2.1,(GN t (butA t)).2.2)else(fun k=>xor (butB t) (inRanges (GN t (butA t)).1 k),(GN t (butA t)).2.1+1,0):=by
 have hs:=butA_le hc
 have e:GN t (butA t)=rangesR t t.length (butA t):=by unfold GN;exact rangesR_stable t _ _ _ hs.2 (by omega) (by omega)
 rw[e]
 unfold unclsR
 rw[hc]
 simp only
 rw[if_neg (by simp)]
 rfl
theorem head_ag {t u:List UInt8} {x:Wd} (h:headW t=some x) (hg:Ag x.til t u) (hf:Fol x u):headW u=some x:=by
 have hpos:=head_len h
 have h0:=hg 0 hpos.1
 unfold headW at h ⊢
 rw[h0]
 split at h
 ·cases h
 rename_i c hc
 (try rw[hc])
 (try simp only)
 split at h
 ·rename_i hle
  rw[if_pos hle]
  split at h
  ·rename_i h32
   cases h
   simp only at hg hf
   obtain⟨r,rfl⟩:∃r,t=c::r:=by
    cases t with
    |nil=>simp at hc
    |cons d r=>simp at hc;exact⟨r,by rw[hc]⟩
   obtain⟨q,rfl⟩:∃q,u=c::q:=by
    rw[hc]at h0
    cases u with
    |nil=>simp at h0
    |cons d r=>simp at h0;exact⟨r,by rw[h0]⟩
   have e:takeL (c::q)=takeL (c::r):=by
    simp only[takeL,hle,if_true,List.length_cons]at hg hf ⊢
    rw[takeWhile_ag alnum r q (fun i hi=>by have:=hg (i+1) (by omega);simpa using this) (fun d hd=>hf.1 rfl d (by simpa using hd))]
   rw[e,if_pos h32]
  ·cases h
 rename_i hle
 rw[if_neg hle]
 split at h
 ·rename_i h123
  rw[if_pos h123]
  cases hq:countL (t.drop 1)with
  |none=>rw[hq]at h;cases h
  |some y=>
   rw[hq]at h;cases h
   rw[countL_ag hq ((hg.drop 1).mono (by simp only;omega))]
   rfl
 rename_i h123
 rw[if_neg h123]
 split at h
 ·rename_i h34
  rw[if_pos h34]
  split at h
  ·rename_i he
   cases h
   simp only at hg
   subst h34
   have e:unlitR u=unlitR t:=by
    have hcu:u[0]?=some 34:=by rw[h0];exact hc
    rw[unlitR_of hc]at he hg
    rw[unlitR_of hcu,unlitR_of hc]
    have hl:=(List.getElem?_eq_some_iff.1 hc).1
    by_cases hn:(RN [34] 34 t 1).2.2≠0
    ·rw[if_pos hn]at he;exact absurd he hn
    rw[if_neg hn]at he hg
    by_cases hm:255<(RN [34] 34 t 1).1.length
    ·rw[if_pos hm]at he;cases he
    rw[if_neg hm]at hg
    rw[runR_ag [34] 34 t u (t.length+1-1) 1 (by omega) (by omega) (by simpa[RN]using hn) hg]
    rfl
   rw[e,if_pos he]
  ·cases h
 rename_i h34
 rw[if_neg h34]
 split at h
 ·rename_i h91
  rw[if_pos h91]
  split at h
  ·rename_i he
   cases h
   simp only at hg
   subst h91
   have e:unclsR u=unclsR t:=by
    have hcu:u[0]?=some 91:=by rw[h0];exact hc
    rw[unclsR_of hc]at he hg
    rw[unclsR_of hcu,unclsR_of hc]
    have hs:=butA_le hc
    by_cases hn:(GN t (butA t)).2.2≠0
    ·rw[if_pos hn]at he;exact absurd he hn
    rw[if_neg hn]at hg
    have hp:=(GN_close t (t.length+1-butA t) (butA t) hs.2 (by omega) (by simpa[GN]using hn)).2
    have e0:u[1]?=t[1]? :=hg 1 (show 1<(GN t (butA t)).2.1+1 from by unfold GN;omega)
    have eb:butB u=butB t:=by unfold butB;rw[e0]
    have ea:butA u=butA t:=by unfold butA;rw[eb]
    rw[eb,ea,rangesR_ag t u (t.length+1-butA t) (butA t) hs.2 (by omega) (by simpa[GN]using hn) hg]
    rfl
   rw[e,if_pos he]
  ·cases h
 rename_i h91
 rw[if_neg h91]
 split at h
 ·rename_i h46
  rw[if_pos h46];exact h
 rename_i h46
 rw[if_neg h46]
 split at h
 ·rename_i h60
  rw[if_pos h60]
  split at h
  ·rename_i h1
   cases h
   rw[if_pos (by rw[hg 1 (by simp)];exact h1)]
  ·rename_i h1
   cases h
   rw[if_neg (hf.2 rfl)]
 rename_i h60
 rw[if_neg h60]
 exact h
end Go.Proofs.YtpfokabdpmjobaaGreatDoor
