/- Plain laws of words: what parts words; the words of a part of a text. Plain laws of words: each word of a text may be. The parser's arena, plain: what lies in it, and what it says. -/
import Derived.Test.YtpfokabdpmjobaaGreatDoorLx
import Derived.Test.YtpfokabdpmjobaaGreatDoorLa
import Derived.Test.YtpfokabdpmjobaaGreatDoorLb
namespace Go.Proofs.YtpfokabdpmjobaaGreatDoor
set_option linter.unusedSimpArgs false
set_option linter.unusedVariables false
theorem skipM_idem:∀(b:Bool) (l:List UInt8),skipM false (l.drop (skipM b l))=0
 |b,[]=>by cases b <;> simp[skipM]
 |true,c::r=>by
  simp only[skipM]
  rw[show 1+skipM (c != 10) r=skipM (c != 10) r+1 by omega,List.drop_succ_cons]
  exact skipM_idem _ r
 |false,c::r=>by
  by_cases h:c=35
  ·simp only[skipM,if_pos h]
   rw[show 1+skipM true r=skipM true r+1 by omega,List.drop_succ_cons]
   exact skipM_idem _ r
  ·by_cases hp:partB c=true
   ·simp only[skipM,if_neg h,if_pos hp]
    rw[show 1+skipM false r=skipM false r+1 by omega,List.drop_succ_cons]
    exact skipM_idem _ r
   ·simp only[skipM,if_neg h,if_neg hp,List.drop_zero]
theorem skipM_take:∀(b:Bool) (l:List UInt8) (m:Nat),skipM b (l.take m)=min (skipM b l) m
 |b,[],m=>by cases b <;> simp[skipM]
 |b,c::r,0=>by cases b <;> simp[skipM]
 |true,c::r,m+1=>by
  simp only[List.take_succ_cons,skipM]
  rw[skipM_take _ r m];omega
 |false,c::r,m+1=>by
  simp only[List.take_succ_cons,skipM]
  split
  ·rw[skipM_take _ r m];omega
  split
  ·rw[skipM_take _ r m];omega
  ·omega
theorem nextL_idem (s:List UInt8) (k:Nat):skipM false (s.drop (nextL s k))=0:=by
 unfold nextL
 have:=skipM_idem false (s.drop k)
 rwa [List.drop_drop]at this
theorem next_take {s:List UInt8} {p k:Nat} (hk:k≤p) (h:nextL s k≤p):nextL (s.take p) k=nextL s k:=by
 unfold nextL at h ⊢
 rw[List.drop_take,skipM_take];omega
theorem head_stop {t:List UInt8} {x:Wd} (h:headW t=some x):skipM false t=0:=by
 cases t with
 |nil=>rfl
 |cons c r=>
  by_cases h35:c=35
  ·subst h35
   exfalso
   have:headW (35::r)=none:=by
    unfold headW
    simp only[List.getElem?_cons_zero]
    rw[if_neg (by decide),if_neg (by decide),if_neg (by decide),if_neg (by decide),if_neg (by decide),if_neg (by decide),show signK 35=none by decide];rfl
   rw[this]at h;cases h
  ·by_cases hp:partB c=true
   ·exfalso
    have hc:c=32∨c=9∨c=13∨c=10:=by unfold partB at hp;simpa[or_assoc]using hp
    have:headW (c::r)=none:=by
     unfold headW
     simp only[List.getElem?_cons_zero]
     rcases hc with rfl|rfl|rfl|rfl <;> (rw[if_neg (by decide),if_neg (by decide),if_neg (by decide),if_neg (by decide),if_neg (by decide),if_neg (by decide)];decide)
    rw[this]at h;cases h
   ·simp[skipM,h35,hp]
theorem signK_ne {c:UInt8} {k:Nat} (h:signK c=some k):k≠1∧k≠11:=by
 unfold signK at h
 split at h
 ·cases h;decide
 split at h
 ·cases h;decide
 split at h
 ·cases h;decide
 split at h
 ·cases h;decide
 split at h
 ·cases h;decide
 split at h
 ·cases h;decide
 split at h
 ·cases h;decide
 split at h
 ·cases h;decide
 split at h
 ·cases h;decide
 split at h
 ·cases h;decide
 ·cases h
theorem head_sign {t:List UInt8} {x:Wd} (h:headW t=some x) (hk:x.kind=11):x.til=1∧t[1]? ≠ some 45:=by
 unfold headW at h
 split at h
 ·cases h
 split at h
 ·split at h
  ·cases h;cases hk
  ·cases h
 split at h
 ·cases hq:countL (t.drop 1)with
  |none=>rw[hq]at h;cases h
  |some y=>rw[hq]at h;cases h;cases hk
 split at h
 ·split at h
  ·cases h;cases hk
  ·cases h
 split at h
 ·split at h
  ·cases h;cases hk
  ·cases h
 split at h
 ·cases h;cases hk
 split at h
 ·split at h
  ·cases h;cases hk
  ·rename_i h1;cases h;exact⟨rfl,h1⟩
 ·rename_i c _ _ _ _ _ _ h60
  cases hq:signK c with
  |none=>rw[hq]at h;cases h
  |some k=>
   rw[hq]at h;cases h
   exfalso
   exact(signK_ne hq).2 hk
theorem takeWhile_next (p:UInt8→Bool):∀(r:List UInt8) (c:UInt8),r[(r.takeWhile p).length]?=some c→p c=false
 |[],c,h=>by simp at h
 |b::r,c,h=>by
  by_cases hb:p b=true
  ·rw[List.takeWhile_cons,if_pos hb]at h
   exact takeWhile_next p r c (by simpa using h)
  ·rw[List.takeWhile_cons,if_neg hb]at h
   simp at h;subst h;simpa using hb
theorem head_name {t:List UInt8} {x:Wd} (h:headW t=some x) (hk:x.kind=1) (c:UInt8) (hc:t[x.til]?=some c):alnum c=false:=by
 unfold headW at h
 split at h
 ·cases h
 rename_i d hd
 split at h
 ·rename_i hle
  split at h
  ·cases h
   obtain⟨r,rfl⟩:∃r,t=d::r:=by
    cases t with
    |nil=>simp at hd
    |cons b r=>simp at hd;exact⟨r,by rw[hd]⟩
   simp only[takeL,hle,if_true,List.length_cons]at hc
   exact takeWhile_next alnum r c (by simpa using hc)
  ·cases h
 split at h
 ·cases hq:countL (t.drop 1)with
  |none=>rw[hq]at h;cases h
  |some y=>rw[hq]at h;cases h;cases hk
 split at h
 ·split at h
  ·cases h;cases hk
  ·cases h
 split at h
 ·split at h
  ·cases h;cases hk
  ·cases h
 split at h
 ·cases h;cases hk
 split at h
 ·split at h
  ·cases h;cases hk
  ·cases h;cases hk
 ·cases hq:signK d with
  |none=>rw[hq]at h;cases h
  |some k=>
   rw[hq]at h;cases h
   exfalso
   exact(signK_ne hq).1 hk
theorem head_take {t:List UInt8} {x:Wd} {m:Nat} (h:headW t=some x) (hm:x.til≤m):headW (t.take m)=some x:=by
 refine head_ag h ((Ag.take m t).mono hm) ⟨fun hk c hc=> ?_,fun hk hc=> ?_⟩
 ·rcases Nat.lt_or_ge x.til m with h1|h1
  ·rw[List.getElem?_take_of_lt h1]at hc
   exact head_name h hk c hc
  ·rw[List.getElem?_eq_none (by rw[List.length_take];omega)]at hc;cases hc
 ·have:=head_sign h hk
  rcases Nat.lt_or_ge 1 m with h1|h1
  ·rw[List.getElem?_take_of_lt h1]at hc
   exact this.2 hc
  ·rw[List.getElem?_eq_none (by rw[List.length_take];omega)]at hc;cases hc
theorem word_take {s:List UInt8} {a m:Nat} {x:Wd} (h:wordL s a=some x) (hm:x.til≤m):wordL (s.take m) a=some x:=by
 unfold wordL at h ⊢
 cases hq:headW (s.drop a)with
 |none=>rw[hq]at h;cases h
 |some y=>
  rw[hq]at h;cases h
  simp only at hm
  rw[List.drop_take,head_take hq (by omega)];rfl
theorem RW_ahead (s:List UInt8) (p:Nat):∀f k,s.length≤k+f→(rawL s f (nextL s k)).2=some p→nextL s k≤p∧p<s.length∧(RW (s.take p) (nextL (s.take p) k)).2=none∧wordL s p=none∧ ∃j,p=nextL s j
 |0,k,_,h=>by simp[rawL]at h
 |f+1,k,hf,h=>by
  simp only[rawL]at h
  split at h
  ·cases h
  rename_i hlt
  cases hw:wordL s (nextL s k)with
  |none=>
   rw[hw]at h
   simp only[Option.some.injEq]at h
   subst h
   have hk:=next_ge s k
   refine⟨Nat.le_refl _,by omega,?_,hw,k,rfl⟩
   rw[next_take hk (Nat.le_refl _),RW_end (by rw[List.length_take];omega)]
  |some x=>
   rw[hw]at h
   simp only at h
   have h1:=word_til hw
   have h2:=next_ge s k
   have h3:=next_ge s x.til
   have ih:=RW_ahead s p f x.til (by omega) h
   refine⟨by omega,ih.2.1,?_,ih.2.2.2⟩
   rw[next_take (by omega) (by omega),RW_word (by rw[List.length_take];omega) (word_take hw (by omega))]
   exact ih.2.2.1
def Stand (s:List UInt8):Nat→List Wd→Prop
 |k,[]=>s.length≤nextL s k
 |k,x::l=>nextL s k<s.length∧wordL s (nextL s k)=some x∧Stand s x.til l
theorem stand_of (s:List UInt8):∀f k ls,s.length≤k+f→rawL s f (nextL s k)=(ls,none)→Stand s k ls
 |0,k,ls,hf,h=>by
  simp only[rawL]at h
  cases h
  have:=next_ge s k
  simp only[Stand];omega
 |f+1,k,ls,hf,h=>by
  simp only[rawL]at h
  split at h
  ·rename_i hle;cases h;exact hle
  rename_i hlt
  cases hw:wordL s (nextL s k)with
  |none=>rw[hw]at h;cases h
  |some x=>
   rw[hw]at h
   simp only at h
   have h1:=word_til hw
   have h2:=next_ge s k
   injection h with e1 e2
   subst e1
   exact⟨by omega,hw,stand_of s f x.til _ (by omega) (Prod.ext rfl e2)⟩
theorem words_wrong {t:List UInt8} (h0:0<t.length) (hh:headW t=none) (hk:skipM false t=0) (hs:¬65536<t.length):wordsL t=([],0,4):=by
 have h1:nextL t 0=0:=by unfold nextL;rw[List.drop_zero,hk]
 rw[wordsL_of hs,h1,RW_none h0 (by unfold wordL;rw[List.drop_zero,hh];rfl)]
end Go.Proofs.YtpfokabdpmjobaaGreatDoor
namespace Go.Proofs.YtpfokabdpmjobaaGreatDoor
set_option linter.unusedSimpArgs false
set_option linter.unusedVariables false
def mayS (x:Wd):Prop:=
 (x.kind=1→mayL x.text=true)∧(x.kind=15→x.text.length≤255)∧(x.kind=14→0≤x.low∧x.low≤99∧(x.high = -1∨(x.low≤x.high∧x.high≤99)))∧1≤x.kind∧x.kind≤16 ∧
 (x.kind≠1→x.kind≠15→x.text=[])∧(x.kind≠16→x.s0=0∧x.s1=0∧x.s2=0∧x.s3=0)∧(x.kind≠14→x.low=0∧x.high=0)
theorem numL_ok {l:List UInt8} (h:(numL l 99).2=0):0≤(numL l 99).1∧(numL l 99).1≤99:=by
 unfold numL at h ⊢
 split at h
 ·rename_i h1
  rw[if_pos h1]
  split at h
  ·cases h
  ·rename_i h2
   rw[if_neg h2]
   simp only
   omega
 ·cases h
theorem countL_ok {l:List UInt8} {x:Nat×Int×Int} (h:countL l=some x):0≤x.2.1∧x.2.1≤99∧(x.2.2 = -1∨(x.2.1≤x.2.2∧x.2.2≤99)):=by
 unfold countL at h
 simp only at h
 split at h
 ·cases h
 split at h
 ·cases h
 rename_i h1
 have n1:=numL_ok (l:=(cut1 44 (cut1 125 l).1).1) (by simpa using h1)
 split at h
 ·cases h;exact⟨n1.1,n1.2,.inr ⟨Int.le_refl _,n1.2⟩⟩
 split at h
 ·cases h;exact⟨n1.1,n1.2,.inl rfl⟩
 split at h
 ·cases h
 ·rename_i h2
  cases h
  have n2:=numL_ok (l:=(cut1 44 (cut1 125 l).1).2.1) (by by_cases h0:(numL (cut1 44 (cut1 125 l).1).2.1 99).2=0;exact h0;exact absurd (.inl h0) h2)
  exact⟨n1.1,n1.2,.inr ⟨by by_cases h0:(numL (cut1 44 (cut1 125 l).1).2.1 99).1<(numL (cut1 44 (cut1 125 l).1).1 99).1;exact absurd (.inr h0) h2;simp only;omega,n2.2⟩⟩
theorem signK_in {c:UInt8} {k:Nat} (h:signK c=some k):3≤k∧k≤13:=by
 unfold signK at h
 split at h
 ·cases h;decide
 split at h
 ·cases h;decide
 split at h
 ·cases h;decide
 split at h
 ·cases h;decide
 split at h
 ·cases h;decide
 split at h
 ·cases h;decide
 split at h
 ·cases h;decide
 split at h
 ·cases h;decide
 split at h
 ·cases h;decide
 split at h
 ·cases h;decide
 ·cases h
theorem unlitR_len {t:List UInt8} (h:(unlitR t).2.2=0):(unlitR t).1.length≤255:=by
 unfold unlitR at h ⊢
 split at h
 ·cases h
 ·rename_i c hc
  split at h
  ·cases h
  ·rename_i h34
   rw[if_neg h34]
   simp only at h ⊢
   split at h
   ·rename_i hn;exact absurd h hn
   rename_i hn
   rw[if_neg hn]
   split at h
   ·cases h
   ·rename_i hm
    rw[if_neg hm]
    simp only
    omega
theorem head_may {t:List UInt8} {x:Wd} (h:headW t=some x):mayS x:=by
 have hk:=head_len h
 unfold headW at h
 split at h
 ·cases h
 rename_i c hc
 split at h
 ·rename_i hle
  split at h
  ·rename_i h32
   cases h
   refine⟨fun _=> ?_,fun e=>by simp at e,fun e=>by simp at e,by simp only;omega,by simp only;omega,fun e=>absurd rfl e,fun _=>⟨rfl,rfl,rfl,rfl⟩,fun _=>⟨rfl,rfl⟩⟩
   unfold mayL
   refine decide_eq_true ⟨fun e=> ?_,h32,takeL_idem t⟩
   simp only at hk e
   rw[e]at hk
   simp at hk
  ·cases h
 split at h
 ·cases hq:countL (t.drop 1)with
  |none=>rw[hq]at h;cases h
  |some y=>
   rw[hq]at h;cases h
   exact⟨fun e=>by simp at e,fun e=>by simp at e,fun _=>countL_ok hq,by simp only;omega,by simp only;omega,fun _ _=>rfl,fun _=>⟨rfl,rfl,rfl,rfl⟩,fun e=>absurd rfl e⟩
 split at h
 ·split at h
  ·rename_i he
   cases h
   exact⟨fun e=>by simp at e,fun _=>unlitR_len he,fun e=>by simp at e,by simp only;omega,by simp only;omega,fun _ e=>absurd rfl e,fun _=>⟨rfl,rfl,rfl,rfl⟩,fun _=>⟨rfl,rfl⟩⟩
  ·cases h
 split at h
 ·split at h
  ·cases h
   exact⟨fun e=>by simp at e,fun e=>by simp at e,fun e=>by simp at e,by simp only;omega,by simp only;omega,fun _ _=>rfl,fun e=>absurd rfl e,fun _=>⟨rfl,rfl⟩⟩
  ·cases h
 split at h
 ·cases h
  exact⟨fun e=>by simp at e,fun e=>by simp at e,fun e=>by simp at e,by simp only;omega,by simp only;omega,fun _ _=>rfl,fun e=>absurd rfl e,fun _=>⟨rfl,rfl⟩⟩
 split at h
 ·split at h
  ·cases h
   exact⟨fun e=>by simp at e,fun e=>by simp at e,fun e=>by simp at e,by simp only;omega,by simp only;omega,fun _ _=>rfl,fun _=>⟨rfl,rfl,rfl,rfl⟩,fun _=>⟨rfl,rfl⟩⟩
  ·cases h
   exact⟨fun e=>by simp at e,fun e=>by simp at e,fun e=>by simp at e,by simp only;omega,by simp only;omega,fun _ _=>rfl,fun _=>⟨rfl,rfl,rfl,rfl⟩,fun _=>⟨rfl,rfl⟩⟩
 ·cases hq:signK c with
  |none=>rw[hq]at h;cases h
  |some k=>
   rw[hq]at h;cases h
   have:=signK_in hq
   refine⟨fun e=> ?_,fun e=> ?_,fun e=> ?_,by simp only;omega,by simp only;omega,fun _ _=>rfl,fun _=>⟨rfl,rfl,rfl,rfl⟩,fun _=>⟨rfl,rfl⟩⟩ <;> (simp only at e;omega)
theorem word_may {s:List UInt8} {a:Nat} {x:Wd} (h:wordL s a=some x):mayS x:=by
 unfold wordL at h
 cases hq:headW (s.drop a)with
 |none=>rw[hq]at h;cases h
 |some y=>
  rw[hq]at h;cases h
  have:=head_may hq
  exact⟨this.1,this.2.1,this.2.2.1,this.2.2.2.1,this.2.2.2.2.1,this.2.2.2.2.2.1,this.2.2.2.2.2.2.1,this.2.2.2.2.2.2.2⟩
end Go.Proofs.YtpfokabdpmjobaaGreatDoor
namespace Go.Proofs.YtpfokabdpmjobaaGreatDoor
set_option linter.unusedSimpArgs false
set_option linter.unusedVariables false
structure Ob where
 fin:Nat
 name:List UInt8
 ways:List Int
 parts:List Int
 heads:List Nat
def addA (l:List Nd) (n:Nd) (ks:List Int):List Nd:=l++[{n with kids:=ks}]
def unitA (l:List Nd) (n:Nd):List Int→List Nd×Int
 |[]=>(addA l emptyN [],l.length)
 |[z]=>(l,z)
 |zs=>(addA l n zs,l.length)
theorem addA_len (l:List Nd) (n:Nd) (ks:List Int):(addA l n ks).length=l.length+1:=by simp[addA]
def ints (n:Nat):List Int:=(List.range n).map fun i:Nat=>(i:Int)
theorem mem_ints {n:Nat} {z:Int}:z∈ints n↔0≤z∧z<(n:Int):=by
 simp only[ints,List.mem_map,List.mem_range]
 constructor
 ·rintro⟨i,hi,rfl⟩;omega
 ·rintro⟨h0,h1⟩;exact⟨z.toNat,by omega,by omega⟩
theorem ints_succ (n:Nat):ints (n+1)=ints n++[(n:Int)]:=by simp[ints,List.range_succ]
theorem count_ints {n i:Nat} (hi:i<n):(ints n).count (i:Int)=1:=by
 induction n with
 |zero=>omega
 |succ n ih=>
  rw[ints_succ,List.count_append]
  rcases Nat.lt_or_ge i n with h|h
  ·rw[ih h,List.count_singleton]
   have:((n:Int)==(i:Int))=false:=by simp;omega
   simp[this]
  ·obtain rfl:i=n:=by omega
   rw[List.count_eq_zero.2 (fun hm=>by have:=(mem_ints.1 hm).2;omega)]
   simp
structure Fine (l:List Nd) (P:List Int):Prop where
 perm:(kidsOf l++P).Perm (ints l.length)
 fit:∀n∈l,fitN n n.kids.length=true
 ahead:AheadZ l
theorem Fine.nil:Fine [] []:=⟨by simp[kidsOf,ints],by simp,fun i n h=>by simp at h⟩
theorem Fine.re {l:List Nd} {P P':List Int} (h:Fine l P) (hp:P.Perm P'):Fine l P':=⟨(List.Perm.append_left _ hp.symm).trans h.perm,h.fit,h.ahead⟩
theorem Fine.mem {l:List Nd} {P:List Int} (h:Fine l P) {z:Int} (hz:z∈P):0≤z∧z<(l.length:Int):=mem_ints.1 (h.perm.mem_iff.1 (List.mem_append_right _ hz))
theorem Fine.add {l:List Nd} {ks P:List Int} (h:Fine l (ks++P)) {n:Nd} (hn:fitN n ks.length=true):Fine (addA l n ks) ((l.length:Int)::P):=by
 have hk:kidsOf (addA l n ks)=kidsOf l++ks:=by simp[addA,kidsOf]
 refine⟨?_,fun m hm=> ?_,?_⟩
 ·rw[hk,addA_len,ints_succ]
  have h1:(kidsOf l++ks++((l.length:Int)::P)).Perm ((l.length:Int)::(kidsOf l++(ks++P))):=by
   rw[←List.append_assoc (kidsOf l) ks P]
   exact List.perm_middle
  exact h1.trans ((List.Perm.cons _ h.perm).trans (List.perm_append_singleton _ _).symm)
 ·rcases List.mem_append.1 hm with hm|hm
  ·exact h.fit m hm
  ·obtain rfl:=List.mem_singleton.1 hm
   exact hn
 ·exact h.ahead.add fun k hk=>h.mem (List.mem_append_left _ hk)
theorem Fine.right {l:List Nd} {z:Int} (h:Fine l [z]):rightT ⟨l,z⟩=true:=by
 refine(rightT_iff _).2 ⟨h.mem (by simp),fun i n hn=> ?_,fun i hi=> ?_⟩
 ·have hm:n∈l:=List.mem_of_getElem? hn
  simp only[ndOk,Bool.and_eq_true,List.all_eq_true,decide_eq_true_eq]
  exact⟨h.fit n hm,fun k hk=>h.ahead i n hn k hk⟩
 ·have h1:=h.perm.count_eq (i:Int)
  rw[List.count_append,count_ints hi,List.count_singleton]at h1
  by_cases e:(i:Int)=z
  ·rw[if_pos e];simp[e]at h1;simpa[e]using h1
  ·rw[if_neg e]
   have:(z==(i:Int))=false:=by simp;omega
   simpa[this]using h1
def RepL (l:List Nd) (zs:List Int) (ts:List TT):Prop:=zs.length=ts.length∧ ∀j (h:j<zs.length) (h':j<ts.length),0≤zs[j]∧Rep l ts[j] zs[j].toNat
def RepZ (l:List Nd) (z:Int) (t:TT):Prop:=0≤z∧Rep l t z.toNat
theorem RepZ.append {l m:List Nd} {z:Int} {t:TT} (h:RepZ l z t):RepZ (l++m) z t:=⟨h.1,h.2.append⟩
theorem RepL.append {l m:List Nd} {zs:List Int} {ts:List TT} (h:RepL l zs ts):RepL (l++m) zs ts:=⟨h.1,fun j h1 h2=>⟨(h.2 j h1 h2).1,(h.2 j h1 h2).2.append⟩⟩
theorem RepL.nil (l:List Nd):RepL l [] []:=⟨rfl,fun j h=>by simp at h⟩
theorem RepL.snoc {l:List Nd} {zs:List Int} {ts:List TT} {z:Int} {t:TT} (h:RepL l zs ts) (hz:RepZ l z t):RepL l (zs++[z]) (ts++[t]):=by
 refine⟨by simp[h.1],fun j h1 h2=> ?_⟩
 by_cases hj:j<zs.length
 ·rw[List.getElem_append_left hj,List.getElem_append_left (by have:=h.1;omega)]
  exact h.2 j hj _
 ·have e:j=zs.length:=by simp at h1;omega
  subst e
  simp only[List.getElem_append_right (Nat.le_refl _),Nat.sub_self,List.getElem_cons_zero]
  rw[List.getElem_append_right (by have:=h.1;omega)]
  simp only[h.1,Nat.sub_self,List.getElem_cons_zero]
  exact hz
theorem RepZ.one {l:List Nd} {z:Int} {t:TT} (h:RepZ l z t):RepL l [z] [t]:=by simpa using(RepL.nil l).snoc h
theorem rep_addA {l:List Nd} {n:Nd} {ks:List Int} {ts:List TT} (hn:n.kids=[]) (h:RepL l ks ts):RepZ (addA l n ks) l.length (.mk n ts):=by
 refine⟨by omega,?_⟩
 have:=rep_add (n:=n) h.1 h.2
 rw[bare_of hn]at this
 simpa[addA]using this
theorem unitA_pre (l:List Nd) (n:Nd) (zs:List Int):∃m,(unitA l n zs).1=l++m:=by
 match zs with
 |[]=>exact⟨_,rfl⟩
 |[z]=>exact⟨[],by simp[unitA]⟩
 |_::_::_=>exact⟨_,rfl⟩
theorem rep_unitA {l:List Nd} {n:Nd} {zs:List Int} {ts:List TT} (hn:n.kids=[]) (h:RepL l zs ts):RepZ (unitA l n zs).1 (unitA l n zs).2 (joinP n ts):=by
 match zs,ts,h with
 |[],[],_=>exact rep_addA (n:=emptyN) rfl (RepL.nil l)
 |[z],[t],h=>exact h.2 0 (by simp) (by simp)
 |a::b::zs,x::y::ts,h=>exact rep_addA hn h
 |[],_::_,h=>have:=h.1;simp at this
 |[_],[],h=>have:=h.1;simp at this
 |[_],_::_::_,h=>have:=h.1;simp at this
 |_::_::_,[],h=>have:=h.1;simp at this
 |_::_::_,[_],h=>have:=h.1;simp at this
theorem fine_unitA {l:List Nd} {n:Nd} {zs P:List Int} (hn:∀k:Nat,2≤k→fitN n k=true) (h:Fine l (zs++P)):Fine (unitA l n zs).1 ((unitA l n zs).2::P):=by
 match zs with
 |[]=>exact Fine.add (ks:=[]) (n:=emptyN) (by simpa using h) (by decide)
 |[z]=>simpa[unitA]using h
 |a::b::zs=>exact h.add (hn _ (by simp))
structure SimO (l:List Nd) (a:Ob) (b:Op):Prop where
 fin:a.fin=b.fin
 name:a.name=b.name
 heads:a.heads=b.heads
 ways:RepL l a.ways b.ways
 parts:RepL l a.parts b.parts
 hd:∀k∈a.heads,k=7∨k=8
theorem SimO.append {l m:List Nd} {a:Ob} {b:Op} (h:SimO l a b):SimO (l++m) a b:=⟨h.fin,h.name,h.heads,h.ways.append,h.parts.append,h.hd⟩
def SimS (l:List Nd):List Ob→List Op→Prop
 |[],[]=>True
 |a::xs,b::ys=>SimO l a b∧SimS l xs ys
 |_,_=>False
theorem SimS.append {l m:List Nd}:∀{xs:List Ob} {ys:List Op},SimS l xs ys→SimS (l++m) xs ys
 |[],[],_=>trivial
 |a::xs,b::ys,h=>⟨h.1.append,h.2.append⟩
 |[],_::_,h=>h.elim
 |_::_,[],h=>h.elim
theorem SimS.length {l:List Nd}:∀{xs:List Ob} {ys:List Op},SimS l xs ys→xs.length=ys.length
 |[],[],_=>rfl
 |a::xs,b::ys,h=>by simp[h.2.length]
 |[],_::_,h=>h.elim
 |_::_,[],h=>h.elim
def stkP:List Op→Prop
 |[]=>False
 |[b]=>b.fin=0
 |b::ys=>(b.fin=10∨b.fin=12∧mayL b.name=true)∧stkP ys
def opensP (xs:List Ob):List Int:=xs.flatMap fun a=>a.ways++a.parts
theorem empB:(⟨#[]⟩:ByteArray)=ByteArray.empty:=rfl
theorem fit_seqN (k:Nat) (h:2≤k):fitN seqN k=true:=(fit_seq h).1
theorem fit_choN (k:Nat) (h:2≤k):fitN choN k=true:=(fit_seq h).2
theorem fit_cap {t:List UInt8} (h:mayL t=true):fitN (capN t) 1=true:=by simp[fitN,capN,noSet,noNum,h]
theorem fit_leaf {x:Wd} (hm:mayS x) (hk:x.kind=1∨x.kind=15∨x.kind=16):fitN (leafW x) 0=true:=by
 unfold leafW
 rcases hk with h|h|h
 ·rw[if_pos h];simp[fitN,ruleN,noSet,noNum,hm.1 h]
 ·rw[if_neg (by omega),if_pos h]
  by_cases e:x.text=[]
  ·rw[if_pos e];decide
  ·rw[if_neg e]
   have h1:=hm.2.1 h
   have h2:1≤x.text.length:=by
    cases hx:x.text with
    |nil=>exact absurd hx e
    |cons a l=>simp
   simp only[fitN,textN,noSet,noNum,ByteArray.size,List.size_toArray]
   simp[h1,h2]
 ·rw[if_neg (by omega),if_neg (by omega)];simp[fitN,setW,noText,noNum,empB]
theorem leaf_kids (x:Wd):(leafW x).kids=[]:=by
 unfold leafW
 split
 ·rfl
 ·split
  ·split <;> rfl
  ·rfl
theorem fit_rep {W:List Wd} {i:Nat} {lo hi:Int} (hm:∀x∈W,mayS x) (h:sufW W i=some (lo,hi)):fitN (repN lo hi) 1=true:=by
 have hl:=suf_lt h
 have key:0≤lo∧lo≤99∧(hi = -1∨lo≤hi∧hi≤99):=by
  unfold sufW at h
  split at h
  ·cases h;omega
  split at h
  ·cases h;omega
  split at h
  ·cases h;omega
  split at h
  ·rename_i h14
   rw[wd_at hl]at h
   rw[kd_at hl]at h14
   cases h
   exact(hm W[i] (List.getElem_mem hl)).2.2.1 h14
  ·cases h
 simp[fitN,repN,noSet,noText,key,empB]
end Go.Proofs.YtpfokabdpmjobaaGreatDoor
