/- Plain laws of words: how long a word is. Plain laws of words: a text's words, step by step. Plain laws of words: a word is read from its own bytes alone. The contract of lex.readings: for a word's first byte, how it is read. A range over an iterator that has memory of its own kinds, which the body keeps. -/
import Derived.Test.YtdnochjajoiooaaGreatDoorLa
import Derived.Test.YtdnochjajoiooaaGreatDoorPn
import Derived.Test.YtdnochjajoiooaaGreatDoorNb
import Derived.Test.YtdnochjajoiooaaGreatDoorLe
import Derived.Test.YtdnochjajoiooaaGreatDoorLc
import Derived.RangeFuncWrites
import Derived.RangeFuncLeaves
import Derived.RangeFuncBox
import Derived.RangeFuncCalls
import Derived.RangeFuncBound
import Derived.RangeFuncFrom
namespace Go.Proofs.YtdnochjajoiooaaGreatDoor
set_option linter.unusedSimpArgs false
set_option linter.unusedVariables false
theorem Hb (t:List UInt8):∀(f a:Nat),a<=t.length->t.length<a+f->(Bh t f a).2.2=0->t[(Bh t f a).2.1]?=some 93/\a<=(Bh t f a).2.1
 |0,a,ha,hf=>by omega
 |f+1,a,ha,hf=>by
  simp only[Bh];split
  ·rename_i h;exact fun _=>⟨h,Nat.le_refl _⟩
  cases e:AQ Bp t a with
  |no p k=>intro h;rcases D5 e with h1|h1 <;> simp only at h <;> omega
  |ok b n=>
   have h1:=Ch e;simp only;cases e2:CB t b n with
   |no p k=>intro h;rcases Ja e2 with h1|h1 <;> simp only at h <;> omega
   |ok c m=>
    have h2:=Fm h1.2 e2;simp only;split
    ·intro h;simp only at h;omega
    ·intro h;have:=Hb t f m h2.2 (by omega) h;exact⟨this.1,Nat.le_trans (by omega) this.2⟩
theorem Pn (c:UInt8) (l:List UInt8) (h:(Bq c l).2.2=true):(Bq c l).1.length<l.length:=by
 rcases Gu c l with⟨_,h1⟩|⟨k,_,hk,h1⟩
 ·rw[h1]at h;cases h
 ·rw[h1];simp only[List.length_take];omega
theorem QC {l:List UInt8} {x:Nat×Int×Int} (h:Ci l=some x):x.1<l.length:=by
 unfold Ci at h;simp only at h;split at h
 ·cases h
 rename_i h0
 have h1:=Pn 125 l (by simpa using h0);split at h
 ·cases h
 split at h
 ·cases h;exact h1
 split at h
 ·cases h;exact h1
 split at h
 ·cases h
 ·cases h;exact h1
theorem Jh {t:List UInt8} {x:Wd} (h:Bf t=some x):0<x.til/\x.til<=t.length:=by
 unfold Bf at h;split at h
 ·cases h
 rename_i c hc
 have hl:=(List.getElem?_eq_some_iff.1 hc).1;split at h
 ·rename_i hle
  split at h
  ·cases h;refine⟨?_,Ps t⟩
   obtain⟨r,rfl⟩:∃r,t=c::r:=by
    cases t with
    |nil=>simp at hl
    |cons d r=>simp at hc;exact⟨r,by rw[hc]⟩
   simp only[B0,hle,if_true,List.length_cons];omega
  ·cases h
 split at h
 ·cases hq:Ci (t.drop 1)with
  |none=>rw[hq]at h;cases h
  |some y=>
   rw[hq]at h;cases h;have:=QC hq;rw[List.length_drop]at this;simp only;omega
 split at h
 ·split at h
  ·rename_i h34 h0
   cases h;subst h34;have hp:=JM [34] 34 t t.length 1 (by omega) (by omega);unfold BN at h0 ⊢;simp only[hc]at h0 ⊢;rw[if_neg (by simp)]at h0 ⊢;split at h0
   ·rename_i hn;exact absurd h0 hn
   rename_i hn
   split at h0
   ·cases h0
   rename_i hm
   rw[if_neg hn,if_neg hm];have h1:=hp.2 (by simpa using hn);have h2:=(List.getElem?_eq_some_iff.1 h1.1).1;simp only;omega
  ·cases h
 split at h
 ·split at h
  ·rename_i h91 h0
   cases h;subst h91;unfold Bx at h0 ⊢;simp only[hc]at h0 ⊢;rw[if_neg (by simp)]at h0 ⊢
   have hs:(if decide (t[1]?=some 94)=true then 2 else 1)<=t.length/\t.length<(if decide (t[1]?=some 94)=true then 2 else 1)+t.length:=by
    split
    ·rename_i h;have:=(List.getElem?_eq_some_iff.1 (of_decide_eq_true h)).1;omega
    ·omega
   have hp:=Hb t t.length _ hs.1 hs.2;generalize Bh t t.length (if decide (t[1]?=some 94)=true then 2 else 1)=r at *;split at h0
   ·rename_i hn;exact absurd h0 hn
   rename_i hn
   rw[if_neg hn];have h1:=hp (by simpa using hn);have h2:=(List.getElem?_eq_some_iff.1 h1.1).1;simp only;omega
  ·cases h
 split at h
 ·cases h;exact⟨by decide,hl⟩
 split at h
 ·split at h
  ·rename_i h1
   cases h;have:=(List.getElem?_eq_some_iff.1 h1).1;exact⟨by decide,this⟩
  ·cases h;exact⟨by decide,hl⟩
 ·cases hk:DX c with
  |none=>rw[hk]at h;cases h
  |some k=>rw[hk]at h;cases h;exact⟨Nat.one_pos,hl⟩
theorem CL {s:List UInt8} {a:Nat} {x:Wd} (h:B9 s a=some x):a<x.til/\x.til<=s.length:=by
 unfold B9 at h;cases hq:Bf (s.drop a)with
 |none=>rw[hq]at h;cases h
 |some y=>
  rw[hq]at h;cases h;have:=Jh hq;rw[List.length_drop]at this;simp only;omega
theorem E6 (s:List UInt8):∀f g a,s.length<=a+f->s.length<=a+g->DY s f a=DY s g a
 |0,0,_,_,_=>rfl
 |0,g+1,a,h,_=>by simp only[DY];rw[if_pos (by omega)]
 |f+1,0,a,_,h=>by simp only[DY];rw[if_pos (by omega)]
 |f+1,g+1,a,hf,hg=>by
  simp only[DY];split
  ·rfl
  cases h:B9 s a with
  |none=>rfl
  |some x=>
   have h1:=CL h;have h2:=Dr s x.til;simp only;rw[E6 s f g (A9 s x.til) (by omega) (by omega)]
def RW (s:List UInt8) (a:Nat):List Wd×Option Nat:=DY s (s.length+1-a) a
theorem QD {s:List UInt8} {a:Nat} (h:s.length<=a):RW s a=([],none):=by
 unfold RW;rw[E6 s _ 0 a (by omega) (by omega)];rfl
theorem RM {s:List UInt8} {a:Nat} (h:a<s.length) (hw:B9 s a=none):RW s a=([],some a):=by
 unfold RW;obtain⟨k,hk⟩:∃k,s.length+1-a=k+1:=⟨s.length-a,by omega⟩;rw[hk,DY,if_neg (by omega),hw]
theorem NK {s:List UInt8} {a:Nat} {x:Wd} (h:a<s.length) (hw:B9 s a=some x):RW s a=(x::(RW s (A9 s x.til)).1,(RW s (A9 s x.til)).2):=by
 have h1:=CL hw;have h2:=Dr s x.til;unfold RW;obtain⟨k,hk⟩:∃k,s.length+1-a=k+1:=⟨s.length-a,by omega⟩;rw[hk,DY,if_neg (by omega),hw];simp only;rw[E6 s k (s.length+1-A9 s x.til) (A9 s x.til) (by omega) (by omega)]
theorem I4 {s:List UInt8} (h:65536<s.length):AD s=([],65536,40):=by unfold AD;rw[if_pos h]
theorem EO {s:List UInt8} (h:¬65536<s.length):AD s=match (RW s (A9 s 0)).2 with
  |some p=>([],p,4)
  |none=>((RW s (A9 s 0)).1,0,0):=by
 unfold AD RW;rw[if_neg h,E6 s (s.length+1) (s.length+1-A9 s 0) (A9 s 0) (by omega) (by omega)];rfl
theorem Vq (s:List UInt8):∀f a,s.length<=a+f->(DY s f a).1.length<=s.length-a
 |0,a,_=>by simp[DY]
 |f+1,a,h=>by
  simp only[DY];split
  ·simp
  cases hw:B9 s a with
  |none=>simp
  |some x=>
   have h1:=CL hw;have h2:=Dr s x.til;have:=Vq s f (A9 s x.til) (by omega);simp only[List.length_cons];omega
def Ag (n:Nat) (t u:List UInt8):Prop:=∀i,i<n->u[i]?=t[i]?
theorem Ag.mono {n m:Nat} {t u:List UInt8} (h:Ag n t u) (hm:m<=n):Ag m t u:=fun i hi=>h i (by omega)
theorem Ag.len {n:Nat} {t u:List UInt8} (h:Ag n t u) (hn:n<=t.length):n<=u.length:=by
 rcases Nat.eq_zero_or_pos n with h0|h0
 ·omega
 have h1:=h (n-1) (by omega);rw[List.getElem?_eq_getElem (show n-1<t.length by omega)]at h1;have:=(List.getElem?_eq_some_iff.1 h1).1;omega
theorem Ag.drop {n:Nat} {t u:List UInt8} (h:Ag n t u) (k:Nat):Ag (n-k) (t.drop k) (u.drop k):=fun i hi=>by
 rw[List.getElem?_drop,List.getElem?_drop];exact h (k+i) (by omega)
theorem Ag.take (m:Nat) (t:List UInt8):Ag m t (t.take m):=fun i hi=>List.getElem?_take_of_lt hi
theorem WQ {t u:List UInt8} {a n:Nat} {b:UInt8} (h:EJ t a=.ok b n) (hg:Ag n t u):EJ u a=.ok b n:=by
 have h0:=NG h;unfold EJ at h ⊢;rw[hg a (by omega),hg (a+1) (by omega)]
 exact(by
  split at h
  ·cases h
  rename_i c hc
  (try rw[hc])
  (try simp only)
  split at h
  ·cases h
  rename_i x hx
  (try rw[hx])
  (try simp only)
  split at h
  ·cases h
  rename_i d hd
  (try rw[hd])
  (try simp only)
  split at h
  ·cases h
  rename_i y hy
  (try rw[hy])
  exact h)
theorem LD {left t u:List UInt8} {a n:Nat} {b:UInt8} (h:AQ left t a=.ok b n) (hg:Ag n t u):AQ left u a=.ok b n:=by
 have h0:=Ch h;unfold AQ at h ⊢;rw[hg a (by omega)];split at h
 ·cases h
 rename_i c hc
 (try rw[hc])
 (try simp only)
 by_cases h92:c=92
 ·rw[if_pos h92]at h ⊢;split at h
  ·cases h
  rename_i d hd
  have hd2:a+1<n:=by
   split at h
   ·cases h;omega
   split at h
   ·have:=NG h;omega
   ·cases h
  rw[hg (a+1) hd2]
  (try rw[hd])
  (try simp only)
  split at h
  ·rename_i v hv
   (try rw[hv]);exact h
  ·rename_i hv
   (try rw[hv])
   (try simp only)
   split at h
   ·rename_i h120
    rw[if_pos h120];exact WQ h hg
   ·cases h
 ·rw[if_neg h92]at h ⊢;exact h
theorem RO (left:List UInt8) (en:UInt8) (t u:List UInt8):∀f a,a<=t.length->t.length<a+f->(Fl left en t f a).2.2=0->Ag ((Fl left en t f a).2.1+1) t u->RN left en u a=Fl left en t f a
 |0,a,ha,hf,_,_=>by omega
 |f+1,a,ha,hf,h0,hg=>by
  have hlen:=JM left en t (f+1) a ha hf;have hle:=(hlen.2 h0).2;simp only[Fl]at h0 hg hle ⊢;by_cases he:t[a]?=some en
  ·rw[if_pos he]at h0 hg ⊢;exact Q4 (by rw[hg a (by simp)];exact he)
  ·rw[if_neg he]at h0 hg hle ⊢;cases e:AQ left t a with
   |no p k=>
    rw[e]at h0;rcases D5 e with h|h <;> simp only at h0 <;> omega
   |ok b n=>
    rw[e]at h0 hg hle;simp only at h0 hg hle ⊢;have h1:=Ch e;have h2:=(JM left en t f n h1.2 (by omega)).2 h0;rw[UY (by rw[hg a (by omega)];exact he) (LD e (hg.mono (by omega))),RO left en t u f n h1.2 (by omega) h0 hg]
theorem Vr {t u:List UInt8} {a b:UInt8} {n m k:Nat} (h:CB t a n=.ok b m) (hn:n<k) (hm:m<=k) (hg:Ag k t u):CB u a n=.ok b m:=by
 unfold CB at h ⊢;rw[hg n hn];split at h
 ·rename_i h45
  rw[if_pos h45];exact LD h (hg.mono hm)
 ·rename_i h45
  rw[if_neg h45];exact h
theorem LE (t u:List UInt8):∀f a,a<=t.length->t.length<a+f->(Bh t f a).2.2=0->Ag ((Bh t f a).2.1+1) t u->GN u a=Bh t f a
 |0,a,ha,hf,_,_=>by omega
 |f+1,a,ha,hf,h0,hg=>by
  have hle:=(Hb t (f+1) a ha hf h0).2;simp only[Bh]at h0 hg hle ⊢;by_cases he:t[a]?=some 93
  ·rw[if_pos he]at h0 hg ⊢;exact Q5 (by rw[hg a (by simp)];exact he)
  ·rw[if_neg he]at h0 hg hle ⊢;cases e:AQ Bp t a with
   |no p k=>
    rw[e]at h0;rcases D5 e with h|h <;> simp only at h0 <;> omega
   |ok b n=>
    rw[e]at h0 hg hle;simp only at h0 hg hle ⊢;have h1:=Ch e;cases e2:CB t b n with
    |no p k=>
     rw[e2]at h0;rcases Ja e2 with h|h <;> simp only at h0 <;> omega
    |ok c m=>
     rw[e2]at h0 hg hle;simp only at h0 hg hle ⊢;have h2:=Fm h1.2 e2;by_cases hlt:c.toNat<b.toNat
     ·rw[if_pos hlt]at h0;simp only at h0;omega
     ·rw[if_neg hlt]at h0 hg hle ⊢;simp only at h0 hg hle ⊢;have h3:=(Hb t f m h2.2 (by omega) h0).2;rw[R7 (by rw[hg a (by omega)];exact he) (LD e (hg.mono (by omega))) (Vr e2 (k:=(Bh t f m).2.1+1) (by omega) (by omega) hg) hlt,LE t u f m h2.2 (by omega) h0 hg]
theorem RP (c:UInt8):∀(l k:List UInt8),(Bq c l).2.2=true->Ag ((Bq c l).1.length+1) l k->(Bq c k).1=(Bq c l).1/\(Bq c k).2.2=true
 |[],_,h,_=>by cases h
 |b::l,k,h,hg=>by
  cases k with
  |nil=>have:=hg 0 (by omega);simp at this
  |cons d k=>
   have hd:d=b:=by have:=hg 0 (by omega);simpa using this
   subst hd;unfold Bq at h hg ⊢;by_cases he:d=c
   ·rw[if_pos he]at h hg ⊢;rw[if_pos he];exact⟨rfl,rfl⟩
   ·rw[if_neg he]at h hg ⊢;rw[if_neg he];simp only at h hg ⊢
    have ih:=RP c l k h (fun i hi=>by
     have:=hg (i+1) (by simp only[List.length_cons];omega);simpa using this)
    rw[ih.1,ih.2];exact⟨rfl,rfl⟩
theorem T2 {l k:List UInt8} {x:Nat×Int×Int} (h:Ci l=some x) (hg:Ag (x.1+1) l k):Ci k=some x:=by
 have hx:(Bq 125 l).2.2=true/\x.1=(Bq 125 l).1.length:=by
  unfold Ci at h;simp only at h;split at h
  ·cases h
  rename_i h0
  refine⟨by simpa using h0,?_⟩;split at h
  ·cases h
  split at h
  ·cases h;rfl
  split at h
  ·cases h;rfl
  split at h
  ·cases h
  ·cases h;rfl
 have:=RP 125 l k hx.1 (by rw[<-hx.2];exact hg);unfold Ci at h ⊢;simp only at h ⊢;rw[hx.1]at h;rw[this.1,this.2];exact h
theorem Ji (p:UInt8->Bool):∀(r q:List UInt8),Ag (r.takeWhile p).length r q->(∀c,q[(r.takeWhile p).length]?=some c->p c=false)->q.takeWhile p=r.takeWhile p
 |[],q,_,h=>by
  cases q with
  |nil=>rfl
  |cons d q=>have:=h d rfl;simp[List.takeWhile_cons,this]
 |b::r,q,hg,h=>by
  by_cases hb:p b=true
  ·rw[List.takeWhile_cons,if_pos hb]at hg h ⊢;cases q with
   |nil=>have:=hg 0 (by simp);simp at this
   |cons d q=>
    have hd:d=b:=by have:=hg 0 (by simp);simpa using this
    subst hd;rw[List.takeWhile_cons,if_pos hb,Ji p r q (fun i hi=>by have:=hg (i+1) (by simp;omega);simpa using this) (fun c hc=>h c (by simpa using hc))]
  ·rw[List.takeWhile_cons,if_neg hb]at hg h ⊢;cases q with
   |nil=>rfl
   |cons d q=>have:=h d rfl;simp[List.takeWhile_cons,this]
def Fol (x:Wd) (u:List UInt8):Prop:=(x.kind=1-> ∀c,u[x.til]?=some c->Ce c=false)/\(x.kind=11->u[1]? ≠ some 45)
theorem Hw {t:List UInt8} (hc:t[0]?=some 34):BN t=if (RN [34] 34 t 1).2.2≠0 then([],(RN [34] 34 t 1).2.1,(RN [34] 34 t 1).2.2)else if 255<(RN [34] 34 t 1).1.length then([],0,40)else((RN [34] 34 t 1).1,(RN [34] 34 t 1).2.1+1,0):=by
 unfold BN RN;rw[hc];simp only;rw[if_neg (by simp),show t.length+1-1=t.length by omega]
def Po (t:List UInt8):Bool:=decide (t[1]?=some 94)
def FD (t:List UInt8):Nat:=if Po t then 2 else 1
theorem RQ {t:List UInt8} (hc:t[0]?=some 91):1<=FD t/\FD t<=t.length:=by
 have hl:=(List.getElem?_eq_some_iff.1 hc).1;unfold FD Po;split
 ·rename_i h;have:=(List.getElem?_eq_some_iff.1 (of_decide_eq_true h)).1;omega
 ·omega
theorem Hx {t:List UInt8} (hc:t[0]?=some 91):Bx t=if (GN t (FD t)).2.2≠0 then(fun _=>false,(GN t (FD t)).2.1,(GN t (FD t)).2.2)else(fun k=>xor (Po t) (Bu (GN t (FD t)).1 k),(GN t (FD t)).2.1+1,0):=by
 have hs:=RQ hc;have e:GN t (FD t)=Bh t t.length (FD t):=by unfold GN;exact DZ t _ _ _ hs.2 (by omega) (by omega)
 rw[e];unfold Bx;rw[hc];simp only;rw[if_neg (by simp)];rfl
theorem RS {t u:List UInt8} {x:Wd} (h:Bf t=some x) (hg:Ag x.til t u) (hf:Fol x u):Bf u=some x:=by
 have hpos:=Jh h;have h0:=hg 0 hpos.1;unfold Bf at h ⊢;rw[h0];split at h
 ·cases h
 rename_i c hc
 (try rw[hc])
 (try simp only)
 split at h
 ·rename_i hle
  rw[if_pos hle];split at h
  ·rename_i h32
   cases h;simp only at hg hf
   obtain⟨r,rfl⟩:∃r,t=c::r:=by
    cases t with
    |nil=>simp at hc
    |cons d r=>simp at hc;exact⟨r,by rw[hc]⟩
   obtain⟨q,rfl⟩:∃q,u=c::q:=by
    rw[hc]at h0;cases u with
    |nil=>simp at h0
    |cons d r=>simp at h0;exact⟨r,by rw[h0]⟩
   have e:B0 (c::q)=B0 (c::r):=by
    simp only[B0,hle,if_true,List.length_cons]at hg hf ⊢;rw[Ji Ce r q (fun i hi=>by have:=hg (i+1) (by omega);simpa using this) (fun d hd=>hf.1 rfl d (by simpa using hd))]
   rw[e,if_pos h32]
  ·cases h
 rename_i hle
 rw[if_neg hle];split at h
 ·rename_i h123
  rw[if_pos h123];cases hq:Ci (t.drop 1)with
  |none=>rw[hq]at h;cases h
  |some y=>
   rw[hq]at h;cases h;rw[T2 hq ((hg.drop 1).mono (by simp only;omega))];rfl
 rename_i h123
 rw[if_neg h123];split at h
 ·rename_i h34
  rw[if_pos h34];split at h
  ·rename_i he
   cases h;simp only at hg;subst h34
   have e:BN u=BN t:=by
    have hcu:u[0]?=some 34:=by rw[h0];exact hc
    rw[Hw hc]at he hg;rw[Hw hcu,Hw hc];have hl:=(List.getElem?_eq_some_iff.1 hc).1;by_cases hn:(RN [34] 34 t 1).2.2≠0
    ·rw[if_pos hn]at he;exact absurd he hn
    rw[if_neg hn]at he hg;by_cases hm:255<(RN [34] 34 t 1).1.length
    ·rw[if_pos hm]at he;cases he
    rw[if_neg hm]at hg;rw[RO [34] 34 t u (t.length+1-1) 1 (by omega) (by omega) (by simpa[RN]using hn) hg];rfl
   rw[e,if_pos he]
  ·cases h
 rename_i h34
 rw[if_neg h34];split at h
 ·rename_i h91
  rw[if_pos h91];split at h
  ·rename_i he
   cases h;simp only at hg;subst h91
   have e:Bx u=Bx t:=by
    have hcu:u[0]?=some 91:=by rw[h0];exact hc
    rw[Hx hc]at he hg;rw[Hx hcu,Hx hc];have hs:=RQ hc;by_cases hn:(GN t (FD t)).2.2≠0
    ·rw[if_pos hn]at he;exact absurd he hn
    rw[if_neg hn]at hg;have hp:=(Hb t (t.length+1-FD t) (FD t) hs.2 (by omega) (by simpa[GN]using hn)).2;have e0:u[1]?=t[1]? :=hg 1 (show 1<(GN t (FD t)).2.1+1 from by unfold GN;omega);have eb:Po u=Po t:=by unfold Po;rw[e0]
    have ea:FD u=FD t:=by unfold FD;rw[eb]
    rw[eb,ea,LE t u (t.length+1-FD t) (FD t) hs.2 (by omega) (by simpa[GN]using hn) hg];rfl
   rw[e,if_pos he]
  ·cases h
 rename_i h91
 rw[if_neg h91];split at h
 ·rename_i h46
  rw[if_pos h46];exact h
 rename_i h46
 rw[if_neg h46];split at h
 ·rename_i h60
  rw[if_pos h60];split at h
  ·rename_i h1
   cases h;rw[if_pos (by rw[hg 1 (by simp)];exact h1)]
  ·rename_i h1
   cases h;rw[if_neg (hf.2 rfl)]
 rename_i h60
 rw[if_neg h60];exact h
open Go.RowKit
abbrev fnV (f:Nat):Value:=.func (.func f) #[] #[]
abbrev sgV (B:Nat):Value:=.func (.func 111) #[] #[.pointer (some ⟨B,0,none⟩)]
def sgn:List UInt8:=[47,38,33,63,42,43,40,41,60,62,58]
def RT (c:UInt8):Option Value:=if c=46 then some (fnV 95)else if c=91 then some (fnV 94)else if c=34 then some (fnV 93)else if c=123 then some (fnV 92)else none
def LG (Bs:Nat->Nat) (k:Nat) (c:UInt8):Option Value:=if c∈sgn.take k then some (sgV (Bs (sgn.idxOf c)))else RT c
theorem T3 (Bs:Nat->Nat) (k B:Nat) (hk:k<11) (c:UInt8):(if c=sgn[k]'hk then some (sgV B)else LG Bs k c)=LG (fun j=>if j=k then B else Bs j) (k+1) c:=by
 have hn:sgn.Nodup:=by decide
 have e:sgn.take (k+1)=sgn.take k++[sgn[k]'hk]:=by rw[List.take_succ_eq_append_getElem hk]
 unfold LG;rw[e];by_cases h:c=sgn[k]'hk
 ·subst h;rw[if_pos rfl,if_pos (by simp),hn.idxOf_getElem k hk];show _=some (sgV (if k=k then B else Bs k));rw[if_pos rfl]
 ·rw[if_neg h];by_cases h2:c∈sgn.take k
  ·rw[if_pos h2,if_pos (by simp[h2])]
   have h3:sgn.idxOf c≠k:=fun e=>h (by
    have h4:c∈sgn:=List.mem_of_mem_take h2;have h5:=List.getElem_idxOf (List.idxOf_lt_length_of_mem h4);rw[<-h5];congr 1)
   show _=some (sgV (if sgn.idxOf c=k then B else Bs (sgn.idxOf c)));rw[if_neg h3]
  ·rw[if_neg h2,if_neg (by simp[h,h2])]
def g0 (Bs:Nat->Nat) (c:UInt8):Option Value:=if c=60 then some (fnV 97)else LG Bs 11 c
def EE (Bs:Nat->Nat) (k:Nat) (c:UInt8):Option Value:=if c.toNat<k/\AO c.toNat=true then some (fnV 98)else g0 Bs c
theorem Vs (Bs:Nat->Nat) (k:Nat) (hk:k<256) (hl:AO k=true) (c:UInt8):(if c=UInt8.ofNat k then some (fnV 98)else EE Bs k c)=EE Bs (k+1) c:=by
 have hn:(UInt8.ofNat k).toNat=k:=by simp;omega
 unfold EE;by_cases h:c=UInt8.ofNat k
 ·rw[if_pos h,if_pos ⟨by rw[h,hn];omega,by rw[h,hn];exact hl⟩]
 ·rw[if_neg h];have h2:c.toNat≠k:=fun e=>h (UInt8.toNat_inj.1 (by rw[hn,e]))
  by_cases h3:c.toNat<k/\AO c.toNat=true
  ·rw[if_pos h3,if_pos ⟨by omega,h3.2⟩]
  ·rw[if_neg h3,if_neg (fun h4=>h3 ⟨by omega,h4.2⟩)]
theorem WR (Bs:Nat->Nat) (k:Nat) (hl:AO k=false) (c:UInt8):EE Bs k c=EE Bs (k+1) c:=by
 unfold EE;by_cases h2:c.toNat=k
 ·rw[if_neg (fun h=>by omega),if_neg (fun h=>by rw[h2,hl]at h;simp at h)]
 ·by_cases h3:c.toNat<k/\AO c.toNat=true
  ·rw[if_pos h3,if_pos ⟨by omega,h3.2⟩]
  ·rw[if_neg h3,if_neg (fun h4=>h3 ⟨by omega,h4.2⟩)]
structure Reads (w:World) (base m:Nat) (Bs:Nat->Nat):Prop where
 map:BMap w m 300 (EE Bs 256)
 box:∀j,j<11->base<=Bs j/\w.heap[Bs j]?=some (.cells #[.int .u8 ((3+j:Nat):Int)] 5 (0,0))
theorem WS (k:Nat) (hk:k<11) (h:k<(⟨#[47,38,33,63,42,43,40,41,60,62,58]⟩:ByteArray).size):(((⟨#[47,38,33,63,42,43,40,41,60,62,58]⟩:ByteArray)[k]).toNat:Int)=((sgn[k]'hk).toNat:Int):=rfl
set_option maxRecDepth 100000 in
set_option maxHeartbeats 2000000 in
theorem NL (w:World):Calls Tryz.prog 79 #[] w fun e w'=>∃m Bs,e=.returned (.map (some m))/\Reads w' w.heap.size m Bs/\Below w.heap.size w w'/\w.heap.size<=m:=by
 have hmm:=@run_makeMap Tryz.prog;have HM0:=qd (BMap.made w);go_enter Tryz.func79,Tryz.ntmps79
 go_wp2_with (first
  |(refine Bj rfl _ _ _ _ rfl 151 Tryz.underlying147 _ _ _ rfl HM0.out (by decide) 123 _ rfl rfl (fnV 92) rfl ?_;intro w1 HM1 HG1)
  |(refine Bj rfl _ _ _ _ rfl 151 Tryz.underlying147 _ _ _ rfl HM1.out (by decide) 34 _ rfl rfl (fnV 93) rfl ?_;intro w2 HM2 HG2)
  |(refine Bj rfl _ _ _ _ rfl 151 Tryz.underlying147 _ _ _ rfl HM2.out (by decide) 91 _ rfl rfl (fnV 94) rfl ?_;intro w3 HM3 HG3)
  |(refine Bj rfl _ _ _ _ rfl 151 Tryz.underlying147 _ _ _ rfl HM3.out (by decide) 46 _ rfl rfl (fnV 95) rfl ?_;intro w4 HM4 HG4)
  |fail)
 have HB:=qd ((HM4.out.mono (show 0+1+1+1+1<=4+0 by decide)).ext (g:=LG (fun _=>0) 0) (fun c=>by simp[LG,RT]));have HG:=qd (((HG1.out.trans HG2.out).trans HG3.out).trans HG4.out);clear HM0 HM1 HM2 HM3 HM4 HG1 HG2 HG3 HG4;have HB0:=qd (Jd HG.out);have HLT:=qd HB.out.lt;go_loopw [2] (fun i wr=>∃(k:Nat) (Bs:Nat->Nat),k<=11/\i=.int .i64 (k:Int)/\Hid (BMap wr w.heap.size (4+k) (LG Bs k))/\Hid (∀j,j<k->w.heap.size<Bs j/\wr.heap[Bs j]?=some (.cells #[.int .u8 ((3+j:Nat):Int)] 5 (0,0)))/\Hid (Below w.heap.size w wr)) (fun i _=>11-(intOf i).toNat)
 case atStart=>exact⟨0,fun _=>0,by omega,rfl,HB,qd (fun j hj=>by omega),HB0⟩
 case round=>
  clear HB HG HB0;obtain⟨k,Bs,hk,rfl,HB,HX,HW⟩:=hrel;by_cases hlt:k<11
  ·have i1:(k:Int)<11:=by omega
   have i2:(0:Int)<=(k:Int):=by omega
   have i3:IntKind.u8.wrap (k:Int)=(k:Int):=by rw[show IntKind.u8.wrap (k:Int)=(k:Int)%256 by simp[IntKind.wrap,IntKind.signed,IntKind.bits]];omega
   go_upto_region 5 with(fail)
   have i4:IntKind.u8.wrap (3+(k:Int))=3+(k:Int):=by rw[show IntKind.u8.wrap (3+(k:Int))=(3+(k:Int))%256 by simp[IntKind.wrap,IntKind.signed,IntKind.bits]];omega
   have HBD:=qd (((HB.out.below (bx1 wr (.cells #[.int .u8 (3+(k:Int))] 5))).kept (Jc _ none) (by simp)));have HKY:=qd (WS k hlt (by show k<11;exact hlt));have hn4:4+k<maxLen:=by unfold maxLen;omega
   obtain⟨w5,hrun,h5,hg5⟩:=HBD.out.store (t:=147) (e:=151) Tryz.underlying147 hn4 (sgn[k]'hlt) (sgV wr.heap.size);rw[<-HKY.out]at hrun;have HB5:=qd h5;have HG5:=qd hg5;clear h5 hg5
   go_region_held3 (fun _=>True) (trivial) (first
    |(go_at_call 96;refine(WW _ _).mono ?_;rintro e w' ⟨rfl,rfl⟩)
    |fail)
   all_goals
    have HX5:=qd (show ∀j,j<k+1->w.heap.size<(if j=k then wr.heap.size else Bs j)/\w5.heap[(if j=k then wr.heap.size else Bs j)]?=some (.cells #[.int .u8 ((3+j:Nat):Int)] 5 (0,0))from fun j hj=>by
     by_cases h:j=k
     ·subst h;rw[if_pos rfl];have hl:w.heap.size<wr.heap.size:=HB.out.lt;exact⟨hl,(HG5.out.block _ (by show wr.heap.size<(wr.alloc _).heap.size;simp) (by simp;omega)).trans (Ad wr _)⟩
     ·rw[if_neg h];obtain⟨h1,h2⟩:=HX.out j (by omega);have hl:=(Array.getElem?_eq_some_iff.1 h2).1;exact⟨h1,(HG5.out.block _ (by show Bs j<(wr.alloc _).heap.size;simp;omega) (by simp;omega)).trans (A7 h2)⟩)
    have HW5:=qd (((HW.out.alloc HW.out.size _).drew).grown HG5.out (by show w.heap.size<=(wr.alloc _).heap.size;simp;have:=HW.out.size;omega) (fun j hj=>by cases hj;exact Nat.le_refl _));have HB6:=qd ((HB5.out.ext (fun c=>T3 Bs k wr.heap.size hlt c)));clear HBD HKY hrun HB5 HG5;go_wp2_with fail
    exact⟨⟨k+1,_,by omega,by go_num,HB6,HX5,HW5⟩,by simp only[intOf];omega⟩
  ·have hke:k=11:=by omega
   subst hke
   go_wp2_with (first
    |(at_mapUpdate;refine Ea rfl _ _ _ _ rfl 151 Tryz.underlying147 _ _ _ rfl HB.out (by decide) 60 _ rfl rfl (fnV 97) rfl ?_;intro w5 HB5 HG5)
    |fail)
   have HB6:=qd (HB5.out.ext (g:=EE Bs 0) (fun c=>by
    show(if c=60 then some (fnV 97)else LG Bs 11 c)=EE Bs 0 c;unfold EE;rw[if_neg (show ¬(c.toNat<0/\AO c.toNat=true)from fun h=>Nat.not_lt_zero _ h.1)];rfl))
   have HX5:=qd (show ∀j,j<11->w.heap.size<=Bs j/\w5.heap[Bs j]?=some (.cells #[.int .u8 ((3+j:Nat):Int)] 5 (0,0))from fun j hj=>by
    obtain⟨h1,h2⟩:=HX.out j hj;exact⟨by omega,(HG5.out.block _ (Array.getElem?_eq_some_iff.1 h2).1 (by simp;omega)).trans h2⟩)
   have HW5:=qd (HW.out.grown HG5.out HW.out.size (fun j hj=>by cases hj;exact Nat.le_refl _));have HNB:=qd (show ∀j,j<11->Bs j≠w.heap.size from fun j hj=>by have:=(HX.out j hj).1;omega);clear HB HX HW HB5 HG5;go_loopw [18] (fun i wx=>∃(k:Nat),k<=256/\i=.int .i64 (k:Int)/\Hid (BMap wx w.heap.size (4+11+1+k) (EE Bs k))/\Hid (∀j,j<11->w.heap.size<=Bs j/\wx.heap[Bs j]?=some (.cells #[.int .u8 ((3+j:Nat):Int)] 5 (0,0)))/\Hid (Below w.heap.size w wx)) (fun i _=>256-(intOf i).toNat)
   case atStart=>exact⟨0,by omega,rfl,HB6,HX5,HW5⟩
   case round=>
    clear HB6 HX5 HW5 hlt hk;rename World=>wz
    obtain⟨k,hk,rfl,HB,HX,HW⟩:=hrel;by_cases hlt:k<256
    ·have i1:(k:Int)<256:=by omega
     have i3:IntKind.u8.wrap (k:Int)=(k:Int):=by rw[show IntKind.u8.wrap (k:Int)=(k:Int)%256 by simp[IntKind.wrap,IntKind.signed,IntKind.bits]];omega
     have HBN:=qd (show(UInt8.ofNat k).toNat=k from by simp;omega);cases hl:AO (k:Int)
     ·have HL:=qd hl;have HB2:=qd ((HB.out.ext (WR Bs k (by exact_mod_cast hl))).mono (show 4+11+1+k<=4+11+1+(k+1)by omega));clear hl
      go_wp2_with (first
       |(go_at_call 85;refine(Eh (k:Int) _).mono ?_;rintro e w' ⟨rfl,rfl⟩;rw[HL.out])
       |fail)
      exact⟨⟨k+1,by omega,by go_num,HB2,HX,HW⟩,by simp only[intOf];omega⟩
     ·have HL:=qd hl;have hn3:4+11+1+k<maxLen:=by unfold maxLen;omega
      go_wp2_with (first
       |(go_at_call 85;refine(Eh (k:Int) _).mono ?_;rintro e w' ⟨rfl,rfl⟩;rw[HL.out])
       |(at_mapUpdate;refine Ea rfl _ _ _ _ rfl 151 Tryz.underlying147 _ _ _ rfl HB.out hn3 (UInt8.ofNat k) _ (show((UInt8.ofNat k).toNat:Int)=(k:Int)from congrArg _ HBN.out) rfl (fnV 98) rfl ?_;intro w6 HB6 HG6)
       |fail)
      have HB7:=qd (HB6.out.ext (Vs Bs k hlt (by exact_mod_cast hl)));refine⟨⟨k+1,by omega,by go_num,HB7,qd fun j hj=> ?_,qd (HW.out.grown HG6.out HW.out.size (fun j hj=>by cases hj;exact Nat.le_refl _))⟩,by simp only[intOf];omega⟩;obtain⟨h1,h2⟩:=HX.out j hj;exact⟨h1,(HG6.out.block _ (Array.getElem?_eq_some_iff.1 h2).1 (by have:=HNB.out j hj;simp;omega)).trans h2⟩
    ·have hke:k=256:=by omega
     subst hke;go_wp2_with fail
     go_ret;exact⟨_,Bs,rfl,⟨HB.out.mono (by decide),HX.out⟩,HW.out,Nat.le_refl _⟩
section
variable {F:Fence} {n:Nat} {P:Program}
def KC:Obj->Bool
 |.loop _=>true
 |.deferred _=>true
 |_=>false
def X6 (W0 W1 W':World):Prop:=∀k,W0.heap.size<=k->k<W1.heap.size->W'.heap[k]?=W1.heap[k]?
theorem QE {A B:World} {l:Nat} {o:Obj} (h:Below A.heap.size A B) (hl:l<A.heap.size):Below (A.putObj l o).heap.size (A.putObj l o) (B.putObj l o):=by
 have e1:(A.putObj l o).heap.size=A.heap.size:=by simp[World.putObj]
 have e2:(B.putObj l o).heap.size=B.heap.size:=by simp[World.putObj]
 refine⟨h.os,h.tape,h.output,by rw[e1,e2];exact h.size,fun k hk=> ?_⟩;rw[e1]at hk;by_cases hkl:k=l
 ·subst hkl;rw[World.putObj_heap_same hk,World.putObj_heap_same (Nat.lt_of_lt_of_le hk h.size)]
 ·rw[World.putObj_heap_other hkl,World.putObj_heap_other hkl];exact h.block k hk
def Xq {α:Type} (F:Fence) (n:Nat) (P:Program) (g:Nat) (lb:Array Value) (encs:α->Array Value) (At:List α×α->Prop) (Kp:World->World->Prop) (S:List α->Prop) (w0:World):Prop:=
 ∀(l:Nat) (J Jx:List α->World->Prop) (W:World),Below w0.heap.size w0 W ->
  (∀s A B,J s A->Below A.heap.size A B->J s B)->(∀s A B,Jx s A->Below A.heap.size A B->Jx s B) ->
  (∀pre x W0 W1,J pre W0->Below W0.heap.size W0 W1->At (pre,x)->YieldAt F (n-1) P l (encs x) W1 fun e W'=>
   (e=.returned (.bool true)/\J (pre++[x]) W'/\Kp W1 W'/\X6 W0 W1 W')\/(e=.returned (.bool false)/\Jx (pre++[x]) W')) ->
  J [] W ->
  CallsIn F n P g (#[.func (.yield l) #[] #[]]++lb) W fun e W'=>(∃v,e=.returned v)/\((∃xs,S xs/\J xs W')\/(∃pre,Jx pre W'))
def X7 {α:Type} (B:Nat) (Kp:World->World->Prop) (I:List α->World->Prop) (Ix:Code->List α->World->Prop) (xs:List α) (W0 W:World):Exit->Act->World->Prop
 |.normal,_,W'=>KeepsFrom B W W'/\Kp W W'/\X6 W0 W W'/\I xs W'
 |.ret,_,W'=>KeepsFrom B W W'/\Ix .ret xs W'
 |.exit id,_,W'=>KeepsFrom B W W'/\Ix (.exit id) xs W'
 |.goto t,_,W'=>KeepsFrom B W W'/\Ix (.goto t) xs W'
 |.panic _,_,_=>False
 |.outgrown,_,_=>False
end
end Go.Proofs.YtdnochjajoiooaaGreatDoor
