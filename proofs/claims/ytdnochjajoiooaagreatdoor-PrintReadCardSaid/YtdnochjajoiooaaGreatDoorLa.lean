/- Plain laws of reading signs, literals and classes (layer 3) and words (layer 6): lists of bytes, no program in sight. -/
import Derived.Test.YtdnochjajoiooaaGreatDoorQb
namespace Go.Proofs.YtdnochjajoiooaaGreatDoor
set_option linter.unusedSimpArgs false
set_option linter.unusedVariables false
inductive SR where
 |ok (b:UInt8) (n:Nat)
 |no (p:Nat) (e:Nat)
deriving DecidableEq
def Gr (b:UInt8):Option Nat:=
 if 48<=b.toNat/\b.toNat<=57 then some (b.toNat-48)
 else if 97<=b.toNat/\b.toNat<=102 then some (b.toNat-87)
 else if 65<=b.toNat/\b.toNat<=70 then some (b.toNat-55)else none
theorem NF {b:UInt8} {x:Nat} (h:Gr b=some x):x<16:=by
 unfold Gr at h;split at h
 ·cases h;omega
 split at h
 ·cases h;omega
 split at h
 ·cases h;omega
 ·cases h
def EJ (t:List UInt8) (a:Nat):SR:=
 match t[a]? with
 |none=>.no t.length 8
 |some c=>match Gr c with
  |none=>.no a 4
  |some x=>match t[a+1]? with
   |none=>.no t.length 8
   |some d=>match Gr d with
    |none=>.no (a+1) 4
    |some y=>.ok (UInt8.ofNat (16*x+y)) (a+2)
def DF (left:List UInt8) (c:UInt8):Option UInt8:=
 if c∈left then some c else if c=110 then some 10 else if c=114 then some 13 else if c=116 then some 9 else if c=92 then some 92 else none
def AQ (left:List UInt8) (t:List UInt8) (a:Nat):SR:=
 match t[a]? with
 |none=>.no t.length 8
 |some b=>
  if b=92 then
   (match t[a+1]? with
    |none=>.no t.length 8
    |some c=>match DF left c with
     |some v=>.ok v (a+2)
     |none=>if c=120 then EJ t (a+2)else .no (a+1) 4)
  else if Eo b left then .ok b (a+1)else .no a 4
theorem NG {t:List UInt8} {a n:Nat} {b:UInt8} (h:EJ t a=.ok b n):n=a+2/\n<=t.length:=by
 unfold EJ at h;split at h
 ·cases h
 split at h
 ·cases h
 split at h
 ·cases h
 rename_i d hd
 split at h
 ·cases h
 ·cases h;have:=(List.getElem?_eq_some_iff.1 hd).1;exact⟨rfl,by omega⟩
theorem WG {t:List UInt8} {a p e:Nat} (h:EJ t a=.no p e):(e=8/\p=t.length)\/(e=4/\a<=p/\p<t.length):=by
 unfold EJ at h;split at h
 ·cases h;exact .inl ⟨rfl,rfl⟩
 rename_i c hc
 have hc:=(List.getElem?_eq_some_iff.1 hc).1;split at h
 ·cases h;exact .inr ⟨rfl,by omega,hc⟩
 split at h
 ·cases h;exact .inl ⟨rfl,rfl⟩
 rename_i d hd
 have hd:=(List.getElem?_eq_some_iff.1 hd).1;split at h
 ·cases h;exact .inr ⟨rfl,by omega,hd⟩
 ·cases h
theorem Ch {left t:List UInt8} {a n:Nat} {b:UInt8} (h:AQ left t a=.ok b n):a<n/\n<=t.length:=by
 unfold AQ at h;split at h
 ·cases h
 rename_i c hc
 have hc:=(List.getElem?_eq_some_iff.1 hc).1;split at h
 ·split at h
  ·cases h
  rename_i d hd
  have hd:=(List.getElem?_eq_some_iff.1 hd).1;split at h
  ·cases h;exact⟨by omega,by omega⟩
  split at h
  ·have:=NG h;omega
  ·cases h
 ·split at h
  ·cases h;exact⟨by omega,by omega⟩
  ·cases h
theorem D5 {left t:List UInt8} {a p e:Nat} (h:AQ left t a=.no p e):(e=8/\p=t.length)\/(e=4/\a<=p/\p<t.length):=by
 unfold AQ at h;split at h
 ·cases h;exact .inl ⟨rfl,rfl⟩
 rename_i c hc
 have hc:=(List.getElem?_eq_some_iff.1 hc).1;split at h
 ·split at h
  ·cases h;exact .inl ⟨rfl,rfl⟩
  rename_i d hd
  have hd:=(List.getElem?_eq_some_iff.1 hd).1;split at h
  ·cases h
  split at h
  ·rcases WG h with h|⟨h1,h2,h3⟩
   ·exact .inl h
   ·exact .inr ⟨h1,by omega,h3⟩
  ·cases h;exact .inr ⟨rfl,by omega,hd⟩
 ·split at h
  ·cases h
  ·cases h;exact .inr ⟨rfl,by omega,hc⟩
def Fl (left:List UInt8) (en:UInt8) (t:List UInt8):Nat->Nat->List UInt8×Nat×Nat
 |0,a=>([],a,0)
 |f+1,a=>
  if t[a]?=some en then([],a,0)
  else match AQ left t a with
   |.no p e=>([],p,e)
   |.ok b n=>(b::(Fl left en t f n).1,(Fl left en t f n).2)
def BN (t:List UInt8):List UInt8×Nat×Nat:=
 match t[0]? with
 |none=>([],0,8)
 |some c=>
  if c≠34 then([],0,4)
  else
   let r:=Fl [34] 34 t t.length 1
   if r.2.2≠0 then([],r.2.1,r.2.2)else if 255<r.1.length then([],0,40)else(r.1,r.2.1+1,0)
abbrev Bp:List UInt8:=[93,45,94]
def CB (t:List UInt8) (a:UInt8) (n:Nat):SR:=if t[n]?=some 45 then AQ Bp t (n+1)else .ok a n
def Bh (t:List UInt8):Nat->Nat->List (UInt8×UInt8)×Nat×Nat
 |0,a=>([],a,0)
 |f+1,a=>
  if t[a]?=some 93 then([],a,0)
  else match AQ Bp t a with
   |.no p e=>([],p,e)
   |.ok b n=>match CB t b n with
    |.no p e=>([],p,e)
    |.ok c m=>if c.toNat<b.toNat then([],a,4)else((b,c)::(Bh t f m).1,(Bh t f m).2)
def Bu (l:List (UInt8×UInt8)) (k:Nat):Bool:=l.any fun r=>decide (r.1.toNat<=k/\k<=r.2.toNat)
def IY (f:Nat->Bool) (i:Nat):Nat->Nat
 |0=>0
 |n+1=>IY f i n+if f (i*64+n)then 2^n else 0
def Af (f:Nat->Bool) (i:Nat):Nat:=IY f i 64
def Bx (t:List UInt8):(Nat->Bool)×Nat×Nat:=
 match t[0]? with
 |none=>(fun _=>false,0,8)
 |some c=>
  if c≠91 then(fun _=>false,0,4)
  else
   let but:=decide (t[1]?=some 94)
   let r:=Bh t t.length (if but then 2 else 1)
   if r.2.2≠0 then(fun _=>false,r.2.1,r.2.2)else(fun k=>xor but (Bu r.1 k),r.2.1+1,0)
structure Wd where
 kind:Nat
 frm:Nat
 til:Nat
 text:List UInt8
 s0:Nat
 s1:Nat
 s2:Nat
 s3:Nat
 low:Int
 high:Int
deriving DecidableEq
def GT (c:UInt8):Bool:=c=32||c=9||c=13||c=10
def B3:Bool->List UInt8->Nat
 |_,[]=>0
 |true,c::r=>1+B3 (c != 10) r
 |false,c::r=>if c=35 then 1+B3 true r else if GT c then 1+B3 false r else 0
theorem IZ:∀(b:Bool) (l:List UInt8),B3 b l<=l.length
 |_,[]=>by simp[B3]
 |true,c::r=>by have:=IZ (c != 10) r;simp only[B3,List.length_cons];omega
 |false,c::r=>by
  have h1:=IZ true r;have h2:=IZ false r;simp only[B3,List.length_cons];split
  ·omega
  split <;> omega
def DX (c:UInt8):Option Nat:=
 if c=47 then some 3 else if c=38 then some 4 else if c=33 then some 5 else if c=63 then some 6 else if c=42 then some 7 else if c=43 then some 8
 else if c=40 then some 9 else if c=41 then some 10 else if c=62 then some 12 else if c=58 then some 13 else none
def Ci (l:List UInt8):Option (Nat×Int×Int):=
 let c:=Bq 125 l
 if c.2.2=false then none
 else
  let d:=Bq 44 c.1
  let lo:=CM d.1 99
  if lo.2≠0 then none
  else if d.2.2=false then some (c.1.length,lo.1,lo.1)
  else if d.2.1=[]then some (c.1.length,lo.1, -1)
  else
   let hi:=CM d.2.1 99
   if hi.2≠0\/hi.1<lo.1 then none else some (c.1.length,lo.1,hi.1)
def FX:Nat:=18446744073709551615
def Bf (t:List UInt8):Option Wd:=
 match t[0]? with
 |none=>none
 |some c=>
  if AO c.toNat then
   (if (B0 t).length<=32 then some ⟨1,0,(B0 t).length,B0 t,0,0,0,0,0,0⟩else none)
  else if c=123 then(Ci (t.drop 1)).map fun x=>⟨14,0,x.1+2,[],0,0,0,0,x.2.1,x.2.2⟩
  else if c=34 then(if (BN t).2.2=0 then some ⟨15,0,(BN t).2.1,(BN t).1,0,0,0,0,0,0⟩else none)
  else if c=91 then(if (Bx t).2.2=0 then some ⟨16,0,(Bx t).2.1,[],Af (Bx t).1 0,Af (Bx t).1 1,Af (Bx t).1 2,Af (Bx t).1 3,0,0⟩else none)
  else if c=46 then some ⟨16,0,1,[],FX,FX,FX,FX,0,0⟩
  else if c=60 then(if t[1]?=some 45 then some ⟨2,0,2,[],0,0,0,0,0,0⟩else some ⟨11,0,1,[],0,0,0,0,0,0⟩)
  else(DX c).map fun k=>⟨k,0,1,[],0,0,0,0,0,0⟩
def B9 (s:List UInt8) (a:Nat):Option Wd:=(Bf (s.drop a)).map fun w=>{w with frm:=a,til:=a+w.til}
def A9 (s:List UInt8) (a:Nat):Nat:=a+B3 false (s.drop a)
def DY (s:List UInt8):Nat->Nat->List Wd×Option Nat
 |0,_=>([],none)
 |f+1,a=>
  if s.length<=a then([],none)
  else match B9 s a with
   |none=>([],some a)
   |some w=>(w::(DY s f (A9 s w.til)).1,(DY s f (A9 s w.til)).2)
def AD (s:List UInt8):List Wd×Nat×Nat:=
 if 65536<s.length then([],65536,40)
 else match (DY s (s.length+1) (A9 s 0)).2 with
  |some p=>([],p,4)
  |none=>((DY s (s.length+1) (A9 s 0)).1,0,0)
end Go.Proofs.YtdnochjajoiooaaGreatDoor
/- Plain laws of these:enough fuel;what lies behind does not matter. -/
namespace Go.Proofs.YtdnochjajoiooaaGreatDoor
set_option linter.unusedSimpArgs false
set_option linter.unusedVariables false
theorem Kq (left:List UInt8) (en:UInt8) (t:List UInt8):∀(f g a:Nat),a<=t.length->t.length<a+f->t.length<a+g->Fl left en t f a=Fl left en t g a
 |0,_,a,ha,hf,_=>by omega
 |_,0,a,ha,_,hg=>by omega
 |f+1,g+1,a,ha,hf,hg=>by
  simp only[Fl];split
  ·rfl
  cases e:AQ left t a with
  |no p e=>rfl
  |ok b n=>
   have h:=Ch e;simp only;rw[Kq left en t f g n h.2 (by omega) (by omega)]
def RN (left:List UInt8) (en:UInt8) (t:List UInt8) (a:Nat):List UInt8×Nat×Nat:=Fl left en t (t.length+1-a) a
theorem Q4 {left:List UInt8} {en:UInt8} {t:List UInt8} {a:Nat} (h:t[a]?=some en):RN left en t a=([],a,0):=by
 have hl:=(List.getElem?_eq_some_iff.1 h).1;unfold RN;obtain⟨k,hk⟩:∃k,t.length+1-a=k+1:=⟨t.length-a,by omega⟩;rw[hk,Fl,if_pos h]
theorem Ya {left:List UInt8} {en:UInt8} {t:List UInt8} {a p e:Nat} (ha:a<=t.length) (h:t[a]? ≠ some en) (hs:AQ left t a=.no p e):RN left en t a=([],p,e):=by
 unfold RN;obtain⟨k,hk⟩:∃k,t.length+1-a=k+1:=⟨t.length-a,by omega⟩;rw[hk,Fl,if_neg h,hs]
theorem UY {left:List UInt8} {en:UInt8} {t:List UInt8} {a n:Nat} {b:UInt8} (h:t[a]? ≠ some en) (hs:AQ left t a=.ok b n):RN left en t a=(b::(RN left en t n).1,(RN left en t n).2):=by
 have hl:=Ch hs;unfold RN;obtain⟨k,hk⟩:∃k,t.length+1-a=k+1:=⟨t.length-a,by omega⟩;rw[hk,Fl,if_neg h,hs];simp only;rw[Kq left en t k (t.length+1-n) n hl.2 (by omega) (by omega)]
theorem JM (left:List UInt8) (en:UInt8) (t:List UInt8):∀(f a:Nat),a<=t.length->t.length<a+f->(Fl left en t f a).1.length+a<=t.length/\((Fl left en t f a).2.2=0->t[(Fl left en t f a).2.1]?=some en/\a+(Fl left en t f a).1.length<=(Fl left en t f a).2.1)
 |0,a,ha,hf=>by omega
 |f+1,a,ha,hf=>by
  simp only[Fl];split
  ·rename_i h
   exact⟨by simpa using ha,fun _=>⟨h,by simp⟩⟩
  cases e:AQ left t a with
  |no p e=>
   have:=D5 (by assumption);exact⟨by simpa using ha,fun h=>by simp only at h;omega⟩
  |ok b n=>
   have h:=Ch e;have ih:=JM left en t f n h.2 (by omega);simp only[List.length_cons];refine⟨by omega,fun h0=> ?_⟩;have:=ih.2 h0;exact⟨this.1,by omega⟩
theorem Fm {t:List UInt8} {a b:UInt8} {n m:Nat} (hn:n<=t.length) (h:CB t a n=.ok b m):n<=m/\m<=t.length:=by
 unfold CB at h;split at h
 ·have:=Ch h;omega
 ·cases h;exact⟨by omega,hn⟩
theorem Ja {t:List UInt8} {a:UInt8} {n p e:Nat} (h:CB t a n=.no p e):(e=8/\p=t.length)\/(e=4/\n<=p/\p<t.length):=by
 unfold CB at h;split at h
 ·rcases D5 h with h|h
  ·exact .inl h
  ·exact .inr ⟨h.1,by omega,h.2.2⟩
 ·cases h
theorem DZ (t:List UInt8):∀(f g a:Nat),a<=t.length->t.length<a+f->t.length<a+g->Bh t f a=Bh t g a
 |0,_,a,ha,hf,_=>by omega
 |_,0,a,ha,_,hg=>by omega
 |f+1,g+1,a,ha,hf,hg=>by
  simp only[Bh];split
  ·rfl
  cases e:AQ Bp t a with
  |no p e=>rfl
  |ok b n=>
   have h:=Ch e;simp only;cases e2:CB t b n with
   |no p e=>rfl
   |ok c m=>
    have h2:=Fm h.2 e2;simp only;rw[DZ t f g m h2.2 (by omega) (by omega)]
def GN (t:List UInt8) (a:Nat):List (UInt8×UInt8)×Nat×Nat:=Bh t (t.length+1-a) a
theorem Q5 {t:List UInt8} {a:Nat} (h:t[a]?=some 93):GN t a=([],a,0):=by
 have hl:=(List.getElem?_eq_some_iff.1 h).1;unfold GN;obtain⟨k,hk⟩:∃k,t.length+1-a=k+1:=⟨t.length-a,by omega⟩;rw[hk,Bh,if_pos h]
theorem Yb {t:List UInt8} {a p e:Nat} (ha:a<=t.length) (h:t[a]? ≠ some 93) (hs:AQ Bp t a=.no p e):GN t a=([],p,e):=by
 unfold GN;obtain⟨k,hk⟩:∃k,t.length+1-a=k+1:=⟨t.length-a,by omega⟩;rw[hk,Bh,if_neg h,hs]
theorem WH {t:List UInt8} {a n p e:Nat} {b:UInt8} (ha:a<=t.length) (h:t[a]? ≠ some 93) (hs:AQ Bp t a=.ok b n) (hh:CB t b n=.no p e):GN t a=([],p,e):=by
 unfold GN;obtain⟨k,hk⟩:∃k,t.length+1-a=k+1:=⟨t.length-a,by omega⟩;rw[hk,Bh,if_neg h,hs];simp only[hh]
theorem WI {t:List UInt8} {a n m:Nat} {b c:UInt8} (ha:a<=t.length) (h:t[a]? ≠ some 93) (hs:AQ Bp t a=.ok b n) (hh:CB t b n=.ok c m) (hl:c.toNat<b.toNat):GN t a=([],a,4):=by
 unfold GN;obtain⟨k,hk⟩:∃k,t.length+1-a=k+1:=⟨t.length-a,by omega⟩;rw[hk,Bh,if_neg h,hs];simp only[hh,if_pos hl]
theorem R7 {t:List UInt8} {a n m:Nat} {b c:UInt8} (h:t[a]? ≠ some 93) (hs:AQ Bp t a=.ok b n) (hh:CB t b n=.ok c m) (hl:¬c.toNat<b.toNat):GN t a=((b,c)::(GN t m).1,(GN t m).2):=by
 have h1:=Ch hs;have h2:=Fm h1.2 hh;unfold GN;obtain⟨k,hk⟩:∃k,t.length+1-a=k+1:=⟨t.length-a,by omega⟩;rw[hk,Bh,if_neg h,hs];simp only[hh,if_neg hl];rw[DZ t k (t.length+1-m) m h2.2 (by omega) (by omega)]
theorem L6 (t:List UInt8):∀f a,a<=t.length->(Bh t f a).2.1<=t.length
 |0,a,ha=>ha
 |f+1,a,ha=>by
  simp only[Bh];split
  ·exact ha
  cases e:AQ Bp t a with
  |no p k=>rcases D5 e with h|h <;> simp only <;> omega
  |ok b n=>
   have h1:=Ch e;simp only;cases e2:CB t b n with
   |no p k=>rcases Ja e2 with h|h <;> simp only <;> omega
   |ok c m=>
    have h2:=Fm h1.2 e2;simp only;split
    ·exact ha
    ·exact L6 t f m h2.2
end Go.Proofs.YtdnochjajoiooaaGreatDoor
