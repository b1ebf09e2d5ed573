/- Plain: the law of ParseBrackets. Plain laws for LexBack: how words are written, and read back. Plain: the words of a tree's text, and what they denote. -/
import Derived.Test.YtdnochjajoiooaaGreatDoorSz
import Derived.Test.YtdnochjajoiooaaGreatDoorEc
import Derived.Test.YtdnochjajoiooaaGreatDoorDq
import Derived.Test.YtdnochjajoiooaaGreatDoorJi
import Derived.Test.YtdnochjajoiooaaGreatDoorLs
import Derived.Test.YtdnochjajoiooaaGreatDoorLk
import Derived.Test.YtdnochjajoiooaaGreatDoorKd
import Derived.Test.YtdnochjajoiooaaGreatDoorHg
namespace Go.Proofs.YtdnochjajoiooaaGreatDoor
set_option linter.unusedSimpArgs false
set_option linter.unusedVariables false
def I5 (F:Nat) (nm:List UInt8) (P:List TT) (o:Op):Op:={o with fin:=F,name:=nm,ways:=P++o.ways}
def Ie (F:Nat) (nm:List UInt8) (P:List TT) (rest:List Op):List Op->List Op
 |[]=>rest
 |[o]=>I5 F nm P o::rest
 |o::p::st=>o::Ie F nm P rest (p::st)
theorem VC (F:Nat) (nm:List UInt8) (P:List TT) (rest:List Op) (o p:Op) (st:List Op):Ie F nm P rest (o::p::st)=o::Ie F nm P rest (p::st):=rfl
theorem VD {F:Nat} {nm:List UInt8} {P:List TT} {rest:List Op} (p:Op) (st:List Op):∃q r,Ie F nm P rest (p::st)=q::r/\ ∀(W:List Wd) (i:Nat) (t:TT),(B8 W q i t).1::r=Ie F nm P rest ((B8 W p i t).1::st)/\(B8 W q i t).2=(B8 W p i t).2:=by
 cases st with
 |nil=>exact⟨I5 F nm P p,rest,rfl,fun W i t=>⟨rfl,rfl⟩⟩
 |cons a st=>exact⟨p,Ie F nm P rest (a::st),rfl,fun W i t=>⟨rfl,rfl⟩⟩
theorem VE {W:List Wd} {F:Nat} {nm:List UInt8} {P:List TT} {rest:List Op} {i i':Nat} {st st':List Op} {C C':List Nat} (h0:OO st) (h:AL W ⟨i,st,C⟩=.inl ⟨i',st',C'⟩):
  AL W ⟨i,Ie F nm P rest st,C⟩=.inl ⟨i',Ie F nm P rest st',C'⟩:=by
 cases st with
 |nil=>simp[AL]at h
 |cons top st=>
  cases st with
  |nil=>
   have hf:top.fin=0:=h0;simp only[AL]at h;simp only[Ie,AL];split at h
   ·rename_i h1
    injection h with h;injection h with e1 e2 e3
    subst e1 e2 e3;rw[if_pos h1];rfl
   rename_i h1;rw[if_neg h1]
   split at h
   ·rename_i h2
    injection h with h;injection h with e1 e2 e3
    subst e1 e2 e3;rw[if_pos h2];rfl
   rename_i h2;rw[if_neg h2]
   split at h
   ·rename_i h3
    injection h with h;injection h with e1 e2 e3
    subst e1 e2 e3;rw[if_pos h3];rfl
   rename_i h3;rw[if_neg h3]
   split at h
   ·rename_i h4
    rw[if_pos h4];split at h
    ·rename_i h5
     rw[if_pos h5];split at h
     ·rename_i h6
      injection h with h;injection h with e1 e2 e3
      subst e1 e2 e3;rw[if_pos h6];rfl
     ·cases h
    ·cases h
   rename_i h4;rw[if_neg h4]
   split at h
   ·cases h
   rename_i h5
   rw[if_neg (show ¬(I5 F nm P top).heads≠[]from h5)];split at h
   ·rename_i h6
    injection h with h;injection h with e1 e2 e3
    subst e1 e2 e3;rw[if_pos h6];simp[Ie,I5,CF]
   rename_i h6
   first
    |(rw[if_pos hf]at h;cases h;done)
    |(cases h;done)
    |(split at h <;> first|(cases h;done)|(rename_i h7;exact absurd hf h7))
  |cons p st=>
   simp only[AL]at h;simp only[VC,AL];split at h
   ·rename_i h1
    injection h with h;injection h with e1 e2 e3
    subst e1 e2 e3;rw[if_pos h1];rfl
   rename_i h1;rw[if_neg h1]
   split at h
   ·rename_i h2
    injection h with h;injection h with e1 e2 e3
    subst e1 e2 e3;rw[if_pos h2];rfl
   rename_i h2;rw[if_neg h2]
   split at h
   ·rename_i h3
    injection h with h;injection h with e1 e2 e3
    subst e1 e2 e3;rw[if_pos h3];rfl
   rename_i h3;rw[if_neg h3]
   split at h
   ·rename_i h4
    rw[if_pos h4];split at h
    ·rename_i h5
     rw[if_pos h5];split at h
     ·rename_i h6
      injection h with h;injection h with e1 e2 e3
      subst e1 e2 e3;rw[if_pos h6];rfl
     ·cases h
    ·cases h
   rename_i h4;rw[if_neg h4]
   split at h
   ·cases h
   rename_i h5;rw[if_neg h5]
   split at h
   ·rename_i h6
    injection h with h;injection h with e1 e2 e3
    subst e1 e2 e3;rw[if_pos h6];rfl
   rename_i h6;rw[if_neg h6]
   split at h
   ·cases h
   rename_i h7;rw[if_neg h7]
   split at h
   ·cases h
   rename_i h8;rw[if_neg h8]
   obtain⟨q,r,hq,hp⟩:=VD (F:=F) (nm:=nm) (P:=P) (rest:=rest) p st;rw[hq];simp only at h ⊢;injection h with h;injection h with e1 e2 e3
   subst e1 e2 e3;obtain⟨g1,g2⟩:=hp W (i+1) (G3 top (C4 CT (CF top).ways));rw[g2,g1]
theorem QL {W:List Wd} {s:PS} {j:Nat} {t:TT} (h:AL W s=.inr (.done j t)):j=s.i:=by
 unfold AL at h;repeat' split at h
 all_goals first|(cases h;done)|(cases h;rfl)
theorem NQ {A V Z:List Wd} (hz:DU Z) (hW:∀x∈V,Cw x) {F:Nat} {nm:List UInt8} {P:List TT} {rest:List Op} (D:List Nat):∀(f:Nat) (s:PS),s.i<=V.length->MD (fun _ t=>BL t) s.calls s.st-> ∀t C,Id V f s=(.done V.length t,C) ->
  ∃top:Op,top.heads=[]/\t=C4 CT (CF top).ways/\(BL t/\ ∀x∈(CF top).ways,BL x) /\
   goP (A++(V++Z)) ⟨A.length+s.i,Ie F nm P rest s.st,D++s.calls.map (A.length + ·)⟩=goP (A++(V++Z)) ⟨A.length+V.length,I5 F nm P top::rest,D++C.map (A.length + ·)⟩
 |0,s,hi,hg,t,C,h=>by simp[Id]at h
 |f+1,s,hi,hg,t,C,h=>by
  rw[Id]at h;cases hs:AL V s with
  |inl s'=>
   rw[hs]at h;have hl:s.i<V.length:=by have:=IR hs;omega
   obtain⟨top,h1,h2,h3,h4⟩:=NQ hz hW (F:=F) (nm:=nm) (P:=P) (rest:=rest) D f s' (IR hs).2 (MG (Ht hW) hW hg hs) t C h;refine⟨top,h1,h2,h3,?_⟩;rw[<-h4];have e1:AL (V++Z) s=.inl s':=(SW hz hl (by rw[hs];intro k e;cases e)).trans hs;have e2:AL (V++Z) ⟨s.i,Ie F nm P rest s.st,s.calls⟩=.inl ⟨s'.i,Ie F nm P rest s'.st,s'.calls⟩:=VE hg.1 e1;have e3:=Qt A (V++Z) D ⟨s.i,Ie F nm P rest s.st,s.calls⟩;rw[e2]at e3;exact EH (by simp only[List.length_append];omega) e3
  |inr r=>
   rw[hs]at h;obtain⟨i,st,C'⟩:=s;simp only[Prod.mk.injEq]at h;obtain⟨rfl,rfl⟩:=h;obtain rfl:V.length=i:=QL hs;obtain⟨_,top,r,rfl,hh,hf,rfl⟩:=UL (Nat.le_refl _) hs
   obtain rfl:r=[]:=by
    cases r with
    |nil=>rfl
    |cons p r=>
     have h1:(top.fin=10\/top.fin=12/\Cb top.name=true)/\OO (p::r):=hg.1;omega
   have hgt:=hg.2 top (by simp);refine⟨top,hh,rfl,⟨JK (Ht hW) (C:=C') (.inr rfl) (IW (Ht hW) hgt).1,(IW (Ht hW) hgt).1⟩,rfl⟩
theorem Pz {W:List Wd} {C:List Nat}:MD (fun _ t=>BL t) C [DS]:=⟨rfl,fun o ho=>by obtain rfl:=List.mem_singleton.1 ho;exact⟨by simp[DS],by simp[DS],by simp[DS]⟩⟩
def Ap (k:Nat):Wd:=⟨k,0,0,[],0,0,0,0,0,0⟩
structure Whole (V:List Wd) (t:TT):Prop where
 may:∀x∈V,Cw x
 run:(Dn V 0 []).1=.done V.length t
theorem P1 {k:Nat} {Z:List Wd} (h:k=10\/k=3):DU (Ap k::Z):=by
 rcases h with rfl|rfl <;> exact⟨by simp[kdW,Ap],by simp[kdW,Ap],by simp[kdW,Ap],by simp[kdW,Ap],by simp[kdW,Ap]⟩
theorem Ng:DU []:=⟨by simp[kdW],by simp[kdW],by simp[kdW],by simp[kdW],by simp[kdW]⟩
theorem RZ {Q:List Wd} {o:Op} {C:List Nat} (hf:o.fin=0) (hh:o.heads=[]):goP Q ⟨Q.length,[o],C⟩=(.done Q.length (C4 CT (CF o).ways),C):=by
 refine JH (Nat.le_refl _) ?_;have k0:kdW Q Q.length=0:=N4 (Nat.le_refl _);simp[AL,AU,k0,hh,hf]
theorem Nh (V:List Wd):Dn V 0 []=goP V ⟨0,[DS],[]⟩:=rfl
def Y3 (l:List TT):List TT:=(l.map Bo).flatMap (CU 5)
def BW (s:List UInt8) (V:List Wd):Prop:=s.length<=65536/\ ∃ls,AD s=(ls,0,0)/\ls.map Fx=V
theorem QM {s:List UInt8} {V:List Wd} {t:TT} (h:BW s V) (k:Whole V t):Ef s=if JF (Il t)then(Il t,0,0)else(⟨[],0⟩,s.length,40):=by
 obtain⟨_,ls,h1,rfl⟩:=h;have hb:A4 s=(ls,s.length,0):=by unfold A4;rw[h1];simp
 have hc:(Dn ls 0 []).1=.done ls.length t:=by rw[<-OU ls,k.run,List.length_map]
 unfold Ef;rw[hb];simp only[hc];by_cases hm:JF (Il t)=true
 ·simp[hm]
 ·simp[hm]
def EL (x:Wd):List Nat:=[x.s0,x.s1,x.s2,x.s3]
def I6 (lo hi:Int):List UInt8:=if hi=lo then[123]++Lib.itoa lo++[125]else if hi = -1 then[123]++Lib.itoa lo++[44,125]else[123]++Lib.itoa lo++[44]++Lib.itoa hi++[125]
def Ym (k:Nat):List UInt8:=[([47,38,33,63,42,43,40,41,60,62,58]:List UInt8).getD (k-3) 0]
def CH (x:Wd):List UInt8:=
 if x.kind=1 then x.text else if x.kind=2 then[60,45]else if x.kind=14 then I6 x.low x.high else if x.kind=15 then JS x.text
 else if x.kind=16 then C3 (Cz (EL x))else Ym x.kind
def small (x:Wd):Prop:=x.s0<18446744073709551616/\x.s1<18446744073709551616/\x.s2<18446744073709551616/\x.s3<18446744073709551616
theorem Ni (f:Nat->Bool) (x:Wd) (h:small x) (hf:∀k,k<256->f k=Cz (EL x) k):Af f 0=x.s0/\Af f 1=x.s1/\Af f 2=x.s2/\Af f 3=x.s3:=by
 have key:∀(i y:Nat),i<4->y<18446744073709551616->(∀j,j<64->Cz (EL x) (i*64+j)=y.testBit j)->Af f i=y:=fun i y hi hy hb=>Nat.eq_of_testBit_eq fun j=>by
  rw[Cp];by_cases hj:j<64
  ·rw[decide_eq_true hj,Bool.true_and,hf _ (by omega),hb j hj]
  ·rw[decide_eq_false hj,Bool.false_and,Nat.testBit_lt_two_pow (Nat.lt_of_lt_of_le hy (show 18446744073709551616<=2^j from Nat.pow_le_pow_right (n:=2) (i:=64) (by decide) (by omega)))]
 obtain⟨h0,h1,h2,h3⟩:=h;unfold EL at key;exact⟨key 0 _ (by omega) h0 fun j hj=>EP _ _ _ _ 0 j (by omega) hj,key 1 _ (by omega) h1 fun j hj=>EP _ _ _ _ 1 j (by omega) hj,key 2 _ (by omega) h2 fun j hj=>EP _ _ _ _ 2 j (by omega) hj,key 3 _ (by omega) h3 fun j hj=>EP _ _ _ _ 3 j (by omega) hj⟩
def VF (r:List UInt8):Prop:=r=[]\/r[0]?=some 32
theorem G0 (p:UInt8->Bool) (hp:p 32=false):∀(l r:List UInt8),(l.takeWhile p=l)->VF r->(l++r).takeWhile p=l
 |[],r,_,hr=>by
  rcases hr with rfl|h
  ·rfl
  ·cases r with
   |nil=>rfl
   |cons c r=>simp at h;subst h;simp[List.takeWhile_cons,hp]
 |c::l,r,h,hr=>by
  have hc:p c=true:=by
   cases e:p c with
   |true=>rfl
   |false=>rw[List.takeWhile_cons,e]at h;simp at h
  rw[List.takeWhile_cons,if_pos hc]at h;rw[List.cons_append,List.takeWhile_cons,if_pos hc,G0 p hp l r (by simpa using h) hr]
theorem QN {l r:List UInt8} (h:Cb l=true) (hr:VF r):B0 (l++r)=l/\ ∃c t,l=c::t/\AO c.toNat=true:=by
 unfold Cb at h;obtain⟨h0,_,h1⟩:=of_decide_eq_true h;cases l with
 |nil=>exact absurd rfl h0
 |cons c t=>
  simp only[B0]at h1;cases hl:AO c.toNat with
  |false=>rw[hl]at h1;simp at h1
  |true=>
   rw[hl]at h1;simp only[if_true,List.cons.injEq,true_and]at h1;refine⟨?_,c,t,rfl,hl⟩;simp only[List.cons_append,B0,hl,if_true];rw[G0 Ce (by decide) t r h1 hr]
theorem H8 (b:UInt8):∀(x r:List UInt8),(∀c∈x,c≠b)->Bq b (x++b::r)=(x,r,true)
 |[],r,_=>by simp[Bq]
 |c::x,r,h=>by
  have h0:=h c List.mem_cons_self;have ih:=H8 b x r fun d hd=>h d (List.mem_cons_of_mem _ hd)
  simp[Bq,h0,ih]
theorem VG (b:UInt8):∀(x:List UInt8),(∀c∈x,c≠b)->Bq b x=(x,[],false)
 |[],_=>rfl
 |c::x,h=>by
  have h0:=h c List.mem_cons_self;have ih:=VG b x fun d hd=>h d (List.mem_cons_of_mem _ hd)
  simp[Bq,h0,ih]
theorem P2 (n:Int) (hn:0<=n):∀c∈Lib.itoa n,c≠125/\c≠44:=fun c hc=>by
 obtain⟨m,rfl⟩:∃m:Nat,n=(m:Int):=⟨n.toNat,by omega⟩;have h:=WJ m c hc;unfold Yc Dt at h;have h:=of_decide_eq_true h;refine⟨?_,?_⟩ <;> (rintro rfl;simp at h)
theorem P3 (n:Int) (h0:0<=n) (h1:n<=99):CM (Lib.itoa n) 99=(n,0):=by
 obtain⟨m,rfl⟩:∃m:Nat,n=(m:Int):=⟨n.toNat,by omega⟩;rw[TD,if_neg (by omega)]
theorem VH (n:Int) (h0:0<=n):Lib.itoa n≠[]:=by
 obtain⟨m,rfl⟩:∃m:Nat,n=(m:Int):=⟨n.toNat,by omega⟩;exact WK m
theorem QO {lo hi:Int} (r:List UInt8) (h0:0<=lo) (h1:lo<=99) (h2:hi = -1\/(lo<=hi/\hi<=99)):∃t,I6 lo hi++r=123::t/\Ci t=some ((I6 lo hi).length-2,lo,hi)/\2<=(I6 lo hi).length:=by
 have d1:=P2 lo h0;have n1:=P3 lo h0 h1;by_cases e1:hi=lo
 ·subst e1;refine⟨Lib.itoa hi++125::r,by simp[I6],?_,by simp[I6]⟩;unfold Ci;rw[H8 125 _ _ (fun c hc=>(d1 c hc).1)];simp only;rw[if_neg (by simp),VG 44 _ (fun c hc=>(d1 c hc).2),n1];simp[I6]
 ·by_cases e2:hi = -1
  ·subst e2;refine⟨(Lib.itoa lo++[44])++125::r,by simp[I6,e1],?_,by simp[I6,e1]⟩;unfold Ci;rw[H8 125 _ _ (fun c hc=>by rcases List.mem_append.1 hc with h|h;exact(d1 c h).1;simp at h;subst h;decide)];simp only;rw[if_neg (by simp),H8 44 _ [] (fun c hc=>(d1 c hc).2),n1];simp[I6,e1]
  ·have h3:lo<=hi/\hi<=99:=by rcases h2 with h|h;exact absurd h e2;exact h
   have d2:=P2 hi (by omega);have n2:=P3 hi (by omega) h3.2;refine⟨(Lib.itoa lo++44::Lib.itoa hi)++125::r,by simp[I6,e1,e2],?_,by simp[I6,e1,e2];omega⟩;unfold Ci
   rw[H8 125 _ _ (fun c hc=>by
    rcases List.mem_append.1 hc with h|h
    ·exact(d1 c h).1
    ·rcases List.mem_cons.1 h with rfl|h
     ·decide
     ·exact(d2 c h).1)]
   simp only;rw[if_neg (by simp),H8 44 _ _ (fun c hc=>(d1 c hc).2),n1];simp only;rw[if_neg (by simp),if_neg (by simp),if_neg (VH hi (by omega)),n2];simp only;rw[if_neg (by rintro(h|h) <;> omega)];simp[I6,e1,e2]
theorem TH (x:Wd) (hm:Cw x) (hs:small x) (r:List UInt8) (hr:VF r):Bf (CH x++r)=some {x with frm:=0,til:=(CH x).length}:=by
 obtain⟨kind,frm,til,text,s0,s1,s2,s3,low,high⟩:=x;obtain⟨m1,m15,m14,mk1,mk2,mt,ms,mn⟩:=hm;simp only at m1 m15 m14 mk1 mk2 mt ms mn;unfold CH;simp only;by_cases k1:kind=1
 ·subst k1;have hms:=ms (by omega);have hmn:=mn (by omega);obtain⟨rfl,rfl,rfl,rfl⟩:=hms;obtain⟨rfl,rfl⟩:=hmn;have hl:=m1 rfl;obtain⟨ht,c,t,hc,hlt⟩:=QN hl hr;have h32:text.length<=32:=by unfold Cb at hl;exact(of_decide_eq_true hl).2.1
  simp only[if_true];unfold Bf;rw[ht];have h0:(text++r)[0]?=some c:=by rw[hc];rfl
  rw[h0];simp only;rw[if_pos hlt,if_pos h32]
 rw[if_neg k1];have e1:kind≠1:=k1;by_cases k2:kind=2
 ·subst k2;have hms:=ms (by omega);have hmn:=mn (by omega);have htx:=mt (by omega) (by omega);obtain⟨rfl,rfl,rfl,rfl⟩:=hms;obtain⟨rfl,rfl⟩:=hmn;subst htx;rfl
 rw[if_neg k2];by_cases k14:kind=14
 ·subst k14;have hms:=ms (by omega);have htx:=mt (by omega) (by omega);obtain⟨rfl,rfl,rfl,rfl⟩:=hms;subst htx;obtain⟨h0,h1,h2⟩:=m14 rfl;obtain⟨t,ht,hc,hlen⟩:=QO r h0 h1 h2;simp only[if_true];rw[ht];have e:Bf (123::t)=(Ci t).map fun x=>⟨14,0,x.1+2,[],0,0,0,0,x.2.1,x.2.2⟩:=rfl
  rw[e,hc];simp only[Option.map_some,Option.some.injEq];congr 1;omega
 rw[if_neg k14];by_cases k15:kind=15
 ·subst k15;have hms:=ms (by omega);have hmn:=mn (by omega);obtain⟨rfl,rfl,rfl,rfl⟩:=hms;obtain⟨rfl,rfl⟩:=hmn;have hb:=VQ text r (m15 rfl);simp only[if_true];have hh:(JS text++r)[0]?=some 34:=by simp[JS]
  unfold Bf;rw[hh,hb];rfl
 rw[if_neg k15];by_cases k16:kind=16
 ·subst k16;have hmn:=mn (by omega);have htx:=mt (by omega) (by omega);obtain⟨rfl,rfl⟩:=hmn;subst htx;simp only[if_true];generalize hx:(⟨16,frm,til,[],s0,s1,s2,s3,0,0⟩:Wd)=x at *;cases ha:(List.range 256).all (Cz (EL x))with
  |true=>
   have hw:=Ni (fun _=>true) x hs (fun k hk=>by rw[List.all_eq_true]at ha;exact(ha k (List.mem_range.2 hk)).symm);rw[BV,BV,BV,BV]at hw;have hc:C3 (Cz (EL x))=[46]:=by unfold C3;rw[ha];rfl
   rw[hc];obtain⟨w0,w1,w2,w3⟩:=hw;subst hx;simp only at w0 w1 w2 w3;subst w0 w1 w2 w3;rfl
  |false=>
   have hb:=Re (Cz (EL x)) r ha;have hh:(C3 (Cz (EL x))++r)[0]?=some 91:=by unfold C3;rw[ha];simp
   have hw:=Ni (Bx (C3 (Cz (EL x))++r)).1 x hs (fun k hk=>by rw[hb];simp only[Bool.false_xor];exact VS _ k hk);unfold Bf;rw[hh];simp only;rw[if_neg (by decide),if_neg (by decide),if_neg (by decide)];simp only[if_true];rw[hw.1,hw.2.1,hw.2.2.1,hw.2.2.2,hb];subst hx;rfl
 rw[if_neg k16];have hms:=ms k16;have hmn:=mn k14;have htx:=mt k1 k15;obtain⟨rfl,rfl,rfl,rfl⟩:=hms;obtain⟨rfl,rfl⟩:=hmn;subst htx;have hk:kind=3\/kind=4\/kind=5\/kind=6\/kind=7\/kind=8\/kind=9\/kind=10\/kind=11\/kind=12\/kind=13:=by omega
 rcases hk with rfl|rfl|rfl|rfl|rfl|rfl|rfl|rfl|rfl|rfl|rfl
 all_goals first
  |rfl
  |(rcases hr with rfl|h
    ·rfl
    ·cases r with
     |nil=>cases h
     |cons c r=>simp at h;subst h;rfl)
def F6:TT->List UInt8
 |.mk n ks=>AJ n++Ee (AN n) (go n.kind ks)++AK n
 where go (k:Int):List TT->List (List UInt8)
  |[]=>[]
  |t::ts=>D0 (AC k t.kd) (F6 t)::go k ts
theorem P4 (k:Int):∀ts,F6.go k ts=ts.map fun t=>D0 (AC k t.kd) (F6 t)
 |[]=>rfl
 |t::ts=>by rw[F6.go,P4 k ts];rfl
theorem P5 (n:Nd) (ks:List TT):F6 (.mk n ks)=AJ n++Ee (AN n) (ks.map fun t=>D0 (AC n.kind t.kd) (F6 t))++AK n:=by rw[F6,P4]
theorem VI {l:List Nd} (h:AR l) (i:Nat):Ct l i=F6 (den l i):=by
 induction i using Nat.strongRecOn with
 |_ i ih=>
  rw[K7 h,ER h,P5,List.map_map];have e1:AJ (DJ (An l i))=AJ (An l i):=rfl;have e2:AK (DJ (An l i))=AK (An l i):=rfl;have e3:AN (DJ (An l i))=AN (An l i):=rfl;rw[e1,e2,e3];congr 3;refine List.map_congr_left fun k hk=> ?_
  have hkd:(den l k).kd=(An l k).kind:=by rw[ER h];rfl
  show D0 (AC (An l i).kind (An l k).kind) (Ct l k)=D0 (AC (An l i).kind (den l k).kd) (F6 (den l k));rw[hkd,ih k (h i k hk)]
def Dh (t:List UInt8):Wd:=⟨1,0,0,t,0,0,0,0,0,0⟩
def Gd (t:List UInt8):Wd:=⟨15,0,0,t,0,0,0,0,0,0⟩
def Fs (n:Nd):Wd:=⟨16,0,0,[],n.s0.toNat,n.s1.toNat,n.s2.toNat,n.s3.toNat,0,0⟩
def AZ (lo hi:Int):Wd:=if lo=0/\hi=1 then Ap 6 else if lo=0/\hi = -1 then Ap 7 else if lo=1/\hi = -1 then Ap 8 else⟨14,0,0,[],0,0,0,0,lo,hi⟩
def Bg (n:Nd):List Wd:=
 if n.kind=0\/n.kind=2 then[Gd n.text.data.toList]else if n.kind=1 then[Fs n]else if n.kind=3 then[Dh n.text.data.toList]else if n.kind=7 then[Ap 4]else if n.kind=8 then[Ap 5]
 else if n.kind=9 then[Ap 11,Dh n.text.data.toList,Ap 13]else[]
def B1 (n:Nd):List Wd:=if n.kind=6 then[AZ n.mn n.mx]else if n.kind=9 then[Ap 12]else[]
def BZ (n:Nd):List Wd:=if n.kind=5 then[Ap 3]else[]
def AY (sep:List Wd):List (List Wd)->List Wd
 |[]=>[]
 |x::r=>x++r.flatMap (sep ++ ·)
def CN (w:Bool) (l:List Wd):List Wd:=if w then Ap 9::(l++[Ap 10])else l
def Cf:TT->List Wd
 |.mk n ks=>Bg n++AY (BZ n) (go n.kind ks)++B1 n
 where go (k:Int):List TT->List (List Wd)
  |[]=>[]
  |t::ts=>CN (AC k t.kd) (Cf t)::go k ts
theorem Sa (k:Int):∀ts,Cf.go k ts=ts.map fun t=>CN (AC k t.kd) (Cf t)
 |[]=>rfl
 |t::ts=>by rw[Cf.go,Sa k ts];rfl
theorem DB (n:Nd) (ks:List TT):Cf (.mk n ks)=Bg n++AY (BZ n) (ks.map fun t=>CN (AC n.kind t.kd) (Cf t))++B1 n:=by rw[Cf,Sa]
def Yn (x:Wd) (s:List UInt8):Prop:=(x.kind=1-> ∀c,s[0]?=some c->Ce c=false)/\(x.kind=11->s[0]? ≠ some 45)
inductive Spell:List UInt8->List Wd->Prop where
 |nil:Spell [] []
 |sp {s:List UInt8} {W:List Wd}:Spell s W->Spell (32::s) W
 |word {x:Wd} {s:List UInt8} {W:List Wd}:Cw x->small x->x.frm=0/\x.til=0->Yn x s->Spell s W->Spell (CH x++s) (x::W)
theorem QP {x:Wd} {s:List UInt8} (hm:Cw x) (hs:small x) (hf:Yn x s):Bf (CH x++s)=some {x with frm:=0,til:=(CH x).length}:=by
 have h:=TH x hm hs [] (.inl rfl);rw[List.append_nil]at h;refine RS h (fun j hj=> ?_) ⟨fun hk c hc=> ?_,fun hk hc=> ?_⟩
 ·rw[List.getElem?_append_left hj]
 ·have hc:(CH x++s)[(CH x).length]?=some c:=hc;rw[List.getElem?_append_right (Nat.le_refl _),Nat.sub_self]at hc;exact hf.1 hk c hc
 ·have h1:x.kind=11:=hk;have e:CH x=[60]:=by unfold CH Ym;rw[h1];rfl
  rw[e]at hc;exact hf.2 hk (by simpa using hc)
theorem TI:∀{s:List UInt8} {W:List Wd},Spell s W-> ∀pre:List UInt8,(RW (pre++s) (A9 (pre++s) pre.length)).2=none/\(RW (pre++s) (A9 (pre++s) pre.length)).1.map Fx=W:=by
 intro s W h;induction h with
 |nil=>
  intro pre;have e:A9 (pre++[]) pre.length=(pre++[]).length:=by unfold A9;rw[List.drop_left];simp[B3]
  rw[e,QD (Nat.le_refl _)];exact⟨rfl,rfl⟩
 |@sp s W h ih=>
  intro pre;have e1:pre++32::s=(pre++[32])++s:=by simp
  have e2:A9 (pre++32::s) pre.length=A9 ((pre++[32])++s) (pre++[32]).length:=by
   rw[e1];unfold A9;rw[List.drop_left,<-e1,List.drop_left];simp only[B3,GT,List.length_append,List.length_singleton];simp;omega
  rw[e2,e1];exact ih (pre++[32])
 |@word x s W hm hs h0 hf h ih=>
  intro pre;have hz:=QP hm hs hf;have hpos:=(Jh hz).1;have en:A9 (pre++(CH x++s)) pre.length=pre.length:=by unfold A9;rw[List.drop_left,Tf hz];rfl
  have hw:B9 (pre++(CH x++s)) pre.length=some {x with frm:=pre.length,til:=pre.length+(CH x).length}:=by unfold B9;rw[List.drop_left,hz];rfl
  have hlt:pre.length<(pre++(CH x++s)).length:=by simp only at hpos;simp only[List.length_append];omega
  rw[en,NK hlt hw];have ih:=ih (pre++CH x);have e1:pre++CH x++s=pre++(CH x++s):=by simp
  rw[e1,List.length_append]at ih;simp only;refine⟨ih.1,?_⟩;rw[List.map_cons,ih.2];congr 1;obtain⟨_,frm,til,_,_,_,_,_,_,_⟩:=x;obtain⟨rfl,rfl⟩:=h0;rfl
theorem P6 {s:List UInt8} {W:List Wd} (hs:s.length<=65536) (h:Spell s W):BW s W:=by
 have h1:=TI h [];simp only[List.nil_append,List.length_nil]at h1;refine⟨hs,(RW s (A9 s 0)).1,?_,h1.2⟩;rw[EO (by omega),h1.1]
theorem TJ {s:List UInt8} {W:List Wd} (h:Spell s W):∀x∈W,Cw x:=by
 induction h with
 |nil=>simp
 |sp _ ih=>exact ih
 |word hm _ _ _ _ ih=>
  intro y hy;rcases List.mem_cons.1 hy with rfl|hy
  ·exact hm
  ·exact ih y hy
def QQ (r:List UInt8):Prop:=∀c,r[0]?=some c->Ce c=false
def Hg (s:List UInt8) (W:List Wd):Prop:=∀r V,Spell r V->QQ r->Spell (s++r) (W++V)
theorem CD {c:UInt8} {r:List UInt8} (h:Ce c=false):QQ (c::r):=fun d hd=>by simp at hd;subst hd;exact h
theorem Ft (k:Nat):small (Ap k):=⟨by simp[Ap],by simp[Ap],by simp[Ap],by simp[Ap]⟩
theorem Ge {k:Nat} (h:2<=k/\k<=13):Cw (Ap k):=by
 unfold Cw Ap;simp;omega
theorem DH {k:Nat} {c:UInt8} {r:List UInt8} {V:List Wd} (hk:3<=k/\k<=13/\k≠11) (hc:CH (Ap k)=[c]) (h:Spell r V):Spell (c::r) (Ap k::V):=by
 have:=Spell.word (x:=Ap k) (s:=r) (W:=V) (Ge (by omega)) (Ft k) ⟨rfl,rfl⟩ ⟨fun h=>absurd (show k=1 from h) (by omega),fun h=>absurd (show k=11 from h) (by omega)⟩ h;rw[hc]at this;exact this
theorem QR {s:List UInt8} {W:List Wd} (h:Hg s W) (w:Bool):Hg (D0 w s) (CN w W):=by
 cases w with
 |false=>exact h
 |true=>
  intro r V hr he;have h1:=DH (k:=10) (c:=41) (by decide) rfl hr;have h2:=h _ _ h1 (CD (by decide));have h3:=DH (k:=9) (c:=40) (by decide) rfl h2;simpa[D0,CN]using h3
theorem LN {α:Type} (f:α->List UInt8) (g:α->List Wd) (sep:List UInt8) (sepW:List Wd) (hsep:∀r V,Spell r V->Spell (sep++r) (sepW++V)) (he:∀r,QQ (sep++r)):
  ∀l:List α,(∀x∈l,Hg (f x) (g x))-> ∀r V,Spell r V->QQ r->Spell ((l.map f).flatMap (sep ++ ·)++r) ((l.map g).flatMap (sepW ++ ·)++V)/\QQ ((l.map f).flatMap (sep ++ ·)++r)
 |[],_,r,V,hr,hE=>⟨hr,hE⟩
 |x::l,h,r,V,hr,hE=>by
  obtain⟨h1,h2⟩:=LN f g sep sepW hsep he l (fun y hy=>h y (List.mem_cons_of_mem _ hy)) r V hr hE;have h3:=hsep _ _ (h x (by simp) _ _ h1 h2);have e1:((x::l).map f).flatMap (sep ++ ·)++r=sep++(f x++((l.map f).flatMap (sep ++ ·)++r)):=by simp
  have e2:((x::l).map g).flatMap (sepW ++ ·)++V=sepW++(g x++((l.map g).flatMap (sepW ++ ·)++V)):=by simp
  rw[e1,e2];exact⟨h3,he _⟩
theorem Jq {α:Type} (f:α->List UInt8) (g:α->List Wd) (sep:List UInt8) (sepW:List Wd) (hsep:∀r V,Spell r V->Spell (sep++r) (sepW++V)) (he:∀r,QQ (sep++r)) (l:List α) (h:∀x∈l,Hg (f x) (g x)):
  Hg (Ee sep (l.map f)) (AY sepW (l.map g)):=by
 intro r V hr hE;cases l with
 |nil=>exact hr
 |cons x l=>
  obtain⟨h1,h2⟩:=LN f g sep sepW hsep he l (fun y hy=>h y (List.mem_cons_of_mem _ hy)) r V hr hE;have:=h x (by simp) _ _ h1 h2;simpa[Ee,AY]using this
theorem Gf {x:Wd} (hm:Cw x) (hs:small x) (h0:x.frm=0/\x.til=0) (h11:x.kind≠11):Hg (CH x) [x]:=fun r V hr hE=>Spell.word hm hs h0 ⟨fun _ c hc=>hE c hc,fun h=>absurd h h11⟩ hr
theorem P7 {t:List UInt8} (h:Cb t=true):Cw (Dh t):=by
 unfold Cw Dh;simp[h]
theorem Sb {t:List UInt8} (h:t.length<=255):Cw (Gd t):=by
 unfold Cw Gd;simp[h]
theorem Fu {k:Nat} {t:List UInt8} {lo hi:Int}:small ⟨k,0,0,t,0,0,0,0,lo,hi⟩:=⟨by simp,by simp,by simp,by simp⟩
theorem QS {lo hi:Int} (h:0<=lo/\lo<=99/\(hi = -1\/(lo<=hi/\hi<=99))):CH (AZ lo hi)=CA lo hi/\Cw (AZ lo hi)/\small (AZ lo hi)/\((AZ lo hi).frm=0/\(AZ lo hi).til=0)/\(AZ lo hi).kind≠1/\(AZ lo hi).kind≠11:=by
 by_cases e1:lo=0/\hi=1
 ·obtain⟨rfl,rfl⟩:=e1;exact⟨rfl,Ge (k:=6) (by decide),Ft 6,⟨rfl,rfl⟩,by decide,by decide⟩
 by_cases e2:lo=0/\hi = -1
 ·obtain⟨rfl,rfl⟩:=e2;exact⟨rfl,Ge (k:=7) (by decide),Ft 7,⟨rfl,rfl⟩,by decide,by decide⟩
 by_cases e3:lo=1/\hi = -1
 ·obtain⟨rfl,rfl⟩:=e3;exact⟨rfl,Ge (k:=8) (by decide),Ft 8,⟨rfl,rfl⟩,by decide,by decide⟩
 have e:AZ lo hi=⟨14,0,0,[],0,0,0,0,lo,hi⟩:=by unfold AZ;rw[if_neg e1,if_neg e2,if_neg e3]
 have e4:CA lo hi=I6 lo hi:=by unfold CA I6 Lq;rw[if_neg (fun hn=>hn h),if_neg e1,if_neg e2,if_neg e3]
 rw[e,e4];refine⟨rfl,?_,Fu,⟨rfl,rfl⟩,by simp,by simp⟩;unfold Cw;simp;omega
theorem QT {lo hi:Int} (h:0<=lo/\lo<=99/\(hi = -1\/(lo<=hi/\hi<=99))) (r:List UInt8):QQ (CA lo hi++r):=by
 unfold CA;rw[if_neg (fun hn=>hn h)];split
 ·exact CD (by decide)
 split
 ·exact CD (by decide)
 split
 ·exact CD (by decide)
 split
 ·exact CD (by decide)
 split
 ·exact CD (by decide)
 ·exact CD (by decide)
def Jr:TT->Prop:=Ik fun n=>(0<=n.s0/\n.s0<18446744073709551616)/\(0<=n.s1/\n.s1<18446744073709551616)/\(0<=n.s2/\n.s2<18446744073709551616)/\(0<=n.s3/\n.s3<18446744073709551616)
theorem LO {x:TT}:BL x->Jr x->Hg (F6 x) (Cf x):=by
 induction x using TT.ind with
 |h n ks ih=>
  intro hf hsm;obtain⟨⟨hk,hfit⟩,hkf⟩:=BG.1 hf;obtain⟨hn,hks⟩:=L3.1 hsm;have hkids:∀t∈ks,Hg (D0 (AC n.kind t.kd) (F6 t)) (CN (AC n.kind t.kd) (Cf t)):=fun t ht=>QR (ih t ht (hkf t ht) (hks t ht)) _
  rw[P5,DB];have hone:∀{k:Int},Am n k=true->k=ks.length->ks.length=1-> ∃t,ks=[t]:=fun _ _ h=>List.length_eq_one_iff.1 h
  rcases Ej hfit with⟨h0,ht,hl⟩|⟨h0,hl⟩|⟨h0,hl,ht⟩|⟨h0,hl,ht⟩|⟨h0,hl⟩|⟨h0,hl⟩|⟨h0,hl,hc⟩|⟨h0,hl⟩|⟨h0,hl⟩|⟨h0,hl,ht⟩
  ·obtain rfl:=List.length_eq_zero_iff.1 hl;have e:n.text.data.toList=[]:=M9 ht;have h1:=Gf (x:=Gd []) (Sb (by simp)) Fu ⟨rfl,rfl⟩ (by decide);simpa[AJ,Bg,AK,B1,Ee,AY,h0,e,CH,Gd]using h1
  ·obtain rfl:=List.length_eq_zero_iff.1 hl;have h1:=Gf (x:=Fs n) (by unfold Cw Fs;simp) (by unfold small Fs;simp only;omega) ⟨rfl,rfl⟩ (by decide:(16:Nat)≠11);have e:CH (Fs n)=U1 n:=rfl;rw[e]at h1;simpa[AJ,Bg,AK,B1,Ee,AY,h0]using h1
  ·obtain rfl:=List.length_eq_zero_iff.1 hl
   have hle:n.text.data.toList.length<=255:=by
    have h2:n.text.data.toList.length=n.text.size:=Array.length_toList;unfold Am at hfit;rw[h0]at hfit;simp at hfit;omega
   have h1:=Gf (x:=Gd n.text.data.toList) (Sb hle) Fu ⟨rfl,rfl⟩ (by decide:(15:Nat)≠11);have e:CH (Gd n.text.data.toList)=JS n.text.data.toList:=rfl;rw[e]at h1;simpa[AJ,Bg,AK,B1,Ee,AY,h0]using h1
  ·obtain rfl:=List.length_eq_zero_iff.1 hl;have h1:=Gf (x:=Dh n.text.data.toList) (P7 ht) Fu ⟨rfl,rfl⟩ (by decide:(1:Nat)≠11);have e:CH (Dh n.text.data.toList)=n.text.data.toList:=rfl;rw[e]at h1;simpa[AJ,Bg,AK,B1,Ee,AY,h0]using h1
  ·have h1:=Jq (fun t:TT=>D0 (AC n.kind t.kd) (F6 t)) (fun t=>CN (AC n.kind t.kd) (Cf t)) [32] [] (fun r V h=>.sp h) (fun r=>CD (by decide)) ks hkids;have e1:AJ n=[]:=by simp[AJ,h0]
   have e2:AK n=[]:=by simp[AK,h0]
   have e3:AN n=[32]:=by simp[AN,h0]
   have e4:Bg n=[]:=by simp[Bg,h0]
   have e5:B1 n=[]:=by simp[B1,h0]
   have e6:BZ n=[]:=by simp[BZ,h0]
   rw[e1,e2,e3,e4,e5,e6,List.nil_append,List.nil_append,List.append_nil,List.append_nil];exact h1
  ·have h1:=Jq (fun t:TT=>D0 (AC n.kind t.kd) (F6 t)) (fun t=>CN (AC n.kind t.kd) (Cf t)) [32,47,32] [Ap 3] (fun r V h=>.sp (DH (k:=3) (c:=47) (by decide) rfl (.sp h))) (fun r=>CD (by decide)) ks hkids;have e1:AJ n=[]:=by simp[AJ,h0]
   have e2:AK n=[]:=by simp[AK,h0]
   have e3:AN n=[32,47,32]:=by simp[AN,h0]
   have e4:Bg n=[]:=by simp[Bg,h0]
   have e5:B1 n=[]:=by simp[B1,h0]
   have e6:BZ n=[Ap 3]:=by simp[BZ,h0]
   rw[e1,e2,e3,e4,e5,e6,List.nil_append,List.nil_append,List.append_nil,List.append_nil];exact h1
  ·obtain⟨t,rfl⟩:=List.length_eq_one_iff.1 hl;obtain⟨c1,c2,c3,c4,c5,c6⟩:=QS hc;have hkt:=hkids t (by simp);intro r V hr hE
   have h2:Spell (CA n.mn n.mx++r) (AZ n.mn n.mx::V):=by
    rw[<-c1];exact Spell.word c2 c3 c4 ⟨fun h=>absurd h c5,fun h=>absurd h c6⟩ hr
   have h3:=hkt _ _ h2 (QT hc r);simpa[AJ,Bg,AK,B1,Ee,AY,h0]using h3
  ·obtain⟨t,rfl⟩:=List.length_eq_one_iff.1 hl;have hkt:=hkids t (by simp);intro r V hr hE;have h3:=DH (k:=4) (c:=38) (by decide) rfl (hkt _ _ hr hE);simpa[AJ,Bg,AK,B1,Ee,AY,h0]using h3
  ·obtain⟨t,rfl⟩:=List.length_eq_one_iff.1 hl;have hkt:=hkids t (by simp);intro r V hr hE;have h3:=DH (k:=5) (c:=33) (by decide) rfl (hkt _ _ hr hE);simpa[AJ,Bg,AK,B1,Ee,AY,h0]using h3
  ·obtain⟨t,rfl⟩:=List.length_eq_one_iff.1 hl;have hkt:=hkids t (by simp);intro r V hr hE;have h1:=DH (k:=12) (c:=62) (by decide) rfl hr;have h2:=hkt _ _ h1 (CD (by decide));have h3:=DH (k:=13) (c:=58) (by decide) rfl (Spell.sp h2);have h4:=Gf (x:=Dh n.text.data.toList) (P7 ht) Fu ⟨rfl,rfl⟩ (by decide:(1:Nat)≠11) _ _ h3 (CD (by decide));have e:CH (Dh n.text.data.toList)=n.text.data.toList:=rfl;rw[e]at h4;obtain⟨c,tl,hct,hlt,_⟩:=OH ht
   have h5:=Spell.word (x:=Ap 11) (Ge (by decide)) (Ft 11) ⟨rfl,rfl⟩ ⟨fun h=>absurd h (by decide),fun _ hd=>by
    rw[hct]at hd;simp at hd;subst hd;exact absurd hlt (by decide)⟩ h4
   have e11:CH (Ap 11)=[60]:=rfl;rw[e11]at h5;have hw:AC n.kind t.kd=false:=by rw[h0];rfl
   rw[hw]at h5;have hw9:AC 9 t.kd=false:=rfl;simpa[AJ,Bg,AK,B1,Ee,AY,h0,hw9,D0,CN]using h5
end Go.Proofs.YtdnochjajoiooaaGreatDoor
