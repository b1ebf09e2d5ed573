/- The parser, plain: what a row of words denotes; the nodes that it makes. Plain laws of words: how long a word is. Plain laws of sets of bytes, as four words; no program in sight. The contracts of set.Not of nothing, and of set.All. Maps keyed by bytes: what they hold, as a function of the byte. -/
import Derived.Test.YtpfokabdpmjobaaGreatDoorLa
import Derived.Test.YtpfokabdpmjobaaGreatDoorAd
import Derived.Test.YtpfokabdpmjobaaGreatDoorNa
import Derived.Test.YtpfokabdpmjobaaGreatDoorShelf
import Derived.Maps.OwnSet
import Derived.Maps.OwnIn
namespace Go.Proofs.YtpfokabdpmjobaaGreatDoor
set_option linter.unusedSimpArgs false
set_option linter.unusedVariables false
def kdW (W:List Wd) (i:Nat):Nat:=(W[i]?.map Wd.kind).getD 0
def wdW (W:List Wd) (i:Nat):Wd:=W[i]?.getD ⟨0,0,0,[],0,0,0,0,0,0⟩
def ruleN (t:List UInt8):Nd:=⟨3,0,0,0,0,⟨t.toArray⟩,0,0,[]⟩
def textN (t:List UInt8):Nd:=⟨2,0,0,0,0,⟨t.toArray⟩,0,0,[]⟩
def setW (x:Wd):Nd:=⟨1,x.s0,x.s1,x.s2,x.s3,⟨#[]⟩,0,0,[]⟩
def repN (lo hi:Int):Nd:=⟨6,0,0,0,0,⟨#[]⟩,lo,hi,[]⟩
def kindN (k:Nat):Nd:=⟨k,0,0,0,0,⟨#[]⟩,0,0,[]⟩
def capN (t:List UInt8):Nd:=⟨9,0,0,0,0,⟨t.toArray⟩,0,0,[]⟩
def leafW (x:Wd):Nd:=if x.kind=1 then ruleN x.text else if x.kind=15 then(if x.text=[]then emptyN else textN x.text)else setW x
def isLeaf (W:List Wd) (i:Nat):Bool:=(decide (kdW W i=1)&&decide (kdW W (i+1)≠2))||decide (kdW W i=15)||decide (kdW W i=16)
def sufW (W:List Wd) (i:Nat):Option (Int×Int):=
 if kdW W i=6 then some (0,1)else if kdW W i=7 then some (0, -1)else if kdW W i=8 then some (1, -1)else if kdW W i=14 then some ((wdW W i).low,(wdW W i).high)else none
structure Op where
 fin:Nat
 name:List UInt8
 ways:List TT
 parts:List TT
 heads:List Nat
def suffT (W:List Wd):Nat→Nat→TT→TT×Nat
 |0,i,t=>(t,i)
 |f+1,i,t=>match sufW W i with
  |none=>(t,i)
  |some (lo,hi)=>suffT W f (i+1) (.mk (repN lo hi) [t])
def headT (hs:List Nat) (t:TT):TT:=hs.foldr (fun h t=>.mk (kindN h) [t]) t
def primT (W:List Wd) (top:Op) (i:Nat) (t:TT):Op×Nat:=
 ({top with heads:=[],parts:=top.parts++[headT top.heads (suffT W (W.length-i) i t).1]},(suffT W (W.length-i) i t).2)
def joinP (n:Nd):List TT→TT
 |[]=>.mk emptyN []
 |[x]=>x
 |l=>.mk n l
inductive PR where
 |fail:Nat→PR
 |done:Nat→TT→PR
structure PS where
 i:Nat
 st:List Op
 calls:List Nat
def wayT (top:Op):Op:={top with ways:=top.ways++[joinP seqN top.parts],parts:=[]}
def endT (top:Op) (t:TT):TT:=if top.fin=12 then .mk (capN top.name) [t]else t
def stepP (W:List Wd) (s:PS):PS ⊕ PR:=
 match s.st with
 |[]=>.inr (.fail s.i)
 |top::rest=>
  if isLeaf W s.i then
   .inl ⟨(primT W top (s.i+1) (.mk (leafW (wdW W s.i)) [])).2,(primT W top (s.i+1) (.mk (leafW (wdW W s.i)) [])).1::rest,if kdW W s.i=1 then s.calls++[s.i]else s.calls⟩
  else if kdW W s.i=4∨kdW W s.i=5 then .inl ⟨s.i+1,{top with heads:=top.heads++[if kdW W s.i=4 then 7 else 8]}::rest,s.calls⟩
  else if kdW W s.i=9 then .inl ⟨s.i+1,⟨10,[],[],[],[]⟩::top::rest,s.calls⟩
  else if kdW W s.i=11 then
   if kdW W (s.i+1)=1 then if kdW W (s.i+2)=13 then .inl ⟨s.i+3,⟨12,(wdW W (s.i+1)).text,[],[],[]⟩::top::rest,s.calls⟩else .inr (.fail (s.i+2))else .inr (.fail (s.i+1))
  else if top.heads≠[]then .inr (.fail s.i)
  else if kdW W s.i=3 then .inl ⟨s.i+1,wayT top::rest,s.calls⟩
  else if top.fin=0 then .inr (.done s.i (joinP choN (wayT top).ways))
  else if kdW W s.i≠top.fin then .inr (.fail s.i)
  else match rest with
   |[]=>.inr (.fail s.i)
   |up::rest'=>.inl ⟨(primT W up (s.i+1) (endT top (joinP choN (wayT top).ways))).2,(primT W up (s.i+1) (endT top (joinP choN (wayT top).ways))).1::rest',s.calls⟩
def runP (W:List Wd):Nat→PS→PR×List Nat
 |0,s=>(.fail s.i,s.calls)
 |f+1,s=>match stepP W s with
  |.inl s'=>runP W f s'
  |.inr r=>(r,s.calls)
def botP:Op:=⟨0,[],[],[],[]⟩
def choiceP (W:List Wd) (i:Nat) (calls:List Nat):PR×List Nat:=runP W (W.length+1-i) ⟨i,[botP],calls⟩
inductive RR where
 |fail:Nat→RR
 |done:List (Nat×TT)→List Nat→RR
def rulesF (W:List Wd):Nat→Nat→List (Nat×TT)→List Nat→RR
 |0,i,_,_=>.fail i
 |f+1,i,acc,calls=>
  if kdW W i≠1 then .fail i
  else if kdW W (i+1)≠2 then .fail (i+1)
  else match choiceP W (i+2) calls with
   |(.fail j,_)=>.fail j
   |(.done j t,cs)=>if W.length≤j then .done (acc++[(i,t)]) cs else rulesF W f j (acc++[(i,t)]) cs
def rulesP (W:List Wd):RR:=rulesF W (W.length+1) 0 [] []
def begunW (s:List UInt8):List Wd×Nat×Nat:=
 if (wordsL s).2.2=0 then((wordsL s).1,s.length,0)else if (wordsL s).2.2=4 then((wordsL (s.take (wordsL s).2.1)).1,(wordsL s).2.1,4)else((wordsL s).1,(wordsL s).2.1,(wordsL s).2.2)
def placeW (W:List Wd) (fin i:Nat):Nat:=(W[i]?.map Wd.frm).getD fin
theorem kd_lt {W:List Wd} {i:Nat} (h:kdW W i≠0):i<W.length:=by
 rcases Nat.lt_or_ge i W.length with h1|h1
 ·exact h1
 ·exact absurd (by simp[kdW,List.getElem?_eq_none h1]) h
theorem kd_at {W:List Wd} {i:Nat} (h:i<W.length):kdW W i=W[i].kind:=by simp[kdW,h]
theorem wd_at {W:List Wd} {i:Nat} (h:i<W.length):wdW W i=W[i]:=by simp[wdW,h]
theorem kd_end {W:List Wd} {i:Nat} (h:W.length≤i):kdW W i=0:=by simp[kdW,List.getElem?_eq_none h]
theorem suf_lt {W:List Wd} {i:Nat} {p:Int×Int} (h:sufW W i=some p):i<W.length:=by
 apply kd_lt
 intro h0
 simp[sufW,h0]at h
theorem suff_ge (W:List Wd):∀(f i:Nat) (t:TT),i≤(suffT W f i t).2∧(i≤W.length→(suffT W f i t).2≤W.length)
 |0,i,t=>⟨Nat.le_refl _,id⟩
 |f+1,i,t=>by
  rw[suffT]
  cases h:sufW W i with
  |none=>exact⟨Nat.le_refl _,id⟩
  |some p=>
   obtain⟨lo,hi⟩:=p
   have:=suff_ge W f (i+1) (.mk (repN lo hi) [t])
   have hl:=suf_lt h
   simp only
   exact⟨by have:=this.1;omega,fun _=>this.2 (by omega)⟩
theorem suff_none {W:List Wd} {i:Nat} {t:TT} (h:sufW W i=none):suffT W (W.length-i) i t=(t,i):=by
 cases hf:W.length-i with
 |zero=>rfl
 |succ f=>rw[suffT,h]
theorem suff_some {W:List Wd} {i:Nat} {t:TT} {lo hi:Int} (h:sufW W i=some (lo,hi)):suffT W (W.length-i) i t=suffT W (W.length-(i+1)) (i+1) (.mk (repN lo hi) [t]):=by
 have hl:=suf_lt h
 obtain⟨f,hf⟩:∃f,W.length-i=f+1:=⟨W.length-i-1,by omega⟩
 rw[hf,suffT,h,show W.length-(i+1)=f by omega]
theorem prim_ge (W:List Wd) (top:Op) (i:Nat) (t:TT):i≤(primT W top i t).2∧(i≤W.length→(primT W top i t).2≤W.length):=suff_ge W _ _ _
theorem leaf_lt {W:List Wd} {i:Nat} (h:isLeaf W i=true):i<W.length:=by
 apply kd_lt
 intro h0
 simp[isLeaf,h0]at h
theorem step_lt {W:List Wd} {s s':PS} (h:stepP W s=.inl s'):s.i<s'.i∧s'.i≤W.length:=by
 obtain⟨i,st,calls⟩:=s
 cases st with
 |nil=>simp[stepP]at h
 |cons top rest=>
  simp only[stepP]at h
  split at h
  ·rename_i h1
   have hl:=leaf_lt h1
   injection h with h;subst h
   have:=prim_ge W top (i+1) (.mk (leafW (wdW W i)) [])
   exact⟨by show i<(primT W top (i+1) _).2;omega,this.2 (by omega)⟩
  split at h
  ·rename_i h1
   have hl:=kd_lt (W:=W) (i:=i) (by omega)
   injection h with h;subst h
   exact⟨Nat.lt_succ_self _,hl⟩
  split at h
  ·rename_i h1
   have hl:=kd_lt (W:=W) (i:=i) (by omega)
   injection h with h;subst h
   exact⟨Nat.lt_succ_self _,hl⟩
  split at h
  ·split at h
   ·split at h
    ·rename_i h3
     have hl:=kd_lt (W:=W) (i:=i+2) (by omega)
     injection h with h;subst h
     exact⟨by show i<i+3;omega,by show i+3≤W.length;omega⟩
    ·cases h
   ·cases h
  split at h
  ·cases h
  split at h
  ·have hl:=kd_lt (W:=W) (i:=i) (by omega)
   injection h with h;subst h
   exact⟨Nat.lt_succ_self _,hl⟩
  split at h
  ·cases h
  split at h
  ·cases h
  ·rename_i h1 h2
   cases rest with
   |nil=>cases h
   |cons up rest=>
    have hl:=kd_lt (W:=W) (i:=i) (by omega)
    injection h with h;subst h
    have:=prim_ge W up (i+1) (endT top (joinP choN (wayT top).ways))
    exact⟨by show i<(primT W up (i+1) _).2;omega,this.2 (by omega)⟩
theorem run_fuel {W:List Wd}:∀(f g:Nat) (s:PS),s.i≤W.length→W.length<s.i+f→W.length<s.i+g→runP W f s=runP W g s
 |0,_,s,h,hf,_=>by omega
 |_,0,s,h,_,hg=>by omega
 |f+1,g+1,s,h,hf,hg=>by
  rw[runP,runP]
  cases hs:stepP W s with
  |inl s'=>
   have:=step_lt hs
   exact run_fuel f g s' this.2 (by omega) (by omega)
  |inr r=>rfl
def goP (W:List Wd) (s:PS):PR×List Nat:=runP W (W.length+1-s.i) s
theorem go_more {W:List Wd} {s s':PS} (hi:s.i≤W.length) (h:stepP W s=.inl s'):goP W s=goP W s':=by
 have h1:=step_lt h
 unfold goP
 obtain⟨f,hf⟩:∃f,W.length+1-s.i=f+1:=⟨W.length-s.i,by omega⟩
 rw[hf,runP,h]
 exact run_fuel _ _ s' h1.2 (by omega) (by omega)
theorem go_end {W:List Wd} {s:PS} {r:PR} (hi:s.i≤W.length) (h:stepP W s=.inr r):goP W s=(r,s.calls):=by
 unfold goP
 obtain⟨f,hf⟩:∃f,W.length+1-s.i=f+1:=⟨W.length-s.i,by omega⟩
 rw[hf,runP,h]
end Go.Proofs.YtpfokabdpmjobaaGreatDoor
namespace Go.Proofs.YtpfokabdpmjobaaGreatDoor
set_option linter.unusedSimpArgs false
set_option linter.unusedVariables false
theorem GN_close (t:List UInt8):∀(f a:Nat),a≤t.length→t.length<a+f→(rangesR t f a).2.2=0→t[(rangesR t f a).2.1]?=some 93∧a≤(rangesR t f a).2.1
 |0,a,ha,hf=>by omega
 |f+1,a,ha,hf=>by
  simp only[rangesR]
  split
  ·rename_i h;exact fun _=>⟨h,Nat.le_refl _⟩
  cases e:signR clsL t a with
  |no p k=>intro h;rcases signR_no e with h1|h1 <;> simp only at h <;> omega
  |ok b n=>
   have h1:=signR_ok e
   simp only
   cases e2:highR t b n with
   |no p k=>intro h;rcases highR_no e2 with h1|h1 <;> simp only at h <;> omega
   |ok c m=>
    have h2:=highR_ok h1.2 e2
    simp only
    split
    ·intro h;simp only at h;omega
    ·intro h
     have:=GN_close t f m h2.2 (by omega) h
     exact⟨this.1,Nat.le_trans (by omega) this.2⟩
theorem cut1_closed (c:UInt8) (l:List UInt8) (h:(cut1 c l).2.2=true):(cut1 c l).1.length<l.length:=by
 rcases cut1_index c l with⟨_,h1⟩|⟨k,_,hk,h1⟩
 ·rw[h1]at h;cases h
 ·rw[h1];simp only[List.length_take];omega
theorem countL_len {l:List UInt8} {x:Nat×Int×Int} (h:countL l=some x):x.1<l.length:=by
 unfold countL at h
 simp only at h
 split at h
 ·cases h
 rename_i h0
 have h1:=cut1_closed 125 l (by simpa using h0)
 split at h
 ·cases h
 split at h
 ·cases h;exact h1
 split at h
 ·cases h;exact h1
 split at h
 ·cases h
 ·cases h;exact h1
theorem head_len {t:List UInt8} {x:Wd} (h:headW t=some x):0<x.til∧x.til≤t.length:=by
 unfold headW at h
 split at h
 ·cases h
 rename_i c hc
 have hl:=(List.getElem?_eq_some_iff.1 hc).1
 split at h
 ·rename_i hle
  split at h
  ·cases h
   refine⟨?_,takeL_le t⟩
   obtain⟨r,rfl⟩:∃r,t=c::r:=by
    cases t with
    |nil=>simp at hl
    |cons d r=>simp at hc;exact⟨r,by rw[hc]⟩
   simp only[takeL,hle,if_true,List.length_cons]
   omega
  ·cases h
 split at h
 ·cases hq:countL (t.drop 1)with
  |none=>rw[hq]at h;cases h
  |some y=>
   rw[hq]at h;cases h
   have:=countL_len hq
   rw[List.length_drop]at this
   simp only
   omega
 split at h
 ·split at h
  ·rename_i h34 h0
   cases h
   subst h34
   have hp:=RN_len [34] 34 t t.length 1 (by omega) (by omega)
   unfold unlitR at h0 ⊢
   simp only[hc]at h0 ⊢
   rw[if_neg (by simp)]at h0 ⊢
   split at h0
   ·rename_i hn;exact absurd h0 hn
   rename_i hn
   split at h0
   ·cases h0
   rename_i hm
   rw[if_neg hn,if_neg hm]
   have h1:=hp.2 (by simpa using hn)
   have h2:=(List.getElem?_eq_some_iff.1 h1.1).1
   simp only
   omega
  ·cases h
 split at h
 ·split at h
  ·rename_i h91 h0
   cases h
   subst h91
   unfold unclsR at h0 ⊢
   simp only[hc]at h0 ⊢
   rw[if_neg (by simp)]at h0 ⊢
   have hs:(if decide (t[1]?=some 94)=true then 2 else 1)≤t.length∧t.length<(if decide (t[1]?=some 94)=true then 2 else 1)+t.length:=by
    split
    ·rename_i h;have:=(List.getElem?_eq_some_iff.1 (of_decide_eq_true h)).1;omega
    ·omega
   have hp:=GN_close t t.length _ hs.1 hs.2
   generalize rangesR t t.length (if decide (t[1]?=some 94)=true then 2 else 1)=r at *
   split at h0
   ·rename_i hn;exact absurd h0 hn
   rename_i hn
   rw[if_neg hn]
   have h1:=hp (by simpa using hn)
   have h2:=(List.getElem?_eq_some_iff.1 h1.1).1
   simp only
   omega
  ·cases h
 split at h
 ·cases h;exact⟨by decide,hl⟩
 split at h
 ·split at h
  ·rename_i h1
   cases h
   have:=(List.getElem?_eq_some_iff.1 h1).1
   exact⟨by decide,this⟩
  ·cases h;exact⟨by decide,hl⟩
 ·cases hk:signK c with
  |none=>rw[hk]at h;cases h
  |some k=>rw[hk]at h;cases h;exact⟨Nat.one_pos,hl⟩
theorem word_til {s:List UInt8} {a:Nat} {x:Wd} (h:wordL s a=some x):a<x.til∧x.til≤s.length:=by
 unfold wordL at h
 cases hq:headW (s.drop a)with
 |none=>rw[hq]at h;cases h
 |some y=>
  rw[hq]at h;cases h
  have:=head_len hq
  rw[List.length_drop]at this
  simp only
  omega
end Go.Proofs.YtpfokabdpmjobaaGreatDoor
namespace Go.Proofs.YtpfokabdpmjobaaGreatDoor
set_option linter.unusedSimpArgs false
set_option linter.unusedVariables false
theorem wordB_lt (f:Nat→Bool) (i:Nat):∀n,wordB f i n<2^n
 |0=>by simp[wordB]
 |n+1=>by
  have:=wordB_lt f i n
  simp only[wordB,Nat.pow_succ]
  split <;> omega
theorem wordB_bit (f:Nat→Bool) (i:Nat):∀n j,(wordB f i n).testBit j=(decide (j<n)&&f (i*64+j))
 |0,j=>by simp[wordB]
 |n+1,j=>by
  have h:=wordB_lt f i n
  have ih:=wordB_bit f i n
  simp only[wordB]
  by_cases hf:f (i*64+n)
  ·rw[if_pos hf,Nat.add_comm]
   rcases Nat.lt_trichotomy j n with hj|rfl|hj
   ·rw[Nat.testBit_two_pow_add_gt hj,ih j];simp[hj,Nat.lt_succ_of_lt hj]
   ·rw[Nat.testBit_two_pow_add_eq,Nat.testBit_lt_two_pow h];simp[hf]
   ·have h1:2^n+wordB f i n<2^j:=by
     have:2^(n+1)≤2^j:=Nat.pow_le_pow_right (by decide) hj
     rw[Nat.pow_succ]at this;omega
    rw[Nat.testBit_lt_two_pow h1]
    have:¬j<n+1:=by omega
    simp[this]
  ·rw[if_neg hf,Nat.add_zero,ih j]
   by_cases hj:j=n
   ·subst hj;simp[hf]
   ·have:(j<n)=(j<n+1):=by apply propext;omega
    simp[this]
theorem wordF_lt (f:Nat→Bool) (i:Nat):wordF f i<18446744073709551616:=wordB_lt f i 64
theorem wordF_bit (f:Nat→Bool) (i j:Nat):(wordF f i).testBit j=(decide (j<64)&&f (i*64+j)):=wordB_bit f i 64 j
theorem wordF_or (f g:Nat→Bool) (i:Nat):wordF f i ||| wordF g i=wordF (fun k=>f k||g k) i:=Nat.eq_of_testBit_eq fun j=>by
 rw[Nat.testBit_or,wordF_bit,wordF_bit,wordF_bit]
 cases decide (j<64) <;> simp
theorem wordF_not (f:Nat→Bool) (i:Nat):18446744073709551615 ^^^ wordF f i=wordF (fun k=> !f k) i:=Nat.eq_of_testBit_eq fun j=>by
 rw[Nat.testBit_xor,wordF_bit,wordF_bit,show(18446744073709551615:Nat)=2^64-1 from rfl,Nat.testBit_two_pow_sub_one]
 cases decide (j<64) <;> simp
theorem wordF_congr {f g:Nat→Bool} {i:Nat} (h:∀j,j<64→f (i*64+j)=g (i*64+j)):wordF f i=wordF g i:=Nat.eq_of_testBit_eq fun j=>by
 rw[wordF_bit,wordF_bit]
 by_cases hj:j<64
 ·simp[hj,h j hj]
 ·simp[hj]
theorem wordF_one (f:Nat→Bool) (i q:Nat) (hq:q<64):wordF f i ||| 2^q=wordF (fun k=>f k||decide (k=i*64+q)) i:=Nat.eq_of_testBit_eq fun j=>by
 rw[Nat.testBit_or,wordF_bit,wordF_bit,Nat.testBit_two_pow]
 by_cases hj:j=q
 ·subst hj;simp[hq]
 ·have:¬q=j:=fun e=>hj e.symm
  simp[hj,this]
theorem wordF_none (i:Nat):wordF (fun _=>false) i=0:=Nat.eq_of_testBit_eq fun j=>by rw[wordF_bit];simp
theorem wordF_full (i:Nat):wordF (fun _=>true) i=18446744073709551615:=Nat.eq_of_testBit_eq fun j=>by
 rw[wordF_bit,show(18446744073709551615:Nat)=2^64-1 from rfl,Nat.testBit_two_pow_sub_one];simp
def rngF (a b:Nat):Nat→Bool:=fun k=>decide (a≤k∧k≤b)
theorem inRanges_snoc (l:List (UInt8×UInt8)) (a b:UInt8):inRanges (l++[(a,b)])=fun k=>inRanges l k||rngF a.toNat b.toNat k:=by
 funext k;simp[inRanges,rngF]
end Go.Proofs.YtpfokabdpmjobaaGreatDoor
namespace Go.Proofs.YtpfokabdpmjobaaGreatDoor
open Go.RowKit
set_option linter.unusedSimpArgs false
set_option linter.unusedVariables false
theorem word0 (x0 x1 x2 x3:Value):∀w,(Instr.index 30 (.agg #[x0,x1,x2,x3]) (.int .i64 0)).run Tryz.prog w=.ok x0 w:=fun _=>by kernel_rfl
theorem word1 (x0 x1 x2 x3:Value):∀w,(Instr.index 30 (.agg #[x0,x1,x2,x3]) (.int .i64 1)).run Tryz.prog w=.ok x1 w:=fun _=>by kernel_rfl
theorem word2 (x0 x1 x2 x3:Value):∀w,(Instr.index 30 (.agg #[x0,x1,x2,x3]) (.int .i64 2)).run Tryz.prog w=.ok x2 w:=fun _=>by kernel_rfl
theorem word3 (x0 x1 x2 x3:Value):∀w,(Instr.index 30 (.agg #[x0,x1,x2,x3]) (.int .i64 3)).run Tryz.prog w=.ok x3 w:=fun _=>by kernel_rfl
abbrev ones:Value:=.int .u64 18446744073709551615
theorem xor0:bits BinOp.xor IntKind.u64 (if IntKind.u64.signed=true then -1 else IntKind.u64.max) 0=18446744073709551615:=by kernel_rfl
def notC (k j:Nat):Value:=if j<k then ones else .int .u64 0
def NotRel (w:World) (i:Value) (wr:World):Prop:=
 ∃k:Nat,k≤4∧i=.int .i64 k∧Hid (wr.heap[w.heap.size]?=some (.cells #[notC k 0,notC k 1,notC k 2,notC k 3] 30 (0,0)))∧Hid (wr.heap[w.heap.size+1]?=some (.cells #[.int .u64 0,.int .u64 0,.int .u64 0,.int .u64 0] 30 (0,0)))∧Hid (Below w.heap.size w wr)
set_option maxRecDepth 100000 in
set_option maxHeartbeats 1600000 in
theorem not_zero (w:World):
  Calls Tryz.prog 59 #[.agg #[.int .u64 0,.int .u64 0,.int .u64 0,.int .u64 0]] w fun e w'=>e=.returned (.agg #[ones,ones,ones,ones])∧Below w.heap.size w w':=by
 go_enter Tryz.func59,Tryz.ntmps59
 go_wp2_with fail
 go_loopw [6] (fun i wr=>NotRel w i wr) (fun i _=>4-(intOf i).toNat)
 case atStart=>
  have h1:=bx_new (w.alloc (.cells #[.int .u64 0,.int .u64 0,.int .u64 0,.int .u64 0] 30)) (.cells #[.int .u64 0,.int .u64 0,.int .u64 0,.int .u64 0] 30)
  rw[World.size_alloc]at h1
  exact⟨0,Nat.zero_le _,rfl,Lib.hid ((Below.heap_alloc _ _ _ (by simp)).trans (bx_new w _)),Lib.hid h1,Lib.hid (bx2 w _ _)⟩
 case round=>
  obtain⟨k,hk,rfl,HB0,HB1,HB⟩:=hrel
  obtain⟨b0,b1,b2,b3,bf⟩:=blk4 HB0.out
  obtain⟨d0,d1,d2,d3,df⟩:=blk4 HB1.out
  have f0:=bf 0;have f1:=bf 1;have f2:=bf 2;have f3:=bf 3
  have g0:=df 0;have g1:=df 1;have g2:=df 2;have g3:=df 3
  have HN:=Lib.hid (show ∀(j:Nat) (u:Value),(wr.setCell ⟨w.heap.size,j,none⟩ u).heap[w.heap.size+1]?=some (.cells #[.int .u64 0,.int .u64 0,.int .u64 0,.int .u64 0] 30 (0,0))from fun j u=>(Below.heap_setCell _ _ _ _ (by show w.heap.size+1≠w.heap.size;omega)).trans HB1.out)
  have HS:=Lib.hid (show ∀(j:Nat) (u:Value),Below w.heap.size w (wr.setCell ⟨w.heap.size,j,none⟩ u)from fun j u=>HB.out.setCell (p:=⟨w.heap.size,j,none⟩) (Nat.le_refl _) u)
  clear bf df
  have i0:=word0 (.int .u64 0) (.int .u64 0) (.int .u64 0) (.int .u64 0);have i1:=word1 (.int .u64 0) (.int .u64 0) (.int .u64 0) (.int .u64 0);have i2:=word2 (.int .u64 0) (.int .u64 0) (.int .u64 0) (.int .u64 0);have i3:=word3 (.int .u64 0) (.int .u64 0) (.int .u64 0) (.int .u64 0)
  generalize hz:(k:Int)=z
  obtain⟨rfl,rfl⟩|⟨rfl,rfl⟩|⟨rfl,rfl⟩|⟨rfl,rfl⟩|⟨rfl,rfl⟩:(k=0∧z=0)∨(k=1∧z=1)∨(k=2∧z=2)∨(k=3∧z=3)∨(k=4∧z=4):=by omega
  ·go_wp2_with fail
   rw[xor0]
   exact⟨⟨1,by omega,rfl,Lib.hid (by have h:=heap_setCell_same wr w.heap.size 0 _ 30 ones HB0.out;simpa[notC]using h),Lib.hid (HN.out 0 _),Lib.hid (HS.out 0 _)⟩,by simp only[intOf];decide⟩
  ·go_wp2_with fail
   rw[xor0]
   exact⟨⟨2,by omega,rfl,Lib.hid (by have h:=heap_setCell_same wr w.heap.size 1 _ 30 ones HB0.out;simpa[notC]using h),Lib.hid (HN.out 1 _),Lib.hid (HS.out 1 _)⟩,by simp only[intOf];decide⟩
  ·go_wp2_with fail
   rw[xor0]
   exact⟨⟨3,by omega,rfl,Lib.hid (by have h:=heap_setCell_same wr w.heap.size 2 _ 30 ones HB0.out;simpa[notC]using h),Lib.hid (HN.out 2 _),Lib.hid (HS.out 2 _)⟩,by simp only[intOf];decide⟩
  ·go_wp2_with fail
   rw[xor0]
   exact⟨⟨4,by omega,rfl,Lib.hid (by have h:=heap_setCell_same wr w.heap.size 3 _ 30 ones HB0.out;simpa[notC]using h),Lib.hid (HN.out 3 _),Lib.hid (HS.out 3 _)⟩,by simp only[intOf];decide⟩
  ·clear b0 b1 b2 b3
   obtain⟨b0,b1,b2,b3,_⟩:=blk4 (show wr.heap[w.heap.size]?=some (.cells #[ones,ones,ones,ones] 30 (0,0))from by simpa[notC]using HB0.out)
   go_wp2_with fail
   have hbe:Below w.heap.size w ((((wr.setCell ⟨w.heap.size+1,0,none⟩ ones).setCell ⟨w.heap.size+1,1,none⟩ ones).setCell ⟨w.heap.size+1,2,none⟩ ones).setCell ⟨w.heap.size+1,3,none⟩ ones):=(((HB.out.setCell (p:=⟨w.heap.size+1,0,none⟩) (Nat.le_succ _) _).setCell (p:=⟨w.heap.size+1,1,none⟩) (Nat.le_succ _) _).setCell (p:=⟨w.heap.size+1,2,none⟩) (Nat.le_succ _) _).setCell (p:=⟨w.heap.size+1,3,none⟩) (Nat.le_succ _) _
   have e0:=heap_setCell_same wr (w.heap.size+1) 0 _ 30 ones HB1.out
   have e1:=heap_setCell_same _ (w.heap.size+1) 1 _ 30 ones e0
   have e2:=heap_setCell_same _ (w.heap.size+1) 2 _ 30 ones e1
   have e3:=heap_setCell_same _ (w.heap.size+1) 3 _ 30 ones e2
   obtain⟨s0,s1,s2,s3,_⟩:=blk4 (x0:=ones) (x1:=ones) (x2:=ones) (x3:=ones) (by simpa using e3)
   refine bodyPost_ret (v:=.agg #[ones,ones,ones,ones]) (by simp[results,Tryz.results59,go_sem,s0,s1,s2,s3]) rfl ⟨rfl,hbe⟩
set_option maxRecDepth 100000 in
set_option maxHeartbeats 1600000 in
theorem all_any (w:World):
  Calls Tryz.prog 32 #[] w fun e w'=>e=.returned (.agg #[ones,ones,ones,ones])∧Below w.heap.size w w':=by
 have HB0:=Lib.hid (bx1 w (.cells #[.int .u64 0,.int .u64 0,.int .u64 0,.int .u64 0] 30))
 have HK0:=Lib.hid (bx_new w (.cells #[.int .u64 0,.int .u64 0,.int .u64 0,.int .u64 0] 30))
 go_enter Tryz.func32,Tryz.ntmps32
 go_wp2_with fail
 refine(not_zero _).mono ?_
 rintro e w1 ⟨rfl,hb⟩
 have HK1:=Lib.hid (bx_kept hb HK0.out);have HB1:=Lib.hid (Below.step HB0.out hb)
 obtain⟨b0,b1,b2,b3,bf⟩:=blk4 HK1.out
 have f0:=bf 0;have f1:=bf 1;have f2:=bf 2;have f3:=bf 3
 clear bf hb
 go_wp2_with fail
 have hbe:Below w.heap.size w ((((w1.setCell ⟨w.heap.size,0,none⟩ ones).setCell ⟨w.heap.size,1,none⟩ ones).setCell ⟨w.heap.size,2,none⟩ ones).setCell ⟨w.heap.size,3,none⟩ ones):=(((HB1.out.setCell (p:=⟨w.heap.size,0,none⟩) (Nat.le_refl _) _).setCell (p:=⟨w.heap.size,1,none⟩) (Nat.le_refl _) _).setCell (p:=⟨w.heap.size,2,none⟩) (Nat.le_refl _) _).setCell (p:=⟨w.heap.size,3,none⟩) (Nat.le_refl _) _
 have e0:=heap_setCell_same w1 w.heap.size 0 _ 30 ones HK1.out
 have e1:=heap_setCell_same _ w.heap.size 1 _ 30 ones e0
 have e2:=heap_setCell_same _ w.heap.size 2 _ 30 ones e1
 have e3:=heap_setCell_same _ w.heap.size 3 _ 30 ones e2
 obtain⟨s0,s1,s2,s3,_⟩:=blk4 (x0:=ones) (x1:=ones) (x2:=ones) (x3:=ones) (by simpa using e3)
 refine bodyPost_ret (v:=.agg #[ones,ones,ones,ones]) (by simp[results,Tryz.results32,go_sem,s0,s1,s2,s3]) rfl ⟨rfl,hbe⟩
end Go.Proofs.YtpfokabdpmjobaaGreatDoor
namespace Go.Proofs.YtpfokabdpmjobaaGreatDoor
open Go.RowKit Go.Maps
set_option linter.unusedSimpArgs false
set_option linter.unusedVariables false
abbrev u8V (c:UInt8):Value:=.int .u8 (c.toNat:Int)
def heldR:Value→Option (DataW Value×List MemPlace):=fun v=>some (.held v,[])
def byteK (c:UInt8):Lit:=.int .u8 (c.toNat:Int)
theorem byteK_ne {c d:UInt8} (h:c≠d):byteK c≠byteK d:=fun e=>h (by
 unfold byteK at e
 injection e with _ e
 exact UInt8.toNat_inj.1 (by omega))
theorem byteLaw:Keyed Tryz.prog 5:=int_keyed Tryz.underlying5
theorem byteKey (c:UInt8):keyOf Tryz.prog 5 (.int .u8 (c.toNat:Int))=some (byteK c):=keyOf_int_mk Tryz.underlying5 (WalkArith.wf_u8 (by have:=c.toNat_lt;omega))
def BMap (w:World) (b n:Nat) (f:UInt8→Option Value):Prop:=
 ∃D,w.ownsMap Tryz.prog 5 heldR b n D∧ ∀c,(f c=none∧has D (byteK c)=false)∨ ∃v,f c=some v∧has D (byteK c)=true∧ ∀z,D.atKey (byteK c) z=.held v
theorem BMap.made (w:World):BMap (w.alloc (.map #[] 0)) w.heap.size 0 (fun _=>none):=⟨_,World.ownsMap_made w _ _ _,fun c=>.inl ⟨rfl,rfl⟩⟩
theorem BMap.lt {w:World} {b n:Nat} {f:UInt8→Option Value} (h:BMap w b n f):b<w.heap.size:=h.elim fun _ h=>h.1.lt
theorem BMap.mono {w:World} {b n m:Nat} {f:UInt8→Option Value} (h:BMap w b n f) (hm:n≤m):BMap w b m f:=h.elim fun D h=>⟨D,h.1.mono hm,h.2⟩
theorem BMap.kept {w w':World} {b n:Nat} {f:UInt8→Option Value} {row:Option Nat} (h:BMap w b n f) (hg:w.grownBy w' row) (hne:some b≠row):BMap w' b n f:=h.elim fun D h=>⟨D,h.1.kept hg hne,h.2⟩
theorem BMap.below {w w':World} {b n:Nat} {f:UInt8→Option Value} (h:BMap w b n f) (hb:Below w.heap.size w w'):BMap w' b n f:=
 h.kept (row:=none) ⟨hb.os,hb.tape,hb.output,hb.size,fun k hk _=>hb.block k hk⟩ (by simp)
theorem BMap.look {w:World} {b n:Nat} {f:UInt8→Option Value} (h:BMap w b n f) {t e:TypeId} (ht:Tryz.prog.underlying t=some (.map 5 e)) {z:Value} (hz:(zeroValue e).run Tryz.prog w=.ok z w) (c:UInt8):
  (Instr.lookup t (.map (some b)) (.int .u8 (c.toNat:Int)) true).run Tryz.prog w=.ok (.tuple #[(f c).getD z,.bool (f c).isSome]) w:=by
 obtain⟨D,hown,hf⟩:=h
 obtain⟨v,ps,hrun,hv⟩:=hown.look_ok (R:=heldR) byteLaw ht hz (zd:=.held z) (zp:=[]) rfl (byteKey c)
 rw[hrun]
 have hv:DataW.held v=D.atKey (byteK c) (.held z):=congrArg Prod.fst (Option.some.inj (show some (DataW.held v,([]:List MemPlace))=some (D.atKey (byteK c) (.held z),ps)from hv))
 rcases hf c with⟨h1,h2⟩|⟨u,h1,h2,h3⟩
 ·rw[atKey_of_not_has h2]at hv
  have hv:=DataW.held.inj hv
  rw[h1,h2,hv];rfl
 ·rw[h3]at hv
  have hv:=DataW.held.inj hv
  rw[h1,h2,hv];rfl
theorem BMap.store {w:World} {b n:Nat} {f:UInt8→Option Value} (h:BMap w b n f) {t e:TypeId} (ht:Tryz.prog.underlying t=some (.map 5 e)) (hn:n<maxLen) (c:UInt8) (v:Value):
  ∃w',(Instr.mapUpdate t (.map (some b)) (.int .u8 (c.toNat:Int)) v).run Tryz.prog w=.ok () w'∧BMap w' b (n+1) (fun d=>if d=c then some v else f d)∧w.grownBy w' (some b):=by
 obtain⟨D,hown,hf⟩:=h
 obtain⟨w',hrun,r1,r2⟩:=hown.store (R:=heldR) byteLaw ht hn (byteKey c) (d:=.held v) (ps:=[]) (val:=v) rfl
 refine⟨w',hrun,⟨_,r1,fun d=> ?_⟩,r2.grown⟩
 have hk:WideAt.IsKeyLit (byteK c):=by simp[byteK,WideAt.IsKeyLit]
 by_cases hd:d=c
 ·subst hd
  right
  exact⟨v,by simp,has_put_same hown.isMap hk _,fun z=>atKey_put_same hown.isMap hk _ z⟩
 ·rcases hf d with⟨h1,h2⟩|⟨u,h1,h2,h3⟩
  ·exact .inl ⟨by simp[hd,h1],by rw[has_put_other (byteK_ne hd)];exact h2⟩
  ·exact .inr ⟨u,by simp[hd,h1],by rw[has_put_other (byteK_ne hd)];exact h2,fun z=>by rw[atKey_put_other (byteK_ne hd)];exact h3 z⟩
theorem BMap.ext {w:World} {b n:Nat} {f g:UInt8→Option Value} (h:BMap w b n f) (e:∀c,f c=g c):BMap w b n g:=(funext e)▸h
section
variable {w:World} {ops:Array Oper} {rest:List Oper} {o:Oper} {a:Act} {Q:Exit→Act→World→Prop}
theorem wpList_look_bmap (hg:o.guard=none) (m x:Operand) (t:TypeId) (hop:o.op=Op.lookup t m x true) (e:TypeId) (ht:Tryz.prog.underlying t=some (.map 5 e)) {z:Value} (hz:(zeroValue e).run Tryz.prog w=.ok z w)
  (b n:Nat) (f:UInt8→Option Value) (hm:a.eval m=.map (some b)) (h:BMap w b n f) (c:UInt8) (k:Int) (hc:(c.toNat:Int)=k) (hx:a.eval x=.int .u8 k)
  (hK:wpList Tryz.prog ops Q rest (a.put o.dst (.tuple #[(f c).getD z,.bool (f c).isSome])) w):wpList Tryz.prog ops Q (o::rest) a w:=by
 subst hc
 refine wpList_plain hg fun K' hK'=> ?_
 unfold Oper.wp
 simp[execOp,hop,hm,hx,h.look ht hz c,Result.andThen]
 exact hK' _ _ hK
theorem wpListIn_look_bmap {F:Fence} {nF:Nat} (hg:o.guard=none) (m x:Operand) (t:TypeId) (hop:o.op=Op.lookup t m x true) (e:TypeId) (ht:Tryz.prog.underlying t=some (.map 5 e)) {z:Value} (hz:(zeroValue e).run Tryz.prog w=.ok z w)
  (b n:Nat) (f:UInt8→Option Value) (hm:a.eval m=.map (some b)) (h:BMap w b n f) (c:UInt8) (k:Int) (hc:(c.toNat:Int)=k) (hx:a.eval x=.int .u8 k)
  (hK:wpListIn F nF Tryz.prog ops Q rest (a.put o.dst (.tuple #[(f c).getD z,.bool (f c).isSome])) w):wpListIn F nF Tryz.prog ops Q (o::rest) a w:=by
 subst hc
 refine wpListIn_plain hg fun K' hK'=> ?_
 unfold Oper.wpIn
 refine⟨by simp[Oper.about,hop],?_⟩
 rw[Oper.semAt_plain F _ _ (by rw[hop];intro c hc';cases hc')]
 simp[execOp,hop,hm,hx,h.look ht hz c,Result.andThen]
 exact hK' _ _ hK
theorem wpList_store_bmap (hg:o.guard=none) (m x v:Operand) (t:TypeId) (hop:o.op=Op.mapUpdate t m x v) (e:TypeId) (ht:Tryz.prog.underlying t=some (.map 5 e))
  (b n:Nat) (f:UInt8→Option Value) (hm:a.eval m=.map (some b)) (h:BMap w b n f) (hn:n<maxLen) (c:UInt8) (k:Int) (hc:(c.toNat:Int)=k) (hx:a.eval x=.int .u8 k) (val:Value) (hv:a.eval v=val)
  (hK:∀w',Hid (BMap w' b (n+1) (fun d=>if d=c then some val else f d))→Hid (w.grownBy w' (some b))→wpList Tryz.prog ops Q rest (a.put o.dst undef) w'):wpList Tryz.prog ops Q (o::rest) a w:=by
 subst hc
 refine wpList_plain hg fun K' hK'=> ?_
 obtain⟨w',hrun,r1,r2⟩:=h.store ht hn c val
 unfold Oper.wp
 simp[execOp,hop,hm,hx,hv,hrun,Result.andThen]
 exact hK' _ _ (hK w' (Lib.hid r1) (Lib.hid r2))
theorem wpList_insert_bmap (hg:o.guard=none) (m x v:Operand) (t:TypeId) (hop:o.op=Op.insert t m x v) (e:TypeId) (ht:Tryz.prog.underlying t=some (.map 5 e))
  (b n:Nat) (f:UInt8→Option Value) (hm:a.eval m=.map (some b)) (h:BMap w b n f) (hn:n<maxLen) (c:UInt8) (k:Int) (hc:(c.toNat:Int)=k) (hx:a.eval x=.int .u8 k) (val:Value) (hv:a.eval v=val)
  (hK:∀w',Hid (BMap w' b (n+1) (fun d=>if d=c then some val else f d))→Hid (w.grownBy w' (some b))→wpList Tryz.prog ops Q rest (a.put o.dst undef) w'):wpList Tryz.prog ops Q (o::rest) a w:=by
 subst hc
 refine wpList_plain hg fun K' hK'=> ?_
 obtain⟨w',hrun,r1,r2⟩:=h.store ht hn c val
 unfold Oper.wp
 simp[execOp,hop,hm,hx,hv,hrun,Result.andThen]
 exact hK' _ _ (hK w' (Lib.hid r1) (Lib.hid r2))
end
end Go.Proofs.YtpfokabdpmjobaaGreatDoor
