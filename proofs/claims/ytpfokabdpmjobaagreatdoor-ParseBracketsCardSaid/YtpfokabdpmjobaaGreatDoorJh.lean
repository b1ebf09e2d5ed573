/- Parsing, plain: the words' places do not matter; words in front, and behind. Rules behind rules, plain. The words ahead of what is wrong, plain; what is so of nodes stays so when a tree is made normal. Plain laws for LexStand: gaps, single words, the text ahead of what is wrong and behind it. The words of the text ahead of a word, plain; a reader's begin. -/
import Derived.Test.YtpfokabdpmjobaaGreatDoorJb
import Derived.Test.YtpfokabdpmjobaaGreatDoorJd
namespace Go.Proofs.YtpfokabdpmjobaaGreatDoor
set_option linter.unusedSimpArgs false
set_option linter.unusedVariables false
def bareW (x:Wd):Wd:={x with frm:=0,til:=0}
theorem kd_bare (W:List Wd) (i:Nat):kdW (W.map bareW) i=kdW W i:=by
 simp only[kdW,List.getElem?_map,Option.map_map];rfl
theorem wd_bare (W:List Wd) (i:Nat):wdW (W.map bareW) i=bareW (wdW W i):=by
 simp only[wdW,List.getElem?_map]
 cases W[i]? <;> rfl
theorem suf_bare (W:List Wd) (i:Nat):sufW (W.map bareW) i=sufW W i:=by simp only[sufW,kd_bare,wd_bare];rfl
theorem leaf_bare (W:List Wd) (i:Nat):leafW (wdW (W.map bareW) i)=leafW (wdW W i):=by rw[wd_bare];rfl
theorem isLeaf_bare (W:List Wd) (i:Nat):isLeaf (W.map bareW) i=isLeaf W i:=by simp only[isLeaf,kd_bare]
theorem suff_bare (W:List Wd):∀(f i:Nat) (t:TT),suffT (W.map bareW) f i t=suffT W f i t
 |0,i,t=>rfl
 |f+1,i,t=>by
  rw[suffT,suffT,suf_bare]
  cases sufW W i with
  |none=>rfl
  |some p=>exact suff_bare W f (i+1) _
theorem prim_bare (W:List Wd) (top:Op) (i:Nat) (t:TT):primT (W.map bareW) top i t=primT W top i t:=by simp only[primT,suff_bare,List.length_map]
theorem text_bare (W:List Wd) (i:Nat):(wdW (W.map bareW) i).text=(wdW W i).text:=by rw[wd_bare];rfl
theorem step_bare (W:List Wd) (s:PS):stepP (W.map bareW) s=stepP W s:=by
 simp only[stepP,isLeaf_bare,kd_bare,leaf_bare,prim_bare,text_bare]
theorem run_bare (W:List Wd):∀(f:Nat) (s:PS),runP (W.map bareW) f s=runP W f s
 |0,s=>rfl
 |f+1,s=>by
  rw[runP,runP,step_bare]
  cases stepP W s with
  |inl s'=>exact run_bare W f s'
  |inr r=>rfl
theorem choice_bare (W:List Wd) (i:Nat) (C:List Nat):choiceP (W.map bareW) i C=choiceP W i C:=by simp only[choiceP,run_bare,List.length_map]
theorem rules_bare' (W:List Wd):∀(f i:Nat) (a:List (Nat×TT)) (C:List Nat),rulesF (W.map bareW) f i a C=rulesF W f i a C
 |0,i,a,C=>rfl
 |f+1,i,a,C=>by
  rw[rulesF,rulesF]
  simp only[kd_bare,choice_bare,List.length_map,rules_bare' W f]
theorem rules_bare (W:List Wd):rulesP (W.map bareW)=rulesP W:=by simp only[rulesP,rules_bare',List.length_map]
theorem rules_same {W V:List Wd} (h:W.map bareW=V.map bareW):rulesP W=rulesP V:=by rw[←rules_bare W,h,rules_bare]
theorem choice_same {W V:List Wd} (h:W.map bareW=V.map bareW) (i:Nat) (C:List Nat):choiceP W i C=choiceP V i C:=by rw[←choice_bare W,h,choice_bare]
section
variable (A V:List Wd)
theorem kd_shift (i:Nat):kdW (A++V) (A.length+i)=kdW V i:=by
 simp only[kdW,List.getElem?_append_right (Nat.le_add_right A.length i),Nat.add_sub_cancel_left]
theorem wd_shift (i:Nat):wdW (A++V) (A.length+i)=wdW V i:=by
 simp only[wdW,List.getElem?_append_right (Nat.le_add_right A.length i),Nat.add_sub_cancel_left]
theorem kd_shift1 (i j:Nat):kdW (A++V) (A.length+i+j)=kdW V (i+j):=by rw[Nat.add_assoc];exact kd_shift A V _
theorem wd_shift1 (i j:Nat):wdW (A++V) (A.length+i+j)=wdW V (i+j):=by rw[Nat.add_assoc];exact wd_shift A V _
theorem suf_shift (i:Nat):sufW (A++V) (A.length+i)=sufW V i:=by simp only[sufW,kd_shift,wd_shift]
theorem isLeaf_shift (i:Nat):isLeaf (A++V) (A.length+i)=isLeaf V i:=by simp only[isLeaf,kd_shift,kd_shift1]
theorem suff_shift:∀(f i:Nat) (t:TT),suffT (A++V) f (A.length+i) t=((suffT V f i t).1,A.length+(suffT V f i t).2)
 |0,i,t=>rfl
 |f+1,i,t=>by
  rw[suffT,suffT,suf_shift]
  cases sufW V i with
  |none=>rfl
  |some p=>exact suff_shift f (i+1) _
theorem prim_shift (top:Op) (i:Nat) (t:TT):primT (A++V) top (A.length+i) t=((primT V top i t).1,A.length+(primT V top i t).2):=by
 simp only[primT]
 rw[show(A++V).length-(A.length+i)=V.length-i by rw[List.length_append];omega,suff_shift]
def movePR (a:Nat):PR→PR
 |.fail k=>.fail (a+k)
 |.done j t=>.done (a+j) t
def movePS (a:Nat) (D:List Nat) (s:PS):PS:=⟨a+s.i,s.st,D++s.calls.map (a + ·)⟩
def moveS (a:Nat) (D:List Nat):PS ⊕ PR→PS ⊕ PR
 |.inl s=>.inl (movePS a D s)
 |.inr r=>.inr (movePR a r)
theorem step_shift (D:List Nat) (s:PS):stepP (A++V) (movePS A.length D s)=moveS A.length D (stepP V s):=by
 obtain⟨i,st,C⟩:=s
 have p1:=fun top t=>prim_shift A V top (i+1) t
 have e1:A.length+(i+1)=A.length+i+1:=rfl
 rw[e1]at p1
 cases st with
 |nil=>rfl
 |cons top rest=>
  simp only[stepP,movePS,isLeaf_shift,kd_shift,kd_shift1,wd_shift,wd_shift1,p1]
  split
  ·simp only[moveS,movePS]
   split <;> simp
  split
  ·simp only[moveS,movePS,Nat.add_assoc]
  split
  ·simp only[moveS,movePS,Nat.add_assoc]
  split
  ·split
   ·split
    ·simp only[moveS,movePS,Nat.add_assoc]
    ·simp only[moveS,movePR,Nat.add_assoc]
   ·simp only[moveS,movePR,Nat.add_assoc]
  split
  ·simp only[moveS,movePR]
  split
  ·simp only[moveS,movePS,Nat.add_assoc]
  split
  ·simp only[moveS,movePR]
  split
  ·simp only[moveS,movePR]
  ·cases rest with
   |nil=>simp only[moveS,movePR]
   |cons up rest=>simp only[moveS,movePS]
end
section
variable {V Z:List Wd}
theorem kd_left {i:Nat} (h:i<V.length):kdW (V++Z) i=kdW V i:=by simp only[kdW,List.getElem?_append_left h]
theorem wd_left {i:Nat} (h:i<V.length):wdW (V++Z) i=wdW V i:=by simp only[wdW,List.getElem?_append_left h]
def Stops (Z:List Wd):Prop:=kdW Z 0≠2∧kdW Z 0≠6∧kdW Z 0≠7∧kdW Z 0≠8∧kdW Z 0≠14
theorem kd_edge:kdW (V++Z) V.length=kdW Z 0:=kd_shift V Z 0
theorem suf_left {i:Nat} (h:i<V.length):sufW (V++Z) i=sufW V i:=by simp only[sufW,kd_left h,wd_left h]
theorem suf_edge (hz:Stops Z):sufW (V++Z) V.length=none:=by
 obtain⟨_,h1,h2,h3,h4⟩:=hz
 simp only[sufW,kd_edge,if_neg h1,if_neg h2,if_neg h3,if_neg h4]
theorem suf_end {i:Nat} (h:V.length≤i):sufW V i=none:=by simp[sufW,kd_end h]
theorem suff_left (hz:Stops Z):∀(n i:Nat) (t:TT),V.length-i=n→i≤V.length→suffT (V++Z) ((V++Z).length-i) i t=suffT V (V.length-i) i t
 |0,i,t,hn,hi=>by
  obtain rfl:i=V.length:=by omega
  rw[suff_none (suf_edge hz),suff_none (suf_end (Nat.le_refl _))]
 |n+1,i,t,hn,hi=>by
  have hlt:i<V.length:=by omega
  cases h:sufW V i with
  |none=>rw[suff_none h,suff_none (by rw[suf_left hlt];exact h)]
  |some p=>
   obtain⟨lo,hi'⟩:=p
   rw[suff_some h,suff_some (by rw[suf_left hlt];exact h)]
   exact suff_left hz n (i+1) _ (by omega) (by omega)
theorem prim_left (hz:Stops Z) {top:Op} {i:Nat} {t:TT} (hi:i≤V.length):primT (V++Z) top i t=primT V top i t:=by simp only[primT,suff_left hz _ i _ rfl hi]
theorem isLeaf_left (hz:Stops Z) {i:Nat} (h:i<V.length):isLeaf (V++Z) i=isLeaf V i:=by
 simp only[isLeaf,kd_left h]
 rcases Nat.lt_or_ge (i+1) V.length with h1|h1
 ·rw[kd_left h1]
 ·obtain e:i+1=V.length:=by omega
  rw[e,kd_edge,kd_end (Nat.le_refl _)]
  simp[hz.1]
theorem step_left (hz:Stops Z) {s:PS} (h:s.i<V.length) (hn:∀k,stepP V s≠.inr (.fail k)):stepP (V++Z) s=stepP V s:=by
 obtain⟨i,st,C⟩:=s
 cases st with
 |nil=>rfl
 |cons top rest=>
  have p1:=fun top t=>prim_left (Z:=Z) hz (top:=top) (i:=i+1) (t:=t) (show i+1≤V.length from h)
  simp only at h
  by_cases h11:kdW V i=11
  ·have hl:isLeaf V i=false:=by simp[isLeaf,h11]
   simp only[stepP,hl,h11]at hn
   simp at hn
   by_cases h1:kdW V (i+1)=1
   ·by_cases h2:kdW V (i+2)=13
    ·have l2:i+2<V.length:=kd_lt (by omega)
     simp only[stepP,isLeaf_left hz h,kd_left h,kd_left (show i+1<V.length by omega),kd_left l2,wd_left (show i+1<V.length by omega),hl,h11,h1,h2]
     simp
    ·simp[h1,h2]at hn
   ·simp[h1]at hn
  ·simp only[stepP,isLeaf_left hz h,kd_left h,wd_left h,p1,if_neg h11]
end
end Go.Proofs.YtpfokabdpmjobaaGreatDoor
namespace Go.Proofs.YtpfokabdpmjobaaGreatDoor
set_option linter.unusedSimpArgs false
set_option linter.unusedVariables false
theorem run_le {W:List Wd}:∀(f:Nat) (s:PS),s.i≤W.length→ ∀j t C,runP W f s=(.done j t,C)→s.i≤j∧j≤W.length
 |0,s,h,j,t,C,hr=>by simp[runP]at hr
 |f+1,s,h,j,t,C,hr=>by
  rw[runP]at hr
  cases hs:stepP W s with
  |inl s'=>
   rw[hs]at hr
   have h1:=step_lt hs
   have h2:=run_le f s' h1.2 j t C hr
   omega
  |inr r=>
   rw[hs]at hr
   obtain⟨i,st,C'⟩:=s
   simp only[Prod.mk.injEq]at hr
   obtain⟨rfl,rfl⟩:=hr
   have:j=i:=by
    cases st with
    |nil=>simp[stepP]at hs
    |cons top rest=>
     simp only[stepP]at hs
     repeat' (split at hs)
     all_goals first|(injection hs with hs;injection hs with e1 e2;exact e1.symm)|cases hs
   subst this
   exact⟨Nat.le_refl _,h⟩
theorem choice_le {W:List Wd} {i j:Nat} {C C':List Nat} {t:TT} (hi:i≤W.length) (h:choiceP W i C=(.done j t,C')):i≤j∧j≤W.length:=run_le _ ⟨i,[botP],C⟩ hi j t C' h
theorem rules_fuel {W:List Wd}:∀(f g i:Nat) (acc:List (Nat×TT)) (C:List Nat),W.length<i+f→W.length<i+g→rulesF W f i acc C=rulesF W g i acc C
 |0,0,_,_,_,_,_=>rfl
 |0,g+1,i,acc,C,hf,hg=>by rw[rulesF,rulesF,if_pos (by rw[kd_end (by omega)];decide)]
 |f+1,0,i,acc,C,hf,hg=>by rw[rulesF,rulesF,if_pos (by rw[kd_end (by omega)];decide)]
 |f+1,g+1,i,acc,C,hf,hg=>by
  rw[rulesF,rulesF]
  split
  ·rfl
  split
  ·rfl
  rename_i h1 h2
  have hl:i+1<W.length:=kd_lt (by omega)
  cases h:choiceP W (i+2) C with
  |mk r cs=>
   cases r with
   |fail k=>rfl
   |done j t=>
    have hj:=choice_le (by omega) h
    simp only
    split
    ·rfl
    ·exact rules_fuel f g j _ cs (by omega) (by omega)
section
variable {V Z:List Wd}
theorem step_end {W:List Wd} {i:Nat} {st:List Op} {C:List Nat} {j:Nat} {t:TT} (hi:W.length≤i) (h:stepP W ⟨i,st,C⟩=.inr (.done j t)):
  j=i∧ ∃top rest,st=top::rest∧top.heads=[]∧top.fin=0∧t=joinP choN (wayT top).ways:=by
 cases st with
 |nil=>simp[stepP]at h
 |cons top rest=>
  have h0:kdW W i=0:=kd_end hi
  have hl:isLeaf W i=false:=by simp[isLeaf,h0]
  simp only[stepP,hl,h0]at h
  simp only[Bool.false_eq_true,if_false,Nat.reduceEqDiff,or_self,ne_eq]at h
  split at h
  ·cases h
  ·rename_i h1
   split at h
   ·rename_i h2
    injection h with h;injection h with e1 e2
    exact⟨e1.symm,top,rest,rfl,by simpa using h1,h2,e2.symm⟩
   ·rename_i h2
    split at h
    ·cases h
    ·cases rest with
     |nil=>cases h
     |cons up rest=>cases h
end
def allTT (p:Nd→Prop):TT→Prop
 |.mk n ks=>p n∧go ks
 where go:List TT→Prop
  |[]=>True
  |t::ts=>allTT p t∧go ts
theorem allTT_go (p:Nd→Prop):∀ts,allTT.go p ts↔ ∀t∈ts,allTT p t
 |[]=>by simp[allTT.go]
 |t::ts=>by rw[allTT.go,allTT_go p ts];simp
theorem allTT_mk {p:Nd→Prop} {n:Nd} {ks:List TT}:allTT p (.mk n ks)↔p n∧ ∀t∈ks,allTT p t:=by rw[allTT,allTT_go]
theorem allTT_mono {p q:Nd→Prop} (h:∀n,p n→q n) {x:TT}:allTT p x→allTT q x:=by
 induction x using TT.ind with
 |h n ks ih=>exact fun hx=>allTT_mk.2 ⟨h _ (allTT_mk.1 hx).1,fun t ht=>ih t ht ((allTT_mk.1 hx).2 t ht)⟩
def calledN (W:List Wd) (C:List Nat) (n:Nd):Prop:=n.kind=3→ ∃i∈C,n.text=⟨(wdW W i).text.toArray⟩
theorem makes_called (W:List Wd):Makes W fun C t=>allTT (calledN W C) t where
 mono C D t h:=allTT_mono (fun n hn hk=>by obtain⟨i,hi,e⟩:=hn hk;exact⟨i,List.mem_append_left _ hi,e⟩) h
 empty C:=allTT_mk.2 ⟨fun h=>by simp[emptyN]at h,by simp⟩
 leaf C i h:=allTT_mk.2 ⟨fun hk=>by
  by_cases h1:kdW W i=1
  ·rw[if_pos h1]
   have hl:=leaf_lt h
   have h1':(wdW W i).kind=1:=by rw[wd_at hl,←kd_at hl];exact h1
   exact⟨i,by simp,by simp[leafW,h1',ruleN]⟩
  ·have hl:=leaf_lt h
   have h1':¬(wdW W i).kind=1:=by rw[wd_at hl,←kd_at hl];exact h1
   unfold leafW at hk
   rw[if_neg h1']at hk
   split at hk
   ·split at hk <;> simp[emptyN,textN]at hk
   ·simp[setW]at hk,by simp⟩
 rep C i lo hi t hs h:=allTT_mk.2 ⟨fun hk=>by simp[repN]at hk,fun x hx=>by obtain rfl:=List.mem_singleton.1 hx;exact h⟩
 head C k t hk h:=allTT_mk.2 ⟨fun h3=>by rcases hk with rfl|rfl <;> simp[kindN]at h3,fun x hx=>by obtain rfl:=List.mem_singleton.1 hx;exact h⟩
 seq C n l hn hl h:=allTT_mk.2 ⟨fun h3=>by rcases hn with rfl|rfl <;> simp[seqN,choN]at h3,h⟩
 cap C nm t hm h:=allTT_mk.2 ⟨fun h3=>by simp[capN]at h3,fun x hx=>by obtain rfl:=List.mem_singleton.1 hx;exact h⟩
end Go.Proofs.YtpfokabdpmjobaaGreatDoor
namespace Go.Proofs.YtpfokabdpmjobaaGreatDoor
set_option linter.unusedSimpArgs false
set_option linter.unusedVariables false
def PR.at:PR→Nat
 |.fail k=>k
 |.done k _=>k
theorem step_res_ge {W:List Wd} {s:PS} {r:PR} (h:stepP W s=.inr r):s.i≤r.at:=by
 obtain⟨i,st,C⟩:=s
 cases st with
 |nil=>simp only[stepP,Sum.inr.injEq]at h;subst h;exact Nat.le_refl _
 |cons top rest=>
  simp only[stepP]at h
  repeat' (split at h)
  all_goals first|(injection h with h;subst h;simp[PR.at])|cases h
theorem run_res_ge {W:List Wd}:∀(f:Nat) (s:PS),s.i≤(runP W f s).1.at
 |0,s=>Nat.le_refl _
 |f+1,s=>by
  rw[runP]
  cases hs:stepP W s with
  |inl s'=>have h1:=step_lt hs;have h2:=run_res_ge (W:=W) f s';simp only;omega
  |inr r=>exact step_res_ge hs
section
variable {V Z:List Wd}
theorem suff_in:∀(n i:Nat) (t:TT),V.length-i=n→i≤V.length→(suffT V (V.length-i) i t).2<V.length→suffT (V++Z) ((V++Z).length-i) i t=suffT V (V.length-i) i t
 |0,i,t,hn,hi,hr=>by
  have:=(suff_ge V (V.length-i) i t).1
  omega
 |n+1,i,t,hn,hi,hr=>by
  have hlt:i<V.length:=by omega
  cases h:sufW V i with
  |none=>rw[suff_none h,suff_none (by rw[suf_left hlt];exact h)]
  |some p=>
   obtain⟨lo,hi'⟩:=p
   rw[suff_some h]at hr
   rw[suff_some h,suff_some (by rw[suf_left hlt];exact h)]
   exact suff_in n (i+1) _ (by omega) (by omega) hr
theorem prim_in {top:Op} {i:Nat} {t:TT} (hi:i≤V.length) (hr:(primT V top i t).2<V.length):primT (V++Z) top i t=primT V top i t:=by
 simp only[primT]at hr ⊢
 rw[suff_in _ i _ rfl hi hr]
theorem isLeaf_in {i:Nat} (h:i+1<V.length):isLeaf (V++Z) i=isLeaf V i:=by simp only[isLeaf,kd_left h,kd_left (show i<V.length by omega)]
theorem isLeaf_no {i:Nat} (h:i<V.length) (hl:isLeaf V i=false):isLeaf (V++Z) i=false:=by
 rcases Nat.lt_or_ge (i+1) V.length with h1|h1
 ·rw[isLeaf_in h1];exact hl
 ·have h2:kdW V (i+1)=0:=kd_end h1
  simp only[isLeaf,kd_left h,h2]at hl ⊢
  simp at hl ⊢
  exact⟨⟨fun h=>absurd h hl.1.1,hl.1.2⟩,hl.2⟩
theorem step_in {s:PS} (h:s.i<V.length) (hr:(∀s',stepP V s=.inl s'→s'.i<V.length)∧ ∀r,stepP V s=.inr r→r.at<V.length):stepP (V++Z) s=stepP V s:=by
 obtain⟨i,st,C⟩:=s
 obtain⟨hr1,hr2⟩:=hr
 cases st with
 |nil=>rfl
 |cons top rest=>
  simp only at h
  by_cases hl:isLeaf V i=true
  ·simp only[stepP,hl,if_true]at hr1
   have h1:=hr1 _ rfl
   have h2:=(prim_ge V top (i+1) (.mk (leafW (wdW V i)) [])).1
   simp only at h1
   simp only[stepP,isLeaf_in (Z:=Z) (show i+1<V.length by omega),hl,if_true,kd_left h,wd_left h,prim_in (Z:=Z) (show i+1≤V.length by omega) h1]
  ·have hl':isLeaf V i=false:=by simpa using hl
   have hlz:=isLeaf_no (Z:=Z) h hl'
   simp only[stepP,hl',hlz,kd_left h,Bool.false_eq_true,if_false]at hr1 hr2 ⊢
   by_cases h4:kdW V i=4∨kdW V i=5
   ·simp only[if_pos h4]
   simp only[if_neg h4]at hr1 hr2 ⊢
   by_cases h9:kdW V i=9
   ·simp only[if_pos h9]
   simp only[if_neg h9]at hr1 hr2 ⊢
   by_cases h11:kdW V i=11
   ·simp only[if_pos h11]at hr1 hr2 ⊢
    by_cases h1:kdW V (i+1)=1
    ·have hl1:i+1<V.length:=kd_lt (by omega)
     simp only[kd_left hl1,wd_left hl1,if_pos h1]at hr1 hr2 ⊢
     by_cases h13:kdW V (i+2)=13
     ·have hl2:i+2<V.length:=kd_lt (by omega)
      simp only[kd_left hl2,if_pos h13]
     ·simp only[if_neg h13]at hr2
      have hl2:i+2<V.length:=hr2 _ rfl
      simp only[kd_left hl2,if_neg h13]
    ·simp only[if_neg h1]at hr2
     have hl1:i+1<V.length:=hr2 _ rfl
     simp only[kd_left hl1,if_neg h1]
   simp only[if_neg h11]at hr1 hr2 ⊢
   by_cases hh:top.heads≠[]
   ·simp only[if_pos hh]
   simp only[if_neg hh]at hr1 hr2 ⊢
   by_cases h3:kdW V i=3
   ·simp only[if_pos h3]
   simp only[if_neg h3]at hr1 hr2 ⊢
   by_cases hf:top.fin=0
   ·simp only[if_pos hf]
   simp only[if_neg hf]at hr1 hr2 ⊢
   by_cases hk:kdW V i≠top.fin
   ·simp only[if_pos hk]
   simp only[if_neg hk]at hr1 hr2 ⊢
   cases rest with
   |nil=>rfl
   |cons up rest=>
    have h1:=hr1 _ rfl
    simp only at h1 ⊢
    rw[prim_in (show i+1≤V.length by omega) h1]
theorem run_in:∀(f:Nat) (s:PS),s.i≤V.length→V.length<s.i+f→(runP V f s).1.at<V.length→goP (V++Z) s=runP V f s
 |0,s,hi,hf,h=>by omega
 |f+1,s,hi,hf,h=>by
  have hge:=run_res_ge (W:=V) (f+1) s
  have hi2:s.i≤(V++Z).length:=by rw[List.length_append];omega
  have hlt:s.i<V.length:=by omega
  rw[runP]at h ⊢
  cases hs:stepP V s with
  |inl s'=>
   rw[hs]at h
   have h1:=step_lt hs
   have h2:=run_res_ge (W:=V) f s'
   simp only at h
   have he:stepP (V++Z) s=stepP V s:=step_in hlt ⟨fun x hx=>by rw[hs]at hx;injection hx with hx;subst hx;omega,fun r hr=>by rw[hs]at hr;cases hr⟩
   rw[go_more hi2 (he.trans hs)]
   exact run_in f s' h1.2 (by omega) h
  |inr r=>
   rw[hs]at h
   simp only at h ⊢
   exact go_end hi2 ((step_in hlt ⟨fun x hx=>(by rw[hs]at hx;cases hx),fun r' hr=>by rw[hs]at hr;injection hr with hr;subst hr;exact h⟩).trans hs)
theorem choice_in {i:Nat} {C:List Nat} (hi:i≤V.length) (h:(choiceP V i C).1.at<V.length):choiceP (V++Z) i C=choiceP V i C:=
 run_in _ ⟨i,[botP],C⟩ hi (by show V.length<i+(V.length+1-i);omega) h
theorem rules_in:∀(f i:Nat) (acc:List (Nat×TT)) (C:List Nat) (k:Nat),V.length<i+f→rulesF V f i acc C=.fail k→k<V.length→rulesF (V++Z) ((V++Z).length+1-i) i acc C=.fail k
 |0,i,acc,C,k,hf,h,hk=>by rw[rulesF]at h;injection h with h;omega
 |f+1,i,acc,C,k,hf,h,hk=>by
  rw[rulesF]at h
  split at h
  ·rename_i h1
   injection h with h;subst h
   obtain⟨g,hg⟩:∃g,(V++Z).length+1-i=g+1:=⟨(V++Z).length-i,by rw[List.length_append];omega⟩
   rw[hg,rulesF,kd_left hk,if_pos h1]
  rename_i h1
  have hl:i<V.length:=kd_lt (by omega)
  obtain⟨g,hg⟩:∃g,(V++Z).length+1-i=g+1:=⟨(V++Z).length-i,by rw[List.length_append];omega⟩
  split at h
  ·rename_i h2
   injection h with h;subst h
   rw[hg,rulesF,kd_left hl,if_neg h1,kd_left hk,if_pos h2]
  rename_i h2
  have hl1:i+1<V.length:=kd_lt (by omega)
  rw[hg,rulesF,kd_left hl,if_neg h1,kd_left hl1,if_neg h2]
  cases hc:choiceP V (i+2) C with
  |mk r cs=>
   rw[hc]at h
   cases r with
   |fail j=>
    simp only[RR.fail.injEq]at h
    subst h
    rw[choice_in (by omega) (by rw[hc];exact hk),hc]
   |done j t=>
    simp only at h
    split at h
    ·cases h
    ·rename_i hj
     have hj2:=choice_le (show i+2≤V.length by omega) hc
     rw[choice_in (by omega) (by rw[hc];show j<V.length;omega),hc]
     simp only
     rw[if_neg (by rw[List.length_append];omega)]
     rw[←rules_in f j _ cs k (by omega) h hk]
     exact rules_fuel _ _ _ _ _ (by rw[List.length_append]at hg ⊢;omega) (by rw[List.length_append];omega)
end
theorem rules_prefix {W:List Wd} {k k':Nat} (h:rulesP W=.fail k) (hk:k≤W.length) (h':rulesP (W.take k)=.fail k'):k≤k':=by
 rcases Nat.lt_or_ge k' k with hlt|hge
 ·have hl:(W.take k).length=k:=by rw[List.length_take];omega
  have h1:=rules_in (V:=W.take k) (Z:=W.drop k) _ 0 [] [] k' (by omega) h' (by omega)
  rw[List.take_append_drop]at h1
  unfold rulesP at h
  rw[Nat.sub_zero,h]at h1
  injection h1 with h1
  omega
 ·exact hge
theorem rules_at {W:List Wd}:∀(f i:Nat) (acc:List (Nat×TT)) (C:List Nat) (k:Nat),i≤W.length→rulesF W f i acc C=.fail k→k≤W.length
 |0,i,acc,C,k,hi,h=>by rw[rulesF]at h;injection h with h;omega
 |f+1,i,acc,C,k,hi,h=>by
  rw[rulesF]at h
  split at h
  ·injection h with h;omega
  rename_i h1
  have hl:i<W.length:=kd_lt (by omega)
  split at h
  ·injection h with h;omega
  rename_i h2
  have hl1:i+1<W.length:=kd_lt (by omega)
  cases hc:choiceP W (i+2) C with
  |mk r cs=>
   rw[hc]at h
   cases r with
   |fail j=>
    simp only[RR.fail.injEq]at h
    subst h
    rcases Nat.lt_or_ge W.length j with hj|hj
    ·have:=run_fail_le _ ⟨i+2,[botP],C⟩ (show i+2≤W.length by omega) j cs hc
     omega
    ·exact hj
   |done j t=>
    simp only at h
    split at h
    ·cases h
    ·rename_i hj
     exact rules_at f j _ cs k (by omega) h
 where run_fail_le {W:List Wd}:∀(f:Nat) (s:PS),s.i≤W.length→ ∀j C,runP W f s=(.fail j,C)→j≤W.length
  |0,s,h,j,C,hr=>by simp only[runP,Prod.mk.injEq,PR.fail.injEq]at hr;omega
  |f+1,s,h,j,C,hr=>by
   rw[runP]at hr
   cases hs:stepP W s with
   |inl s'=>
    rw[hs]at hr
    exact run_fail_le f s' (step_lt hs).2 j C hr
   |inr r=>
    rw[hs]at hr
    simp only[Prod.mk.injEq]at hr
    obtain⟨rfl,rfl⟩:=hr
    obtain⟨i,st,C⟩:=s
    cases st with
    |nil=>simp only[stepP,Sum.inr.injEq,PR.fail.injEq]at hs;subst hs;exact h
    |cons top rest=>
     simp only at h
     by_cases h11:kdW W i=11
     ·have hl:isLeaf W i=false:=by simp[isLeaf,h11]
      have hlt:i<W.length:=kd_lt (by omega)
      simp only[stepP,hl,h11]at hs
      simp at hs
      by_cases h1:kdW W (i+1)=1
      ·have hlt1:i+1<W.length:=kd_lt (by omega)
       by_cases h2:kdW W (i+2)=13
       ·simp[h1,h2]at hs
       ·simp[h1,h2]at hs;omega
      ·simp[h1]at hs;omega
     ·simp only[stepP,if_neg h11]at hs
      repeat' (split at hs)
      all_goals first|(injection hs with hs;injection hs with hs;omega)|(cases hs)
theorem all_open {p:Nd→Prop} (kind:Int) {x:TT}:allTT p x→ ∀y∈openTT kind x,allTT p y:=by
 induction x using TT.ind with
 |h n ks ih=>
  intro h y hy
  rw[openTT_mk]at hy
  split at hy
  ·obtain⟨t,ht,hy⟩:=List.mem_flatMap.1 hy
   exact ih t ht ((allTT_mk.1 h).2 t ht) y hy
  ·split at hy
   ·cases hy
   ·obtain rfl:=List.mem_singleton.1 hy;exact h
theorem all_joined {p:Nd→Prop} {n none:Nd} (hn:p n) (h0:p none):∀l:List TT,(∀t∈l,allTT p t)→allTT p (joined n none l)
 |[],_=>allTT_mk.2 ⟨h0,by simp⟩
 |[x],h=>h x (by simp)
 |x::y::l,h=>allTT_mk.2 ⟨hn,h⟩
theorem all_make {p:Nd→Prop} (h0:p emptyN) (h1:p setN) {x:TT}:allTT p x→allTT p (makeTT x):=by
 induction x using TT.ind with
 |h n ks ih=>
  intro h
  obtain⟨hn,hk⟩:=allTT_mk.1 h
  have hks:∀t∈ks.map makeTT,allTT p t:=fun t ht=>by
   obtain⟨u,hu,rfl⟩:=List.mem_map.1 ht
   exact ih u hu (hk u hu)
  have hop:∀kind,∀t∈(ks.map makeTT).flatMap (openTT kind),allTT p t:=fun kind t ht=>by
   obtain⟨u,hu,ht⟩:=List.mem_flatMap.1 ht
   exact all_open kind (hks u hu) t ht
  rw[makeTT_mk]
  unfold joinTT
  split
  ·exact all_joined hn h0 _ (hop 4)
  ·split
   ·exact all_joined hn h1 _ (hop 5)
   ·exact allTT_mk.2 ⟨hn,hks⟩
theorem all_cat {q:Nd→Prop} (hq:∀n off,q n→q (shiftN off n)):∀(off:Nat) (L:List (List Nd)),(∀l∈L,∀n∈l,q n)→ ∀n∈catN off L,q n
 |_,[],_,n,hn=>by simp[catN]at hn
 |off,t::ts,h,n,hn=>by
  rw[catN]at hn
  rcases List.mem_append.1 hn with hn|hn
  ·obtain⟨m,hm,rfl⟩:=List.mem_map.1 hn
   exact hq m off (h t (by simp) m hm)
  ·exact all_cat hq _ ts (fun l hl=>h l (List.mem_cons_of_mem _ hl)) n hn
theorem all_flat {p:Nd→Prop} (hp:∀n k,p n→p {n with kids:=k}) {x:TT}:allTT p x→ ∀n∈flatT x,p n:=by
 induction x using TT.ind with
 |h n ks ih=>
  intro h m hm
  obtain⟨hn,hk⟩:=allTT_mk.1 h
  rw[flatT_mk]at hm
  rcases List.mem_append.1 hm with hm|hm
  ·refine all_cat (q:=p) (fun n off hn=>hp n _ hn) 0 _ (fun l hl=> ?_) m hm
   obtain⟨t,ht,rfl⟩:=List.mem_map.1 hl
   exact ih t ht (hk t ht)
  ·obtain rfl:=List.mem_singleton.1 hm
   exact hp n _ hn
end Go.Proofs.YtpfokabdpmjobaaGreatDoor
namespace Go.Proofs.YtpfokabdpmjobaaGreatDoor
set_option linter.unusedSimpArgs false
set_option linter.unusedVariables false
theorem words_stand {s:List UInt8} {ls:List Wd} {a:Nat} (hs:¬65536<s.length) (h:wordsL s=(ls,a,0)):a=0∧Stand s 0 ls:=by
 rw[wordsL_of hs]at h
 cases hp:(RW s (nextL s 0)).2 with
 |some p=>rw[hp]at h;cases h
 |none=>
  rw[hp]at h
  injection h with h1 h2
  injection h2 with h2 h3
  refine⟨h2.symm,stand_of s (s.length+1) 0 ls (by omega) ?_⟩
  have e:RW s (nextL s 0)=(ls,none):=Prod.ext h1 hp
  unfold RW at e
  rw[rawL_stable s (s.length+1) (s.length+1-nextL s 0) (nextL s 0) (by omega) (by omega)]
  exact e
theorem wrong_of {s:List UInt8} {ls:List Wd} {p e:Nat} (hs:¬65536<s.length) (h:wordsL s=(ls,p,e)) (he:e≠0):ls=[]∧e=4∧p<s.length∧(wordsL (s.take p)).2.2=0∧wordsL (s.drop p)=([],0,4):=by
 rw[wordsL_of hs]at h
 cases hp:(RW s (nextL s 0)).2 with
 |none=>
  rw[hp]at h
  injection h with h1 h2
  injection h2 with h2 h3
  exact absurd h3.symm he
 |some q=>
  rw[hp]at h
  injection h with h1 h2
  injection h2 with h2 h3
  subst h2
  have hr:(rawL s (s.length+1) (nextL s 0)).2=some q:=by
   have e:=hp
   unfold RW at e
   rw[rawL_stable s (s.length+1) (s.length+1-nextL s 0) (nextL s 0) (by omega) (by omega)]
   exact e
  obtain⟨a1,a2,a3,a4,j,a5⟩:=RW_ahead s q (s.length+1) 0 (by omega) hr
  refine⟨h1.symm,h3.symm,a2,?_,?_⟩
  ·rw[wordsL_of (by rw[List.length_take];omega),a3]
  ·refine words_wrong (by rw[List.length_drop];omega) ?_ (by rw[a5];exact nextL_idem s j) (by rw[List.length_drop];omega)
   unfold wordL at a4
   cases hq:headW (s.drop q)with
   |none=>rfl
   |some y=>rw[hq]at a4;cases a4
end Go.Proofs.YtpfokabdpmjobaaGreatDoor
namespace Go.Proofs.YtpfokabdpmjobaaGreatDoor
set_option linter.unusedSimpArgs false
set_option linter.unusedVariables false
theorem word_frm {s:List UInt8} {a:Nat} {x:Wd} (h:wordL s a=some x):x.frm=a:=by
 unfold wordL at h
 cases hh:headW (s.drop a)with
 |none=>rw[hh]at h;cases h
 |some w=>rw[hh]at h;cases h;rfl
theorem raw_frm (s:List UInt8):∀(f a:Nat),∀x∈(rawL s f a).1,a≤x.frm∧x.frm<s.length
 |0,a,x,hx=>by simp[rawL]at hx
 |f+1,a,x,hx=>by
  rw[rawL]at hx
  split at hx
  ·cases hx
  ·rename_i hl
   cases hw:wordL s a with
   |none=>rw[hw]at hx;cases hx
   |some w=>
    rw[hw]at hx
    rcases List.mem_cons.1 hx with rfl|hx
    ·rw[word_frm hw];omega
    ·have h1:=raw_frm s f _ x hx
     have h2:=word_til hw
     have h3:=next_ge s w.til
     omega
theorem raw_take (s:List UInt8):∀(f a k:Nat) (hk:k<(rawL s f (nextL s a)).1.length),a≤s.length→s.length≤nextL s a+f →
  (RW (s.take (rawL s f (nextL s a)).1[k].frm) (nextL (s.take (rawL s f (nextL s a)).1[k].frm) a))=((rawL s f (nextL s a)).1.take k,none):=by
 intro f
 induction f with
 |zero=>intro a k hk;simp[rawL]at hk
 |succ f ih=>
  intro a k hk ha hf
  have h1:¬s.length≤nextL s a:=fun h=>by rw[rawL,if_pos h]at hk;simp at hk
  cases hw:wordL s (nextL s a)with
  |none=>rw[rawL,if_neg h1,hw]at hk;simp at hk
  |some w=>
   have e:rawL s (f+1) (nextL s a)=(w::(rawL s f (nextL s w.til)).1,(rawL s f (nextL s w.til)).2):=by rw[rawL,if_neg h1,hw]
   have hfr:=word_frm hw
   have htl:=word_til hw
   have hng:=next_ge s a
   cases k with
   |zero=>
    have e0:(rawL s (f+1) (nextL s a)).1[0].frm=nextL s a:=by simp only[e,List.getElem_cons_zero];exact hfr
    rw[e0]
    rw[next_take (by omega) (Nat.le_refl _)]
    rw[RW_end (by rw[List.length_take];omega)]
    simp
   |succ k=>
    have hk':k<(rawL s f (nextL s w.til)).1.length:=by rw[e]at hk;simpa using hk
    have ek:(rawL s (f+1) (nextL s a)).1[k+1].frm=(rawL s f (nextL s w.til)).1[k].frm:=by simp only[e,List.getElem_cons_succ]
    rw[ek]
    have hmem:=raw_frm s f (nextL s w.til) _ (List.getElem_mem hk')
    have hnt:=next_ge s w.til
    generalize hq:(rawL s f (nextL s w.til)).1[k].frm=q at hmem
    have hwt:wordL (s.take q) (nextL s a)=some w:=word_take hw (by omega)
    rw[next_take (by omega) (by omega)]
    rw[RW_word (by rw[List.length_take];omega) hwt]
    have ih':=ih w.til k hk' (by omega) (by omega)
    rw[hq]at ih'
    rw[ih',e]
    rfl
theorem words_take {s:List UInt8} {W:List Wd} {a:Nat} (hs:¬65536<s.length) (h:wordsL s=(W,a,0)) {k:Nat} (hk:k<W.length):wordsL (s.take W[k].frm)=(W.take k,0,0)∧W[k].frm<s.length:=by
 rw[wordsL_of hs]at h
 have e1:(RW s (nextL s 0)).2=none:=by
  cases e:(RW s (nextL s 0)).2 with
  |none=>rfl
  |some p=>rw[e]at h;simp at h
 rw[e1]at h
 have e2:(RW s (nextL s 0)).1=W:=by simpa using congrArg Prod.fst h
 subst e2
 unfold RW at hk ⊢
 have h1:=raw_frm s _ _ _ (List.getElem_mem hk)
 refine⟨?_,h1.2⟩
 have h2:=raw_take s (s.length+1-nextL s 0) 0 k hk (Nat.zero_le _) (by omega)
 rw[wordsL_of (by rw[List.length_take];omega),h2]
theorem words_may {s:List UInt8}:∀x∈(wordsL s).1,mayS x:=by
 intro x hx
 unfold wordsL at hx
 split at hx
 ·cases hx
 split at hx
 ·cases hx
 ·exact raw_may s _ _ x hx
 where raw_may (s:List UInt8):∀(f a:Nat),∀x∈(rawL s f a).1,mayS x
  |0,a,x,hx=>by simp[rawL]at hx
  |f+1,a,x,hx=>by
   rw[rawL]at hx
   split at hx
   ·cases hx
   ·cases hw:wordL s a with
    |none=>rw[hw]at hx;cases hx
    |some w=>
     rw[hw]at hx
     rcases List.mem_cons.1 hx with rfl|hx
     ·exact word_may hw
     ·exact raw_may s f _ x hx
theorem begun_of {s:List UInt8} (hs:¬65536<s.length) {W:List Wd} {fin e:Nat} (h:begunW s=(W,fin,e)):((e=0∧fin=s.length)∨(e=4∧fin<s.length))∧wordsL (s.take fin)=(W,0,0)∧ ∀x∈W,mayS x:=by
 obtain⟨ls,p,er,hw⟩:∃ls p er,wordsL s=(ls,p,er):=⟨(wordsL s).1,(wordsL s).2.1,(wordsL s).2.2,rfl⟩
 unfold begunW at h
 rw[hw]at h
 by_cases he:er=0
 ·subst he
  simp only[if_true,Prod.mk.injEq]at h
  obtain⟨rfl,rfl,rfl⟩:=h
  have h1:=(words_stand hs hw).1
  refine⟨.inl ⟨rfl,rfl⟩,by rw[List.take_length,hw,h1],fun x hx=>words_may (s:=s) x (by rw[hw];exact hx)⟩
 ·obtain⟨rfl,rfl,hp,h2,_⟩:=wrong_of hs hw he
  simp only[Nat.reduceEqDiff,if_false,if_true,Prod.mk.injEq]at h
  obtain⟨rfl,rfl,rfl⟩:=h
  refine⟨.inr ⟨rfl,hp⟩,?_,words_may⟩
  obtain⟨l2,p2,e2,hw2⟩:∃l q er,wordsL (s.take p)=(l,q,er):=⟨(wordsL (s.take p)).1,(wordsL (s.take p)).2.1,(wordsL (s.take p)).2.2,rfl⟩
  rw[hw2]at h2 ⊢
  simp only at h2
  subst h2
  have h1:=(words_stand (by rw[List.length_take];omega) hw2).1
  rw[h1]
theorem begun_take {s:List UInt8} (hs:¬65536<s.length) {W:List Wd} {fin e:Nat} (h:begunW s=(W,fin,e)) {k:Nat} (hk:k<W.length):W[k].frm<fin∧begunW (s.take W[k].frm)=(W.take k,W[k].frm,0):=by
 obtain⟨h1,h2,_⟩:=begun_of hs h
 have hf:fin≤s.length:=by omega
 obtain⟨h3,h4⟩:=words_take (s:=s.take fin) (by rw[List.length_take];omega) h2 hk
 rw[List.length_take]at h4
 rw[List.take_take,Nat.min_eq_left (by omega)]at h3
 refine⟨by omega,?_⟩
 unfold begunW
 rw[h3]
 simp only[if_true,List.length_take]
 rw[Nat.min_eq_left (by omega)]
end Go.Proofs.YtpfokabdpmjobaaGreatDoor
