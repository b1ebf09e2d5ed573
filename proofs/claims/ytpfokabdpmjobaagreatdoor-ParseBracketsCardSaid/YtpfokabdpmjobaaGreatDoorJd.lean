/- What is so of each tree that the parser puts together, plain. -/
import Derived.Test.YtpfokabdpmjobaaGreatDoorJb
namespace Go.Proofs.YtpfokabdpmjobaaGreatDoor
set_option linter.unusedSimpArgs false
set_option linter.unusedVariables false
structure Makes (W:List Wd) (P:List Nat→TT→Prop):Prop where
 mono:∀C D t,P C t→P (C++D) t
 empty:∀C,P C (.mk emptyN [])
 leaf:∀C i,isLeaf W i=true→P (if kdW W i=1 then C++[i]else C) (.mk (leafW (wdW W i)) [])
 rep:∀C i lo hi t,sufW W i=some (lo,hi)→P C t→P C (.mk (repN lo hi) [t])
 head:∀C k t,k=7∨k=8→P C t→P C (.mk (kindN k) [t])
 seq:∀C n l,n=seqN∨n=choN→2≤l.length→(∀t∈l,P C t)→P C (.mk n l)
 cap:∀C nm t,mayL nm=true→P C t→P C (.mk (capN nm) [t])
def GoodO (P:List Nat→TT→Prop) (C:List Nat) (o:Op):Prop:=(∀t∈o.ways,P C t)∧(∀t∈o.parts,P C t)∧(∀k∈o.heads,k=7∨k=8)
def GoodS (P:List Nat→TT→Prop) (C:List Nat) (st:List Op):Prop:=stkP st∧ ∀o∈st,GoodO P C o
variable {W:List Wd} {P:List Nat→TT→Prop}
theorem GoodO.mono (hM:Makes W P) {C D:List Nat} {o:Op} (h:GoodO P C o):GoodO P (C++D) o:=⟨fun t ht=>hM.mono _ _ _ (h.1 t ht),fun t ht=>hM.mono _ _ _ (h.2.1 t ht),h.2.2⟩
theorem good_suff (hM:Makes W P) {C:List Nat}:∀(f i:Nat) (t:TT),P C t→P C (suffT W f i t).1
 |0,i,t,h=>h
 |f+1,i,t,h=>by
  rw[suffT]
  cases hs:sufW W i with
  |none=>exact h
  |some p=>
   obtain⟨lo,hi⟩:=p
   exact good_suff hM f (i+1) _ (hM.rep C i lo hi t hs h)
theorem good_head (hM:Makes W P) {C:List Nat} {t:TT} (h:P C t):∀hs:List Nat,(∀k∈hs,k=7∨k=8)→P C (headT hs t)
 |[],_=>h
 |k::hs,hk=>hM.head C k _ (hk k (by simp)) (good_head hM h hs fun x hx=>hk x (List.mem_cons_of_mem _ hx))
theorem good_prim (hM:Makes W P) {C:List Nat} {o:Op} {i:Nat} {t:TT} (h:GoodO P C o) (ht:P C t):GoodO P C (primT W o i t).1:=
 ⟨h.1,fun x hx=>by
  rcases List.mem_append.1 hx with hx|hx
  ·exact h.2.1 x hx
  ·obtain rfl:=List.mem_singleton.1 hx
   exact good_head hM (good_suff hM _ _ _ ht) _ h.2.2,fun k hk=>by cases hk⟩
theorem good_join (hM:Makes W P) {C:List Nat} {n:Nd} {l:List TT} (hn:n=seqN∨n=choN) (h:∀t∈l,P C t):P C (joinP n l):=by
 match l with
 |[]=>exact hM.empty C
 |[x]=>exact h x (by simp)
 |x::y::l=>exact hM.seq C n _ hn (by simp) h
theorem good_way (hM:Makes W P) {C:List Nat} {o:Op} (h:GoodO P C o):GoodO P C (wayT o):=
 ⟨fun t ht=>by
  rcases List.mem_append.1 ht with ht|ht
  ·exact h.1 t ht
  ·obtain rfl:=List.mem_singleton.1 ht
   exact good_join hM (.inl rfl) h.2.1,fun t ht=>(by cases ht),h.2.2⟩
theorem stk_same {a b:Op} {st:List Op} (h:stkP (a::st)) (hf:b.fin=a.fin) (hn:b.name=a.name):stkP (b::st):=by
 cases st with
 |nil=>exact hf.trans h
 |cons c st=>exact⟨by rw[hf,hn];exact h.1,h.2⟩
theorem stk_tail {a b:Op} {st:List Op} (h:stkP (a::b::st)):stkP (b::st):=h.2
theorem good_step (hM:Makes W P) (hW:∀x∈W,mayS x) {s s':PS} (h:GoodS P s.calls s.st) (hs:stepP W s=.inl s'):GoodS P s'.calls s'.st:=by
 obtain⟨i,st,C⟩:=s
 simp only at h
 cases st with
 |nil=>simp[stepP]at hs
 |cons top rest=>
  obtain⟨hk,hg⟩:=h
  have ht:=hg top (by simp)
  have hr:∀o∈rest,GoodO P C o:=fun o ho=>hg o (List.mem_cons_of_mem _ ho)
  simp only[stepP]at hs
  split at hs
  ·rename_i h1
   injection hs with hs;subst hs
   have hl:=hM.leaf C i h1
   by_cases h2:kdW W i=1
   ·rw[if_pos h2]at hl
    simp only[if_pos h2]
    exact⟨stk_same hk rfl rfl,fun o ho=>by
     rcases List.mem_cons.1 ho with rfl|ho
     ·exact good_prim hM (ht.mono hM) hl
     ·exact(hr o ho).mono hM⟩
   ·rw[if_neg h2]at hl
    simp only[if_neg h2]
    exact⟨stk_same hk rfl rfl,fun o ho=>by
     rcases List.mem_cons.1 ho with rfl|ho
     ·exact good_prim hM ht hl
     ·exact hr o ho⟩
  split at hs
  ·rename_i h1
   injection hs with hs;subst hs
   refine⟨stk_same hk rfl rfl,fun o ho=> ?_⟩
   rcases List.mem_cons.1 ho with rfl|ho
   ·refine⟨ht.1,ht.2.1,fun k hk=> ?_⟩
    rcases List.mem_append.1 hk with hk|hk
    ·exact ht.2.2 k hk
    ·obtain rfl:=List.mem_singleton.1 hk
     split <;> simp
   ·exact hr o ho
  split at hs
  ·injection hs with hs;subst hs
   refine⟨⟨.inl rfl,hk⟩,fun o ho=> ?_⟩
   rcases List.mem_cons.1 ho with rfl|ho
   ·exact⟨by simp,by simp,by simp⟩
   ·exact hg o ho
  split at hs
  ·split at hs
   ·rename_i h3
    split at hs
    ·injection hs with hs;subst hs
     have hl:=kd_lt (W:=W) (i:=i+1) (by omega)
     have hm:=hW W[i+1] (List.getElem_mem hl)
     refine⟨⟨.inr ⟨rfl,?_⟩,hk⟩,fun o ho=> ?_⟩
     ·show mayL (wdW W (i+1)).text=true
      rw[wd_at hl]
      exact hm.1 (by rw[←kd_at hl];exact h3)
     ·rcases List.mem_cons.1 ho with rfl|ho
      ·exact⟨by simp,by simp,by simp⟩
      ·exact hg o ho
    ·cases hs
   ·cases hs
  split at hs
  ·cases hs
  split at hs
  ·injection hs with hs;subst hs
   refine⟨stk_same hk rfl rfl,fun o ho=> ?_⟩
   rcases List.mem_cons.1 ho with rfl|ho
   ·exact good_way hM ht
   ·exact hr o ho
  split at hs
  ·cases hs
  split at hs
  ·cases hs
  ·cases rest with
   |nil=>cases hs
   |cons up rest=>
    injection hs with hs;subst hs
    have hu:=hr up (by simp)
    have hj:P C (joinP choN (wayT top).ways):=good_join hM (.inr rfl) (good_way hM ht).1
    refine⟨stk_same (stk_tail hk) rfl rfl,fun o ho=> ?_⟩
    rcases List.mem_cons.1 ho with rfl|ho
    ·refine good_prim hM hu ?_
     unfold endT
     split
     ·rename_i h12
      have:mayL top.name=true:=by
       rcases hk.1 with h|h
       ·omega
       ·exact h.2
      exact hM.cap C _ _ this hj
     ·exact hj
    ·exact hr o (List.mem_cons_of_mem _ ho)
theorem good_run (hM:Makes W P) (hW:∀x∈W,mayS x):∀(f:Nat) (s:PS),GoodS P s.calls s.st→ ∀j t C,runP W f s=(.done j t,C)→P C t∧s.i≤j
 |0,s,h,j,t,C,hr=>by simp[runP]at hr
 |f+1,s,h,j,t,C,hr=>by
  rw[runP]at hr
  cases hs:stepP W s with
  |inl s'=>
   rw[hs]at hr
   have h1:=good_run hM hW f s' (good_step hM hW h hs) j t C hr
   have h2:=step_lt hs
   exact⟨h1.1,by omega⟩
  |inr r=>
   rw[hs]at hr
   obtain⟨i,st,C'⟩:=s
   simp only[Prod.mk.injEq]at hr
   obtain⟨rfl,rfl⟩:=hr
   cases st with
   |nil=>simp[stepP]at hs
   |cons top rest=>
    have ht:=h.2 top (by simp)
    simp only[stepP]at hs
    split at hs
    ·cases hs
    split at hs
    ·cases hs
    split at hs
    ·cases hs
    split at hs
    ·split at hs
     ·split at hs
      ·cases hs
      ·cases hs
     ·cases hs
    split at hs
    ·cases hs
    split at hs
    ·cases hs
    split at hs
    ·injection hs with hs;injection hs with e1 e2
     subst e1 e2
     exact⟨good_join hM (.inr rfl) (good_way hM ht).1,Nat.le_refl _⟩
    split at hs
    ·cases hs
    ·cases rest with
     |nil=>cases hs
     |cons up rest=>cases hs
theorem good_choice (hM:Makes W P) (hW:∀x∈W,mayS x) {i j:Nat} {C C':List Nat} {t:TT} (h:choiceP W i C=(.done j t,C')):P C' t∧i≤j:=
 good_run hM hW _ ⟨i,[botP],C⟩ ⟨rfl,fun o ho=>by obtain rfl:=List.mem_singleton.1 ho;exact⟨by simp[botP],by simp[botP],by simp[botP]⟩⟩ j t C' h
theorem makes_fit (hW:∀x∈W,mayS x):Makes W fun _ t=>fitTT t where
 mono _ _ _ h:=h
 empty _:=fit_leafs.1
 leaf C i h:=by
  have hl:=leaf_lt h
  refine fitTT_mk.2 ⟨⟨leaf_kids _,?_⟩,by simp⟩
  rw[wd_at hl]
  refine fit_leaf (hW _ (List.getElem_mem hl)) ?_
  simp only[isLeaf,kd_at hl,Bool.or_eq_true,Bool.and_eq_true,decide_eq_true_eq]at h
  omega
 rep C i lo hi t hs h:=fitTT_mk.2 ⟨⟨rfl,fit_rep hW hs⟩,fun x hx=>by obtain rfl:=List.mem_singleton.1 hx;exact h⟩
 head C k t hk h:=fitTT_mk.2 ⟨⟨rfl,by show fitN (kindN k) 1=true;rcases hk with rfl|rfl <;> decide⟩,fun x hx=>by obtain rfl:=List.mem_singleton.1 hx;exact h⟩
 seq C n l hn hl h:=fitTT_mk.2 ⟨⟨(by rcases hn with rfl|rfl <;> rfl),hn.elim (fun e=>e▸fit_seqN _ hl) (fun e=>e▸fit_choN _ hl)⟩,h⟩
 cap C nm t hm h:=fitTT_mk.2 ⟨⟨rfl,fit_cap hm⟩,fun x hx=>by obtain rfl:=List.mem_singleton.1 hx;exact h⟩
end Go.Proofs.YtpfokabdpmjobaaGreatDoor
