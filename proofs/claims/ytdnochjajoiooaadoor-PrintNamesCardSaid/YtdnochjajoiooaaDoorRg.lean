/- A region that draws its order, by an invariant over what has come up: each operation is walked once. -/
import Derived.Deep.RegionHeld3
namespace Go.Proofs.YtdnochjajoiooaaDoor
section
variable {P:Program} {ops:Array Oper} {Q:Exit→Act→World→Prop} {md:Region.Mode}
theorem countP_less {p q:Nat→Bool}:∀(l:List Nat),(∀j,q j=true→p j=true)→ ∀i,i∈l→p i=true→q i=false→l.countP q<l.countP p
 |[],_,i,hi,_,_=>by cases hi
 |x::l,hpq,i,hi,hp,hq=>by
  have hle:l.countP q≤l.countP p:=List.countP_mono_left (fun j _ h=>hpq j h)
  simp only[List.countP_cons]
  rcases List.mem_cons.1 hi with rfl|hi
  ·rw[hp,hq];simp;omega
  ·have ih:=countP_less l hpq i hi hp hq
   cases hqx:q x
   ·cases p x <;> simp <;> omega
   ·rw[hpq x hqx];simp;omega
theorem ready_mem {listed:Array Bool} {i:Nat} (h:i∈Region.ready md ops listed):i<ops.size∧listed.getD i true=false∧((ops[i]?).map (·.after.all fun e=> !Region.binds md e||listed.getD e.on false)).getD false=true:=by
 simp only[Region.ready,List.mem_filter,List.mem_range,Bool.and_eq_true,Bool.not_eq_true']at h
 exact⟨h.1,h.2.1,h.2.2⟩
theorem ready_after {listed:Array Bool} {i:Nat} {o:Oper} (h:i∈Region.ready md ops listed) (ho:ops[i]?=some o):(o.after.all fun e=> !Region.binds md e||listed.getD e.on false)=true:=by
 have:=(ready_mem h).2.2
 rw[ho]at this
 exact this
theorem wpAny_inv {Inv:Array Bool→Act→World→Prop}
  (hstep:∀listed a w,Inv listed a w→ ∀i,i∈Region.ready md ops listed→wpOp P ops Q i (fun a' w'=>Inv (listed.setIfInBounds i true) a' w') a w)
  (hend:∀listed a w,Inv listed a w→Region.ready md ops listed=[]→Q .normal a w):
  ∀(fuel:Nat) (listed:Array Bool) (a:Act) (w:World),Inv listed a w→(List.range ops.size).countP (fun i=> !listed.getD i true)≤fuel→wpAny P md ops Q fuel listed a w:=by
 intro fuel
 induction fuel with
 |zero=>
  intro listed a w h hc
  have hr:Region.ready md ops listed=[]:=by
   apply List.eq_nil_iff_forall_not_mem.2
   intro i hi
   have hm:=ready_mem hi
   have h0:(List.range ops.size).countP (fun i=> !listed.getD i true)=0:=by omega
   have:=List.countP_eq_zero.1 h0 i (List.mem_range.2 hm.1)
   rw[hm.2.1]at this
   simp at this
  exact⟨hr,hend _ _ _ h hr⟩
 |succ fuel ih=>
  intro listed a w h hc
  refine⟨hend _ _ _ h,fun i hi=>wpOp_mono (fun a' w' h'=>ih _ _ _ h' ?_) (hstep _ _ _ h i hi)⟩
  have hm:=ready_mem hi
  have hlt:i<listed.size:=by
   apply Decidable.byContradiction
   intro hn
   have:=hm.2.1
   simp[Array.getD,hn]at this
  have:=countP_less (p:=fun j=> !listed.getD j true) (q:=fun j=> !(listed.setIfInBounds i true).getD j true) (List.range ops.size) (fun j hj=>by
   by_cases hji:j=i
   ·subst hji;rw[hm.2.1];rfl
   ·simp only[Bool.not_eq_true']at hj ⊢
    simp only[Array.getD_eq_getD_getElem?,Array.getElem?_setIfInBounds]at hj ⊢
    rw[if_neg (fun e=>hji e.symm)]at hj
    exact hj) i (List.mem_range.2 hm.1) (by rw[hm.2.1];rfl) (by
   simp[Array.getD_eq_getD_getElem?,hlt])
  omega
theorem wp_region_inv {id:Nat} {a:Act} {w:World} (Inv:Array Bool→Act→World→Prop) (hm:P.follows .mixedOrders=true)
  (h0:Inv (Array.replicate ops.size false) a w.drew)
  (hstep:∀listed a w,Inv listed a w→ ∀i,i∈Region.ready .any ops listed→wpOp P ops Q i (fun a' w'=>Inv (listed.setIfInBounds i true) a' w') a w)
  (hend:∀listed a w,Inv listed a w→Region.ready .any ops listed=[]→Q .normal a w):(Code.region id ops true).wp P Q a w:=
 wp_region_any hm (wpAny_inv hstep hend _ _ _ _ h0 (by
  refine Nat.le_trans List.countP_le_length ?_
  simp))
theorem flag_set {listed:Array Bool} {i k:Nat} (h:(listed.setIfInBounds i true).getD k false=true):k=i∨listed.getD k false=true:=by
 by_cases hk:k=i
 ·exact .inl hk
 ·refine .inr ?_
  simp only[Array.getD_eq_getD_getElem?,Array.getElem?_setIfInBounds]at h ⊢
  rwa [if_neg (fun e=>hk e.symm)]at h
theorem all_listed {listed:Array Bool} (hs:listed.size=ops.size) (hb:(ops.toList.zipIdx.all fun x=>x.1.after.all fun e=>decide (e.on<x.2))=true) (h:Region.ready md ops listed=[]):∀i,i<ops.size→listed.getD i false=true:=by
 intro i
 induction i using Nat.strongRecOn with
 |_ i ih=>
  intro hi
  apply Decidable.byContradiction
  intro hn
  have hmem:i∈Region.ready md ops listed:=by
   simp only[Region.ready,List.mem_filter,List.mem_range,Bool.and_eq_true,Bool.not_eq_true']
   refine⟨hi,?_,?_⟩
   ·simp only[Array.getD_eq_getD_getElem?]at hn ⊢
    have:i<listed.size:=by omega
    rw[Array.getElem?_eq_getElem this]at hn ⊢
    simpa using hn
   ·rw[Array.getElem?_eq_getElem hi]
    simp only[Option.map_some,Option.getD_some,Array.all_eq_true']
    intro e he
    have hx:=List.all_eq_true.1 hb (ops[i],i) (by
     rw[List.mem_zipIdx_iff_getElem?];simp[hi])
    have:=Array.all_eq_true'.1 hx e he
    simp only[decide_eq_true_eq]at this
    rw[ih e.on this (by omega)]
    simp
  rw[h]at hmem
  cases hmem
end
end Go.Proofs.YtdnochjajoiooaaDoor
