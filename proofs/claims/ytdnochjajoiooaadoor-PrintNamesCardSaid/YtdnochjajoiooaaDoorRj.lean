/- Facts for invariants of drawn regions: flags, slots, steps. -/
import Derived.Test.YtdnochjajoiooaaDoorRg
import Derived.Test.YtdnochjajoiooaaDoorPn
namespace Go.Proofs.YtdnochjajoiooaaDoor
open Go.RowKit
set_option linter.unusedSimpArgs false
set_option linter.unusedVariables false
theorem flag_of {listed:Array Bool} {i k:Nat} (hk:k≠i) (h:(listed.setIfInBounds i true).getD k false=true):listed.getD k false=true:=
 (flag_set h).elim (fun e=>absurd e hk) id
theorem flag_old {listed:Array Bool} {i k:Nat} (h:listed.getD k false=true):(listed.setIfInBounds i true).getD k false=true:=by
 simp only[Array.getD_eq_getD_getElem?,Array.getElem?_setIfInBounds]at h ⊢
 by_cases hk:i=k
 ·subst hk
  by_cases hi:i<listed.size
  ·simp[hi]
  ·simp[hi]at h
 ·rwa [if_neg hk]
theorem flag_not {listed:Array Bool} {i:Nat} (h:listed.getD i true=false) (k:listed.getD i false=true):False:=by
 simp only[Array.getD_eq_getD_getElem?]at h k
 cases hx:listed[i]? with
 |none=>rw[hx]at k;simp at k
 |some b=>rw[hx]at h k;simp at h k;rw[h]at k;cases k
theorem slot_self (a:Act) (d:Nat) (h:d<a.tmps.size):a.put (some d) (a.tmps.getD d undef)=a:=by
 obtain⟨tmps,defers⟩:=a
 simp only at h
 simp only[Act.put,Act.mk.injEq,and_true]
 apply Array.ext_getElem?
 intro i
 rw[Array.getElem?_setIfInBounds]
 split
 ·rename_i e;subst e
  simp[h,Array.getD]
 ·rfl
theorem self_puts (a:Act):∀(ds:List Nat),ds.all (fun d=>decide (d<a.tmps.size))=true→ds.foldl (fun b d=>b.put (some d) (a.tmps.getD d undef)) a=a
 |[],_=>rfl
 |d::ds,h=>by
  simp only[List.all_cons,Bool.and_eq_true,decide_eq_true_eq]at h
  rw[List.foldl_cons,slot_self a d h.1]
  exact self_puts a ds h.2
theorem wpOp_shut {P:Program} {ops:Array Oper} {Q:Exit→Act→World→Prop} {i:Nat} {o:Oper} {K:Act→World→Prop} {a:Act} {w:World} (ho:ops[i]?=some o)
  (h:∀K':Act→World→Prop,Shut (∀a w,K a w→K' a w)→if Region.wanted o (yielded ops a.tmps)=true then Oper.wp P o a w K' Q else K' (a.put o.dst undef) w):wpOp P ops Q i K a w:=
 wpOp_step ho h
theorem wp_region_inv0 {P:Program} {ops:Array Oper} {Q:Exit→Act→World→Prop} {id:Nat} {a:Act} {w:World} (Inv:Act→Array Bool→Act→World→Prop) (hm:P.follows .mixedOrders=true)
  (h0:Inv a (Array.replicate ops.size false) a w.drew)
  (hstep:∀listed a' w',Inv a listed a' w'→ ∀i,i∈Region.ready .any ops listed→wpOp P ops Q i (fun a'' w''=>Inv a (listed.setIfInBounds i true) a'' w'') a' w')
  (hend:∀listed a' w',Inv a listed a' w'→Region.ready .any ops listed=[]→Q .normal a' w'):(Code.region id ops true).wp P Q a w:=
 wp_region_inv (Inv a) hm h0 hstep hend
end Go.Proofs.YtdnochjajoiooaaDoor
