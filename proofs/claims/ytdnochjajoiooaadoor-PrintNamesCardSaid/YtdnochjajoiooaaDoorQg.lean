/- A scope through which the run jumps back to one label. -/
import Derived.Test.YtdnochjajoiooaaDoorPn
import Derived.WalkKit
import Derived.ScopeJumps
namespace Go.Proofs.YtdnochjajoiooaaDoor
open Go.RowKit
set_option linter.unusedSimpArgs false
set_option linter.unusedVariables false
theorem least {p:Nat→Prop}:∀n,p n→ ∃m,p m∧ ∀k,p k→m≤k:=by
 intro n
 induction n using Nat.strongRecOn with
 |_ n ih=>
  intro h
  by_cases hn:∃k,k<n∧p k
  ·obtain⟨k,hk,hp⟩:=hn
   exact ih k hk hp
  ·exact⟨n,h,fun k hk=>Nat.le_of_not_lt fun hlt=>hn ⟨k,hlt,hk⟩⟩
section
variable {P:Program} {a:Act} {w:World} {Q:Exit→Act→World→Prop}
theorem scope_rounds {c x:Code} (l:Nat) (J:Nat→Act→World→Prop) (hf:findLabel c l=some (.seq .skip x))
  (pass:∀n a w,J n a w→x.wp P (Exit.jump l (fun a' w'=>∃m,m<n∧J m a' w') Q) a w)
  (first:(∀n a w,J n a w→x.wp P (Exit.jump l (fun a' w'=>∃m,J m a' w') Q) a w)→c.wp P (Exit.jump l (fun a' w'=>∃m,J m a' w') Q) a w):(Code.scope c).wp P Q a w:=by
 classical
 have hmin:∀a w,(∃n,J n a w)→ ∃m,J m a w∧ ∀k,J k a w→m≤k:=fun a w ⟨n,h⟩=>least n h
 let μ:Act→World→Nat:=fun a w=>if h:∃n,J n a w then Classical.choose (hmin a w h)else 0
 have hμ:∀a w,(∃n,J n a w)→J (μ a w) a w∧ ∀k,J k a w→μ a w≤k:=fun a w h=>by
  have hs:=Classical.choose_spec (hmin a w h)
  have e:μ a w=Classical.choose (hmin a w h):=dif_pos h
  rw[e];exact hs
 have weak:∀n a w,J n a w→x.wp P (Exit.jump l (fun a' w'=>∃m,J m a' w') Q) a w:=fun n a w h=>
  Code.wp_mono (fun e a w hq=>by
   cases e with
   |goto l'=>exact⟨hq.1,hq.2.imp fun m hm=>hm.2⟩
   |_=>exact hq) (pass n a w h)
 refine wp_scope_jumps l (fun a w=>∃n,J n a w) μ hf (first weak) fun a w h=> ?_
 refine wp_seq (wp_skip ?_)
 refine Code.wp_mono (fun e a' w' hq=> ?_) (pass _ a w (hμ a w h).1)
 cases e with
 |goto l'=>
  obtain⟨e,m,hm,hj⟩:=hq
  exact⟨e,⟨m,hj⟩,Nat.lt_of_le_of_lt ((hμ a' w' ⟨m,hj⟩).2 m hj) hm⟩
 |_=>exact hq
end
end Go.Proofs.YtdnochjajoiooaaDoor
