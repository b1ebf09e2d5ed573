/- Plain: the law of PathPut, of what the contracts say. -/
import Derived.Test.YtfncfmiccomgcaaDoorAr
import Derived.Test.YtfncfmiccomgcaaDoorAs
import Derived.Test.YtfncfmiccomgcaaDoorAv
namespace Go.Proofs.YtfncfmiccomgcaaDoor
set_option linter.unusedSimpArgs false
set_option linter.unusedVariables false

abbrev denT (t : Tr) : TT := den t.nodes t.root.toNat
theorem fit_denT {t : Tr} (h : rightT t = true) : fitTT (denT t) := by
  have hR := (rightT_iff _).1 h
  have h1 := hR.1
  exact right_fit hR _ (by omega)
theorem atT_some {t : Tr} {p : List Int} {y : TT} (h : atT t p = some y) : rightT t = true ∧ atTT (denT t) p = some y := by
  unfold atT at h
  split at h
  · exact ⟨by assumption, h⟩
  · cases h
theorem atT_of {t : Tr} {p : List Int} (h : rightT t = true) : atT t p = atTT (denT t) p := if_pos h
theorem putT_of {t x : Tr} {p : List Int} {y : TT} (h : rightT t = true) (hx : rightT x = true) (hy : atTT (denT t) p = some y) : putT t p x = some (putTT (denT t) p (denT x)) := by
  unfold putT
  rw [if_pos ⟨h, hx⟩]
  show (atTT (denT t) p).map _ = _
  rw [hy]; rfl
theorem rightT_treeOf {x : TT} (h : fitTT x) : rightT (treeOf x) = true := (rightT_iff _).2 (right_treeOf h)
/-- What is put is there just if the path is, and what is put is right. -/
theorem putT_isSome (t : Tr) (p : List Int) (x : Tr) : (putT t p x).isSome = ((atT t p).isSome && rightT x) := by
  unfold putT atT
  cases rightT t <;> cases rightT x <;> simp
/-- What is put is normal. -/
theorem put_normal {t x : Tr} {p : List Int} {y : TT} (h : putT t p x = some y) : normT (treeOf (makeTT y)) = true := by
  unfold putT at h
  split at h
  · rename_i hr
    obtain ⟨z, hz, rfl⟩ := Option.map_eq_some_iff.1 h
    exact norm_make (fit_put _ _ _ _ (fit_denT hr.1) hz (fit_denT hr.2))
  · cases h
/-- What stands there, put. -/
theorem put_back {t : Tr} {p : List Int} {y : TT} (h : atT t p = some y) : putT t p (treeOf y) = some (denT t) := by
  obtain ⟨h1, h2⟩ := atT_some h
  have hf := fit_at _ _ _ (fit_denT h1) h2
  rw [putT_of h1 (rightT_treeOf hf) h2]
  show some (putTT _ p (den (treeOf y).nodes (treeOf y).root.toNat)) = _
  rw [den_treeOf hf, put_self _ _ _ h2]
/-- Put at once, or one step at a time. -/
theorem put_steps {t x : Tr} {p q : List Int} {y : TT} (h : atT t (p ++ q) = some y) :
    ∃ h0, atT t p = some h0 ∧ (putT (treeOf h0) q x).isSome = (putT t (p ++ q) x).isSome ∧
      ∀ z, putT t (p ++ q) x = some z → ∃ u v, putT (treeOf h0) q x = some u ∧ putT t p (treeOf (makeTT u)) = some v ∧ makeTT v = makeTT z := by
  obtain ⟨h1, h2⟩ := atT_some h
  rw [at_append] at h2
  obtain ⟨h0, h3, h4⟩ := Option.bind_eq_some_iff.1 h2
  have hf0 := fit_at _ _ _ (fit_denT h1) h3
  have hat : atT (treeOf h0) q = some y := by
    rw [atT_of (rightT_treeOf hf0)]
    show atTT (den (treeOf h0).nodes (treeOf h0).root.toNat) q = _
    rw [den_treeOf hf0]; exact h4
  refine ⟨h0, by rw [atT_of h1]; exact h3, by rw [putT_isSome, putT_isSome, hat, h], fun z hz => ?_⟩
  have hx : rightT x = true := by
    have := putT_isSome t (p ++ q) x
    rw [hz, h] at this; simpa using this.symm
  have hfx := fit_denT hx
  obtain ⟨h5, h6⟩ := atT_some hat
  have hu := putT_of h5 hx h6
  have e0 : denT (treeOf h0) = h0 := den_treeOf hf0
  rw [e0] at hu
  have hfu : fitTT (putTT h0 q (denT x)) := fit_put _ _ _ _ hf0 (by rw [← e0]; exact h6) hfx
  have hv := putT_of (p := p) h1 (rightT_treeOf (make_ok hfu).1) h3
  have e1 : denT (treeOf (makeTT (putTT h0 q (denT x)))) = makeTT (putTT h0 q (denT x)) := den_treeOf (make_ok hfu).1
  rw [e1] at hv
  refine ⟨_, _, hu, hv, ?_⟩
  rw [make_put _ _ _ hfu, ← put_append _ _ _ _ _ h3]
  have h7 := putT_of h1 hx (show atTT (denT t) (p ++ q) = some y from (atT_some h).2)
  rw [hz, Option.some.injEq] at h7
  rw [h7]
end Go.Proofs.YtfncfmiccomgcaaDoor

/- Plain: sizes of what stands at a path; what was normal is the same after it was put together anew. -/
namespace Go.Proofs.YtfncfmiccomgcaaDoor
set_option linter.unusedSimpArgs false
set_option linter.unusedVariables false

theorem sz_at : ∀ (p : List Int) (x z : TT), atTT x p = some z → szTT z ≤ szTT x
  | [], x, z, h => by cases h; exact Nat.le_refl _
  | k :: p, x, z, h => by
    obtain ⟨_, u, h1, h2⟩ := atTT_cons h
    have ih := sz_at p u z h2
    cases x with
    | mk n ks =>
      simp only [TT.kids] at h1
      rw [sz_mk]
      have := sz_mem ks u (List.mem_of_getElem? h1)
      omega
theorem sz_atT {t : Tr} {p : List Int} {y : TT} (h : atT t p = some y) : szTT y ≤ t.nodes.length := by
  obtain ⟨h1, h2⟩ := atT_some h
  have h3 := sz_at _ _ _ h2
  have h4 : szTT (denT t) ≤ t.nodes.length := sz_den ((rightT_iff _).1 h1)
  omega
theorem sz_putT {t x : Tr} {p : List Int} {y : TT} (h : putT t p x = some y) : szTT y ≤ t.nodes.length + x.nodes.length := by
  have hy := h
  unfold putT at h
  split at h
  · rename_i hr
    obtain ⟨z, hz, rfl⟩ := Option.map_eq_some_iff.1 h
    have h1 := sz_put _ _ (den x.nodes x.root.toNat) _ hz
    have h2 := sz_den ((rightT_iff _).1 hr.1)
    have h3 := sz_den ((rightT_iff _).1 hr.2)
    omega
  · cases h
theorem sz_treeOf (x : TT) : (treeOf x).nodes.length = szTT x := rfl
/-- A normal tree, put together anew, is the same one. -/
theorem norm_same {t : Tr} (h : normT t = true) : makeTT (denT t) = denT t ∧ sameT (treeOf (makeTT (denT t))) t = true := by
  have hr : rightT t = true := by unfold normT at h; rw [Bool.and_eq_true] at h; exact h.1
  have hR := (rightT_iff _).1 hr
  have h1 := make_self (fit_denT hr) ((norm_den hR).1 h)
  refine ⟨h1, ?_⟩
  rw [h1]
  have hf := fit_denT hr
  have h2 := right_treeOf hf
  have hl : t.root.toNat < t.nodes.length := by have := hR.1; omega
  have hl2 : (treeOf (denT t)).root.toNat < (treeOf (denT t)).nodes.length := by have := h2.1; omega
  rw [sameT_yes ((rightT_iff _).2 h2) hr, decide_eq_true_eq, taken_flat (rightP_ahead hR) _ (post_nodup hR _ hl), taken_flat (rightP_ahead h2) _ (post_nodup h2 _ hl2), den_treeOf hf]
end Go.Proofs.YtfncfmiccomgcaaDoor
