/- Plain: when the arena of a tree is normal. -/
import Derived.Test.YtfncfmiccomgcaaDoorNm
import Derived.Test.YtfncfmiccomgcaaDoorAu
namespace Go.Proofs.YtfncfmiccomgcaaDoor
set_option linter.unusedSimpArgs false
set_option linter.unusedVariables false

theorem shut_den {l : List Nd} (hA : Ahead l) : ∀ i, shutTT (den l i) ↔ ∀ p ∈ postN l i, shutN l (ndAt l p) = true := by
  intro i
  induction i using Nat.strongRecOn with
  | _ i ih =>
    rw [den_eq hA, shutTT_mk, postN_eq hA]
    have hk : ∀ k, (den l k).kd = (ndAt l k).kind := fun k => by rw [den_eq hA]; rfl
    have hs : shutN l (ndAt l i) = true ↔ ∀ k ∈ kidsAt l i, ((ndAt l i).kind = 4 → (ndAt l k).kind ≠ 4 ∧ (ndAt l k).kind ≠ 0) ∧ ((ndAt l i).kind = 5 → (ndAt l k).kind ≠ 5) := by
      unfold shutN
      rw [kidsAt_nd]
      by_cases h : (ndAt l i).kind = 4 ∨ (ndAt l i).kind = 5
      · rw [if_pos h, List.all_eq_true]
        simp only [List.mem_map, forall_exists_index, and_imp, forall_apply_eq_imp_iff₂, decide_eq_true_eq]
        rcases h with h | h
        · simp only [h, true_implies, show ((4 : Int) = 5) = False from by decide, false_implies, and_true]
        · simp only [h, true_implies, show ((5 : Int) = 4) = False from by decide, false_implies, true_and, and_false, not_false_iff, and_true]
      · rw [if_neg h]
        refine ⟨fun _ k _ => ⟨fun e => absurd (.inl e) h, fun e => absurd (.inr e) h⟩, fun _ => rfl⟩
    constructor
    · intro h p hp
      rcases List.mem_append.1 hp with hp | hp
      · obtain ⟨k, hk', hp⟩ := List.mem_flatMap.1 hp
        exact (ih k (hA i k hk')).1 (h _ (List.mem_map.2 ⟨k, hk', rfl⟩)).2 p hp
      · rw [List.mem_singleton.1 hp, hs]
        intro k hk'
        have := (h _ (List.mem_map.2 ⟨k, hk', rfl⟩)).1
        rw [hk] at this; exact this
    · intro h t ht
      obtain ⟨k, hk', rfl⟩ := List.mem_map.1 ht
      refine ⟨?_, (ih k (hA i k hk')).2 fun p hp => h p (List.mem_append.2 (.inl (List.mem_flatMap.2 ⟨k, hk', hp⟩)))⟩
      rw [hk]
      exact hs.1 (h i (List.mem_append.2 (.inr (List.mem_singleton.2 rfl)))) k hk'
theorem all_post {t : Tr} (h : rightP t) (p : Nat) (hp : p < t.nodes.length) : p ∈ postN t.nodes t.root.toNat := by
  have hr : t.root.toNat < t.nodes.length := by have := h.1; omega
  apply Decidable.byContradiction
  intro hn
  have h1 : (p :: postN t.nodes t.root.toNat).Nodup := List.nodup_cons.2 ⟨hn, post_nodup h _ hr⟩
  have h2 := nodup_length h1 (n := t.nodes.length) (fun k hk => by
    rcases List.mem_cons.1 hk with rfl | hk
    · exact hp
    · have := postN_le (rightP_ahead h) _ k hk; omega)
  rw [List.length_cons, root_length h] at h2
  omega
/-- expr.Normal says whether a right tree is normal. -/
theorem norm_den {t : Tr} (h : rightP t) : normT t = true ↔ shutTT (den t.nodes t.root.toNat) := by
  have hr : t.root.toNat < t.nodes.length := by have := h.1; omega
  unfold normT
  rw [(rightT_iff _).2 h, Bool.true_and, shut_den (rightP_ahead h), List.all_eq_true]
  constructor
  · intro ha p hp
    have hl : p < t.nodes.length := by have := postN_le (rightP_ahead h) _ p hp; omega
    have e : ndAt t.nodes p = t.nodes[p] := by simp [ndAt, hl]
    rw [e]; exact ha _ (List.getElem_mem hl)
  · intro ha n hn
    obtain ⟨p, hp, rfl⟩ := List.mem_iff_getElem.1 hn
    have e : ndAt t.nodes p = t.nodes[p] := by simp [ndAt, hp]
    rw [← e]; exact ha p (all_post h p hp)
theorem norm_make {x : TT} (h : fitTT x) : normT (treeOf (makeTT x)) = true :=
  (norm_den (right_treeOf (make_ok h).1)).2 (by rw [den_treeOf (make_ok h).1]; exact (make_ok h).2)
end Go.Proofs.YtfncfmiccomgcaaDoor
