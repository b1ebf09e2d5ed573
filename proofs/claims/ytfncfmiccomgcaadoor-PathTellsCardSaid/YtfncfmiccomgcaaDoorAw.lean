/- Plain: the arena of a tree that fits is right. -/
import Derived.Test.YtfncfmiccomgcaaDoorAl
import Derived.Test.YtfncfmiccomgcaaDoorAb
import Derived.Test.YtfncfmiccomgcaaDoorNm
import Derived.Test.YtfncfmiccomgcaaDoorAr
import Derived.Test.YtfncfmiccomgcaaDoorAs
namespace Go.Proofs.YtfncfmiccomgcaaDoor
set_option linter.unusedSimpArgs false
set_option linter.unusedVariables false

theorem ends_ge : ∀ (T : List (List Nd)) (off : Nat), (∀ t ∈ T, 1 ≤ t.length) → ∀ z ∈ endsN off T, (off : Int) ≤ z
  | [], _, _, z, h => by simp [endsN] at h
  | t :: ts, off, ht, z, h => by
    have h1 := ht t List.mem_cons_self
    simp only [endsN, List.mem_cons] at h
    rcases h with rfl | h
    · omega
    · have := ends_ge ts (off + t.length) (fun t h => ht t (List.mem_cons_of_mem _ h)) z h; omega
theorem ends_nodup : ∀ (T : List (List Nd)) (off : Nat), (∀ t ∈ T, 1 ≤ t.length) → (endsN off T).Nodup
  | [], _, _ => by simp [endsN]
  | t :: ts, off, ht => by
    have h1 := ht t List.mem_cons_self
    have h2 : ∀ t' ∈ ts, 1 ≤ t'.length := fun t h => ht t (List.mem_cons_of_mem _ h)
    simp only [endsN, List.nodup_cons]
    refine ⟨fun hm => ?_, ends_nodup ts _ h2⟩
    have := ends_ge ts (off + t.length) h2 _ hm; omega
theorem grove_cat : ∀ (ks : List TT) (N : List Nd) (R : Nat → Prop), (∀ x ∈ ks, ∀ M Q, Grove M Q → Grove (M ++ (flatT x).map (shiftN M.length)) (fun p => Q p ∨ p = M.length + ((flatT x).length - 1))) → Grove N R →
    Grove (N ++ catN N.length (ks.map flatT)) (fun p => R p ∨ (p : Int) ∈ endsN N.length (ks.map flatT))
  | [], N, R, _, h => by
    simp only [List.map_nil, catN, endsN, List.append_nil]
    exact h.congr fun p => by simp
  | x :: ks, N, R, hx, h => by
    have h1 := hx x List.mem_cons_self N R h
    have h2 := grove_cat ks _ _ (fun y hy => hx y (List.mem_cons_of_mem _ hy)) h1
    have hl := flat_ne x
    simp only [List.length_append, List.length_map, List.append_assoc] at h2
    simp only [List.map_cons, catN, endsN]
    refine h2.congr fun p => ?_
    simp only [List.mem_cons]
    constructor
    · rintro ((h3 | rfl) | h3)
      · exact .inl h3
      · exact .inr (.inl (by omega))
      · exact .inr (.inr h3)
    · rintro (h3 | h3 | h3)
      · exact .inl (.inl h3)
      · exact .inl (.inr (by omega))
      · exact .inr h3
theorem grove_flat {x : TT} : fitTT x → ∀ N R, Grove N R → Grove (N ++ (flatT x).map (shiftN N.length)) (fun p => R p ∨ p = N.length + ((flatT x).length - 1)) := by
  induction x using TT.ind with
  | h n ks ih =>
    intro hf N R h
    obtain ⟨⟨hk, hn⟩, hks⟩ := fitTT_mk.1 hf
    have h1 := grove_cat ks N R (fun y hy => ih y hy (hks y hy)) h
    have hne : ∀ t ∈ ks.map flatT, 1 ≤ t.length := fun t ht => by obtain ⟨y, _, rfl⟩ := List.mem_map.1 ht; exact flat_ne y
    have hl : (catN 0 (ks.map flatT)).length = (catN N.length (ks.map flatT)).length := by
      rw [show N.length = N.length + 0 by omega, ← cat_shift]; simp
    have hs : (flatT (.mk n ks)).map (shiftN N.length) = catN N.length (ks.map flatT) ++ [{ n with kids := endsN N.length (ks.map flatT) }] := by
      rw [flatT_mk, List.map_append, cat_shift, Nat.add_zero, List.map_singleton]
      congr 2
      show ({ n with kids := (endsN 0 (ks.map flatT)).map (· + (N.length : Int)) } : Nd) = _
      rw [ends_shift, Nat.add_zero]
    have hlen : (flatT (.mk n ks)).length = (catN N.length (ks.map flatT)).length + 1 := by rw [flatT_mk, List.length_append, hl]; rfl
    rw [hs, ← List.append_assoc]
    refine (h1.push (n := { n with kids := endsN N.length (ks.map flatT) }) (by rw [fitN_kids]; simp only [ends_length', List.length_map]; exact hn) (fun k hk' => ?_) (ends_nodup _ _ hne)).congr fun p => ?_
    · have := ends_ge _ _ hne k hk'
      refine ⟨by omega, .inr ?_⟩
      rw [show ((k.toNat : Nat) : Int) = k by omega]; exact hk'
    · rw [List.length_append, hlen]
      constructor
      · rintro (h2 | ⟨h2 | h2, h3⟩)
        · exact .inr (by omega)
        · exact .inl h2
        · exact absurd h2 h3
      · rintro (h2 | h2)
        · refine .inr ⟨.inl h2, fun h3 => ?_⟩
          have h4 := ends_ge _ _ hne _ h3
          have h5 := h.lt p h2
          omega
        · exact .inl (by omega)
theorem right_treeOf {x : TT} (h : fitTT x) : rightP (treeOf x) := by
  have h1 := grove_flat h [] _ Grove.nil
  have e : (flatT x).map (shiftN 0) = flatT x := by
    refine Eq.trans (List.map_congr_left fun n _ => ?_) (List.map_id _)
    cases n; simp [shiftN]
  simp only [List.nil_append, List.length_nil, e, Nat.zero_add] at h1
  have hl := flat_ne x
  have h2 := (h1.congr (R' := fun p => p = (flatT x).length - 1) fun p => by simp).right
  have e2 : treeOf x = ⟨flatT x, (((flatT x).length - 1 : Nat) : Int)⟩ := by unfold treeOf; congr 1; omega
  rw [e2]; exact h2
theorem den_treeOf {x : TT} (h : fitTT x) : den (treeOf x).nodes (treeOf x).root.toNat = x := by
  have hl := flat_ne x
  have h1 := rep_treeOf (fit_bareTT h)
  have e : (treeOf x).root.toNat = (flatT x).length - 1 := by unfold treeOf; simp only; omega
  rw [e]
  exact h1.den (right_aheadZ (right_treeOf h))
end Go.Proofs.YtfncfmiccomgcaaDoor

/- Plain: when the arena of a tree is normal. -/
namespace Go.Proofs.YtfncfmiccomgcaaDoor
set_option linter.unusedSimpArgs false
set_option linter.unusedVariables false

theorem shut_den {l : List Nd} (hA : Ahead l) : ∀ i, shutTT (den l i) ↔ ∀ p ∈ postN l i, shutN l (ndAt l p) = true := by
  intro i
  induction i using Nat.strongRecOn with
  | _ i ih =>
    rw [den_eq hA, shutTT_mk, postN_eq hA]
    have hk : ∀ k, (den l k).kd = (ndAt l k).kind := fun k => by rw [den_eq hA]; rfl
    have hs : shutN l (ndAt l i) = true ↔ ∀ k ∈ kidsAt l i, ((ndAt l i).kind = 4 → (ndAt l k).kind ≠ 4 ∧ (ndAt l k).kind ≠ 0) ∧ ((ndAt l i).kind = 5 → (ndAt l k).kind ≠ 5) := by
      unfold shutN
      rw [kidsAt_nd]
      by_cases h : (ndAt l i).kind = 4 ∨ (ndAt l i).kind = 5
      · rw [if_pos h, List.all_eq_true]
        simp only [List.mem_map, forall_exists_index, and_imp, forall_apply_eq_imp_iff₂, decide_eq_true_eq]
        rcases h with h | h
        · simp only [h, true_implies, show ((4 : Int) = 5) = False from by decide, false_implies, and_true]
        · simp only [h, true_implies, show ((5 : Int) = 4) = False from by decide, false_implies, true_and, and_false, not_false_iff, and_true]
      · rw [if_neg h]
        refine ⟨fun _ k _ => ⟨fun e => absurd (.inl e) h, fun e => absurd (.inr e) h⟩, fun _ => rfl⟩
    constructor
    · intro h p hp
      rcases List.mem_append.1 hp with hp | hp
      · obtain ⟨k, hk', hp⟩ := List.mem_flatMap.1 hp
        exact (ih k (hA i k hk')).1 (h _ (List.mem_map.2 ⟨k, hk', rfl⟩)).2 p hp
      · rw [List.mem_singleton.1 hp, hs]
        intro k hk'
        have := (h _ (List.mem_map.2 ⟨k, hk', rfl⟩)).1
        rw [hk] at this; exact this
    · intro h t ht
      obtain ⟨k, hk', rfl⟩ := List.mem_map.1 ht
      refine ⟨?_, (ih k (hA i k hk')).2 fun p hp => h p (List.mem_append.2 (.inl (List.mem_flatMap.2 ⟨k, hk', hp⟩)))⟩
      rw [hk]
      exact hs.1 (h i (List.mem_append.2 (.inr (List.mem_singleton.2 rfl)))) k hk'
theorem all_post {t : Tr} (h : rightP t) (p : Nat) (hp : p < t.nodes.length) : p ∈ postN t.nodes t.root.toNat := by
  have hr : t.root.toNat < t.nodes.length := by have := h.1; omega
  apply Decidable.byContradiction
  intro hn
  have h1 : (p :: postN t.nodes t.root.toNat).Nodup := List.nodup_cons.2 ⟨hn, post_nodup h _ hr⟩
  have h2 := nodup_length h1 (n := t.nodes.length) (fun k hk => by
    rcases List.mem_cons.1 hk with rfl | hk
    · exact hp
    · have := postN_le (rightP_ahead h) _ k hk; omega)
  rw [List.length_cons, root_length h] at h2
  omega
/-- expr.Normal says whether a right tree is normal. -/
theorem norm_den {t : Tr} (h : rightP t) : normT t = true ↔ shutTT (den t.nodes t.root.toNat) := by
  have hr : t.root.toNat < t.nodes.length := by have := h.1; omega
  unfold normT
  rw [(rightT_iff _).2 h, Bool.true_and, shut_den (rightP_ahead h), List.all_eq_true]
  constructor
  · intro ha p hp
    have hl : p < t.nodes.length := by have := postN_le (rightP_ahead h) _ p hp; omega
    have e : ndAt t.nodes p = t.nodes[p] := by simp [ndAt, hl]
    rw [e]; exact ha _ (List.getElem_mem hl)
  · intro ha n hn
    obtain ⟨p, hp, rfl⟩ := List.mem_iff_getElem.1 hn
    have e : ndAt t.nodes p = t.nodes[p] := by simp [ndAt, hp]
    rw [← e]; exact ha p (all_post h p hp)
theorem norm_make {x : TT} (h : fitTT x) : normT (treeOf (makeTT x)) = true :=
  (norm_den (right_treeOf (make_ok h).1)).2 (by rw [den_treeOf (make_ok h).1]; exact (make_ok h).2)
end Go.Proofs.YtfncfmiccomgcaaDoor

/- Plain: the law of PathPut, of what the contracts say. -/
namespace Go.Proofs.YtfncfmiccomgcaaDoor
set_option linter.unusedSimpArgs false
set_option linter.unusedVariables false

abbrev denT (t : Tr) : TT := den t.nodes t.root.toNat
theorem fit_denT {t : Tr} (h : rightT t = true) : fitTT (denT t) := by
  have hR := (rightT_iff _).1 h
  have h1 := hR.1
  exact right_fit hR _ (by omega)
theorem atT_some {t : Tr} {p : List Int} {y : TT} (h : atT t p = some y) : rightT t = true ∧ atTT (denT t) p = some y := by
  unfold atT at h
  split at h
  · exact ⟨by assumption, h⟩
  · cases h
theorem atT_of {t : Tr} {p : List Int} (h : rightT t = true) : atT t p = atTT (denT t) p := if_pos h
theorem putT_of {t x : Tr} {p : List Int} {y : TT} (h : rightT t = true) (hx : rightT x = true) (hy : atTT (denT t) p = some y) : putT t p x = some (putTT (denT t) p (denT x)) := by
  unfold putT
  rw [if_pos ⟨h, hx⟩]
  show (atTT (denT t) p).map _ = _
  rw [hy]; rfl
theorem rightT_treeOf {x : TT} (h : fitTT x) : rightT (treeOf x) = true := (rightT_iff _).2 (right_treeOf h)
/-- What is put is there just if the path is, and what is put is right. -/
theorem putT_isSome (t : Tr) (p : List Int) (x : Tr) : (putT t p x).isSome = ((atT t p).isSome && rightT x) := by
  unfold putT atT
  cases rightT t <;> cases rightT x <;> simp
/-- What is put is normal. -/
theorem put_normal {t x : Tr} {p : List Int} {y : TT} (h : putT t p x = some y) : normT (treeOf (makeTT y)) = true := by
  unfold putT at h
  split at h
  · rename_i hr
    obtain ⟨z, hz, rfl⟩ := Option.map_eq_some_iff.1 h
    exact norm_make (fit_put _ _ _ _ (fit_denT hr.1) hz (fit_denT hr.2))
  · cases h
/-- What stands there, put. -/
theorem put_back {t : Tr} {p : List Int} {y : TT} (h : atT t p = some y) : putT t p (treeOf y) = some (denT t) := by
  obtain ⟨h1, h2⟩ := atT_some h
  have hf := fit_at _ _ _ (fit_denT h1) h2
  rw [putT_of h1 (rightT_treeOf hf) h2]
  show some (putTT _ p (den (treeOf y).nodes (treeOf y).root.toNat)) = _
  rw [den_treeOf hf, put_self _ _ _ h2]
/-- Put at once, or one step at a time. -/
theorem put_steps {t x : Tr} {p q : List Int} {y : TT} (h : atT t (p ++ q) = some y) :
    ∃ h0, atT t p = some h0 ∧ (putT (treeOf h0) q x).isSome = (putT t (p ++ q) x).isSome ∧
      ∀ z, putT t (p ++ q) x = some z → ∃ u v, putT (treeOf h0) q x = some u ∧ putT t p (treeOf (makeTT u)) = some v ∧ makeTT v = makeTT z := by
  obtain ⟨h1, h2⟩ := atT_some h
  rw [at_append] at h2
  obtain ⟨h0, h3, h4⟩ := Option.bind_eq_some_iff.1 h2
  have hf0 := fit_at _ _ _ (fit_denT h1) h3
  have hat : atT (treeOf h0) q = some y := by
    rw [atT_of (rightT_treeOf hf0)]
    show atTT (den (treeOf h0).nodes (treeOf h0).root.toNat) q = _
    rw [den_treeOf hf0]; exact h4
  refine ⟨h0, by rw [atT_of h1]; exact h3, by rw [putT_isSome, putT_isSome, hat, h], fun z hz => ?_⟩
  have hx : rightT x = true := by
    have := putT_isSome t (p ++ q) x
    rw [hz, h] at this; simpa using this.symm
  have hfx := fit_denT hx
  obtain ⟨h5, h6⟩ := atT_some hat
  have hu := putT_of h5 hx h6
  have e0 : denT (treeOf h0) = h0 := den_treeOf hf0
  rw [e0] at hu
  have hfu : fitTT (putTT h0 q (denT x)) := fit_put _ _ _ _ hf0 (by rw [← e0]; exact h6) hfx
  have hv := putT_of (p := p) h1 (rightT_treeOf (make_ok hfu).1) h3
  have e1 : denT (treeOf (makeTT (putTT h0 q (denT x)))) = makeTT (putTT h0 q (denT x)) := den_treeOf (make_ok hfu).1
  rw [e1] at hv
  refine ⟨_, _, hu, hv, ?_⟩
  rw [make_put _ _ _ hfu, ← put_append _ _ _ _ _ h3]
  have h7 := putT_of h1 hx (show atTT (denT t) (p ++ q) = some y from (atT_some h).2)
  rw [hz, Option.some.injEq] at h7
  rw [h7]
end Go.Proofs.YtfncfmiccomgcaaDoor

/- Plain: sizes of what stands at a path; what was normal is the same after it was put together anew. -/
namespace Go.Proofs.YtfncfmiccomgcaaDoor
set_option linter.unusedSimpArgs false
set_option linter.unusedVariables false

theorem sz_at : ∀ (p : List Int) (x z : TT), atTT x p = some z → szTT z ≤ szTT x
  | [], x, z, h => by cases h; exact Nat.le_refl _
  | k :: p, x, z, h => by
    obtain ⟨_, u, h1, h2⟩ := atTT_cons h
    have ih := sz_at p u z h2
    cases x with
    | mk n ks =>
      simp only [TT.kids] at h1
      rw [sz_mk]
      have := sz_mem ks u (List.mem_of_getElem? h1)
      omega
theorem sz_atT {t : Tr} {p : List Int} {y : TT} (h : atT t p = some y) : szTT y ≤ t.nodes.length := by
  obtain ⟨h1, h2⟩ := atT_some h
  have h3 := sz_at _ _ _ h2
  have h4 : szTT (denT t) ≤ t.nodes.length := sz_den ((rightT_iff _).1 h1)
  omega
theorem sz_putT {t x : Tr} {p : List Int} {y : TT} (h : putT t p x = some y) : szTT y ≤ t.nodes.length + x.nodes.length := by
  have hy := h
  unfold putT at h
  split at h
  · rename_i hr
    obtain ⟨z, hz, rfl⟩ := Option.map_eq_some_iff.1 h
    have h1 := sz_put _ _ (den x.nodes x.root.toNat) _ hz
    have h2 := sz_den ((rightT_iff _).1 hr.1)
    have h3 := sz_den ((rightT_iff _).1 hr.2)
    omega
  · cases h
theorem sz_treeOf (x : TT) : (treeOf x).nodes.length = szTT x := rfl
/-- A normal tree, put together anew, is the same one. -/
theorem norm_same {t : Tr} (h : normT t = true) : makeTT (denT t) = denT t ∧ sameT (treeOf (makeTT (denT t))) t = true := by
  have hr : rightT t = true := by unfold normT at h; rw [Bool.and_eq_true] at h; exact h.1
  have hR := (rightT_iff _).1 hr
  have h1 := make_self (fit_denT hr) ((norm_den hR).1 h)
  refine ⟨h1, ?_⟩
  rw [h1]
  have hf := fit_denT hr
  have h2 := right_treeOf hf
  have hl : t.root.toNat < t.nodes.length := by have := hR.1; omega
  have hl2 : (treeOf (denT t)).root.toNat < (treeOf (denT t)).nodes.length := by have := h2.1; omega
  rw [sameT_yes ((rightT_iff _).2 h2) hr, decide_eq_true_eq, taken_flat (rightP_ahead hR) _ (post_nodup hR _ hl), taken_flat (rightP_ahead h2) _ (post_nodup h2 _ hl2), den_treeOf hf]
end Go.Proofs.YtfncfmiccomgcaaDoor
