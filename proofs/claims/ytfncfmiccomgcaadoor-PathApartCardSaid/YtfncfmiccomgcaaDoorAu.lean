/- Plain: the arena of a tree that fits is right. -/
import Derived.Test.YtfncfmiccomgcaaDoorAl
import Derived.Test.YtfncfmiccomgcaaDoorAb
namespace Go.Proofs.YtfncfmiccomgcaaDoor
set_option linter.unusedSimpArgs false
set_option linter.unusedVariables false

theorem ends_ge : ∀ (T : List (List Nd)) (off : Nat), (∀ t ∈ T, 1 ≤ t.length) → ∀ z ∈ endsN off T, (off : Int) ≤ z
  | [], _, _, z, h => by simp [endsN] at h
  | t :: ts, off, ht, z, h => by
    have h1 := ht t List.mem_cons_self
    simp only [endsN, List.mem_cons] at h
    rcases h with rfl | h
    · omega
    · have := ends_ge ts (off + t.length) (fun t h => ht t (List.mem_cons_of_mem _ h)) z h; omega
theorem ends_nodup : ∀ (T : List (List Nd)) (off : Nat), (∀ t ∈ T, 1 ≤ t.length) → (endsN off T).Nodup
  | [], _, _ => by simp [endsN]
  | t :: ts, off, ht => by
    have h1 := ht t List.mem_cons_self
    have h2 : ∀ t' ∈ ts, 1 ≤ t'.length := fun t h => ht t (List.mem_cons_of_mem _ h)
    simp only [endsN, List.nodup_cons]
    refine ⟨fun hm => ?_, ends_nodup ts _ h2⟩
    have := ends_ge ts (off + t.length) h2 _ hm; omega
theorem grove_cat : ∀ (ks : List TT) (N : List Nd) (R : Nat → Prop), (∀ x ∈ ks, ∀ M Q, Grove M Q → Grove (M ++ (flatT x).map (shiftN M.length)) (fun p => Q p ∨ p = M.length + ((flatT x).length - 1))) → Grove N R →
    Grove (N ++ catN N.length (ks.map flatT)) (fun p => R p ∨ (p : Int) ∈ endsN N.length (ks.map flatT))
  | [], N, R, _, h => by
    simp only [List.map_nil, catN, endsN, List.append_nil]
    exact h.congr fun p => by simp
  | x :: ks, N, R, hx, h => by
    have h1 := hx x List.mem_cons_self N R h
    have h2 := grove_cat ks _ _ (fun y hy => hx y (List.mem_cons_of_mem _ hy)) h1
    have hl := flat_ne x
    simp only [List.length_append, List.length_map, List.append_assoc] at h2
    simp only [List.map_cons, catN, endsN]
    refine h2.congr fun p => ?_
    simp only [List.mem_cons]
    constructor
    · rintro ((h3 | rfl) | h3)
      · exact .inl h3
      · exact .inr (.inl (by omega))
      · exact .inr (.inr h3)
    · rintro (h3 | h3 | h3)
      · exact .inl (.inl h3)
      · exact .inl (.inr (by omega))
      · exact .inr h3
theorem grove_flat {x : TT} : fitTT x → ∀ N R, Grove N R → Grove (N ++ (flatT x).map (shiftN N.length)) (fun p => R p ∨ p = N.length + ((flatT x).length - 1)) := by
  induction x using TT.ind with
  | h n ks ih =>
    intro hf N R h
    obtain ⟨⟨hk, hn⟩, hks⟩ := fitTT_mk.1 hf
    have h1 := grove_cat ks N R (fun y hy => ih y hy (hks y hy)) h
    have hne : ∀ t ∈ ks.map flatT, 1 ≤ t.length := fun t ht => by obtain ⟨y, _, rfl⟩ := List.mem_map.1 ht; exact flat_ne y
    have hl : (catN 0 (ks.map flatT)).length = (catN N.length (ks.map flatT)).length := by
      rw [show N.length = N.length + 0 by omega, ← cat_shift]; simp
    have hs : (flatT (.mk n ks)).map (shiftN N.length) = catN N.length (ks.map flatT) ++ [{ n with kids := endsN N.length (ks.map flatT) }] := by
      rw [flatT_mk, List.map_append, cat_shift, Nat.add_zero, List.map_singleton]
      congr 2
      show ({ n with kids := (endsN 0 (ks.map flatT)).map (· + (N.length : Int)) } : Nd) = _
      rw [ends_shift, Nat.add_zero]
    have hlen : (flatT (.mk n ks)).length = (catN N.length (ks.map flatT)).length + 1 := by rw [flatT_mk, List.length_append, hl]; rfl
    rw [hs, ← List.append_assoc]
    refine (h1.push (n := { n with kids := endsN N.length (ks.map flatT) }) (by rw [fitN_kids]; simp only [ends_length', List.length_map]; exact hn) (fun k hk' => ?_) (ends_nodup _ _ hne)).congr fun p => ?_
    · have := ends_ge _ _ hne k hk'
      refine ⟨by omega, .inr ?_⟩
      rw [show ((k.toNat : Nat) : Int) = k by omega]; exact hk'
    · rw [List.length_append, hlen]
      constructor
      · rintro (h2 | ⟨h2 | h2, h3⟩)
        · exact .inr (by omega)
        · exact .inl h2
        · exact absurd h2 h3
      · rintro (h2 | h2)
        · refine .inr ⟨.inl h2, fun h3 => ?_⟩
          have h4 := ends_ge _ _ hne _ h3
          have h5 := h.lt p h2
          omega
        · exact .inl (by omega)
theorem right_treeOf {x : TT} (h : fitTT x) : rightP (treeOf x) := by
  have h1 := grove_flat h [] _ Grove.nil
  have e : (flatT x).map (shiftN 0) = flatT x := by
    refine Eq.trans (List.map_congr_left fun n _ => ?_) (List.map_id _)
    cases n; simp [shiftN]
  simp only [List.nil_append, List.length_nil, e, Nat.zero_add] at h1
  have hl := flat_ne x
  have h2 := (h1.congr (R' := fun p => p = (flatT x).length - 1) fun p => by simp).right
  have e2 : treeOf x = ⟨flatT x, (((flatT x).length - 1 : Nat) : Int)⟩ := by unfold treeOf; congr 1; omega
  rw [e2]; exact h2
theorem den_treeOf {x : TT} (h : fitTT x) : den (treeOf x).nodes (treeOf x).root.toNat = x := by
  have hl := flat_ne x
  have h1 := rep_treeOf (fit_bareTT h)
  have e : (treeOf x).root.toNat = (flatT x).length - 1 := by unfold treeOf; simp only; omega
  rw [e]
  exact h1.den (right_aheadZ (right_treeOf h))
end Go.Proofs.YtfncfmiccomgcaaDoor
