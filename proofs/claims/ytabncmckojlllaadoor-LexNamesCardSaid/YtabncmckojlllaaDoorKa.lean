/- Plain laws of words: each word of a text may be. -/
import Derived.Test.YtabncmckojlllaaDoorLy
import Derived.Test.YtabncmckojlllaaDoorPn
namespace Go.Proofs.YtabncmckojlllaaDoor
set_option linter.unusedSimpArgs false
set_option linter.unusedVariables false

/-- May a word be? -/
def mayS (x : Wd) : Prop :=
  (x.kind = 1 → mayL x.text = true) ∧ (x.kind = 15 → x.text.length ≤ 255) ∧ (x.kind = 14 → 0 ≤ x.low ∧ x.low ≤ 99 ∧ (x.high = -1 ∨ (x.low ≤ x.high ∧ x.high ≤ 99))) ∧ 1 ≤ x.kind ∧ x.kind ≤ 16 ∧
  (x.kind ≠ 1 → x.kind ≠ 15 → x.text = []) ∧ (x.kind ≠ 16 → x.s0 = 0 ∧ x.s1 = 0 ∧ x.s2 = 0 ∧ x.s3 = 0) ∧ (x.kind ≠ 14 → x.low = 0 ∧ x.high = 0)
theorem numL_ok {l : List UInt8} (h : (numL l 99).2 = 0) : 0 ≤ (numL l 99).1 ∧ (numL l 99).1 ≤ 99 := by
  unfold numL at h ⊢
  split at h
  · rename_i h1
    rw [if_pos h1]
    split at h
    · cases h
    · rename_i h2
      rw [if_neg h2]
      simp only
      omega
  · cases h
theorem countL_ok {l : List UInt8} {x : Nat × Int × Int} (h : countL l = some x) : 0 ≤ x.2.1 ∧ x.2.1 ≤ 99 ∧ (x.2.2 = -1 ∨ (x.2.1 ≤ x.2.2 ∧ x.2.2 ≤ 99)) := by
  unfold countL at h
  simp only at h
  split at h
  · cases h
  split at h
  · cases h
  rename_i h1
  have n1 := numL_ok (l := (cut1 44 (cut1 125 l).1).1) (by simpa using h1)
  split at h
  · cases h; exact ⟨n1.1, n1.2, .inr ⟨Int.le_refl _, n1.2⟩⟩
  split at h
  · cases h; exact ⟨n1.1, n1.2, .inl rfl⟩
  split at h
  · cases h
  · rename_i h2
    cases h
    have n2 := numL_ok (l := (cut1 44 (cut1 125 l).1).2.1) (by by_cases h0 : (numL (cut1 44 (cut1 125 l).1).2.1 99).2 = 0; exact h0; exact absurd (.inl h0) h2)
    exact ⟨n1.1, n1.2, .inr ⟨by by_cases h0 : (numL (cut1 44 (cut1 125 l).1).2.1 99).1 < (numL (cut1 44 (cut1 125 l).1).1 99).1; exact absurd (.inr h0) h2; simp only; omega, n2.2⟩⟩
theorem signK_in {c : UInt8} {k : Nat} (h : signK c = some k) : 3 ≤ k ∧ k ≤ 13 := by
  unfold signK at h
  split at h
  · cases h; decide
  split at h
  · cases h; decide
  split at h
  · cases h; decide
  split at h
  · cases h; decide
  split at h
  · cases h; decide
  split at h
  · cases h; decide
  split at h
  · cases h; decide
  split at h
  · cases h; decide
  split at h
  · cases h; decide
  split at h
  · cases h; decide
  · cases h
theorem unlitR_len {t : List UInt8} (h : (unlitR t).2.2 = 0) : (unlitR t).1.length ≤ 255 := by
  unfold unlitR at h ⊢
  split at h
  · cases h
  · rename_i c hc
    split at h
    · cases h
    · rename_i h34
      rw [if_neg h34]
      simp only at h ⊢
      split at h
      · rename_i hn; exact absurd h hn
      rename_i hn
      rw [if_neg hn]
      split at h
      · cases h
      · rename_i hm
        rw [if_neg hm]
        simp only
        omega
theorem head_may {t : List UInt8} {x : Wd} (h : headW t = some x) : mayS x := by
  have hk := head_len h
  unfold headW at h
  split at h
  · cases h
  rename_i c hc
  split at h
  · rename_i hle
    split at h
    · rename_i h32
      cases h
      refine ⟨fun _ => ?_, fun e => by simp at e, fun e => by simp at e, by simp only; omega, by simp only; omega, fun e => absurd rfl e, fun _ => ⟨rfl, rfl, rfl, rfl⟩, fun _ => ⟨rfl, rfl⟩⟩
      unfold mayL
      refine decide_eq_true ⟨fun e => ?_, h32, takeL_idem t⟩
      simp only at hk e
      rw [e] at hk
      simp at hk
    · cases h
  split at h
  · cases hq : countL (t.drop 1) with
    | none => rw [hq] at h; cases h
    | some y =>
      rw [hq] at h; cases h
      exact ⟨fun e => by simp at e, fun e => by simp at e, fun _ => countL_ok hq, by simp only; omega, by simp only; omega, fun _ _ => rfl, fun _ => ⟨rfl, rfl, rfl, rfl⟩, fun e => absurd rfl e⟩
  split at h
  · split at h
    · rename_i he
      cases h
      exact ⟨fun e => by simp at e, fun _ => unlitR_len he, fun e => by simp at e, by simp only; omega, by simp only; omega, fun _ e => absurd rfl e, fun _ => ⟨rfl, rfl, rfl, rfl⟩, fun _ => ⟨rfl, rfl⟩⟩
    · cases h
  split at h
  · split at h
    · cases h
      exact ⟨fun e => by simp at e, fun e => by simp at e, fun e => by simp at e, by simp only; omega, by simp only; omega, fun _ _ => rfl, fun e => absurd rfl e, fun _ => ⟨rfl, rfl⟩⟩
    · cases h
  split at h
  · cases h
    exact ⟨fun e => by simp at e, fun e => by simp at e, fun e => by simp at e, by simp only; omega, by simp only; omega, fun _ _ => rfl, fun e => absurd rfl e, fun _ => ⟨rfl, rfl⟩⟩
  split at h
  · split at h
    · cases h
      exact ⟨fun e => by simp at e, fun e => by simp at e, fun e => by simp at e, by simp only; omega, by simp only; omega, fun _ _ => rfl, fun _ => ⟨rfl, rfl, rfl, rfl⟩, fun _ => ⟨rfl, rfl⟩⟩
    · cases h
      exact ⟨fun e => by simp at e, fun e => by simp at e, fun e => by simp at e, by simp only; omega, by simp only; omega, fun _ _ => rfl, fun _ => ⟨rfl, rfl, rfl, rfl⟩, fun _ => ⟨rfl, rfl⟩⟩
  · cases hq : signK c with
    | none => rw [hq] at h; cases h
    | some k =>
      rw [hq] at h; cases h
      have := signK_in hq
      refine ⟨fun e => ?_, fun e => ?_, fun e => ?_, by simp only; omega, by simp only; omega, fun _ _ => rfl, fun _ => ⟨rfl, rfl, rfl, rfl⟩, fun _ => ⟨rfl, rfl⟩⟩ <;> (simp only at e; omega)
theorem word_may {s : List UInt8} {a : Nat} {x : Wd} (h : wordL s a = some x) : mayS x := by
  unfold wordL at h
  cases hq : headW (s.drop a) with
  | none => rw [hq] at h; cases h
  | some y =>
    rw [hq] at h; cases h
    have := head_may hq
    exact ⟨this.1, this.2.1, this.2.2.1, this.2.2.2.1, this.2.2.2.2.1, this.2.2.2.2.2.1, this.2.2.2.2.2.2.1, this.2.2.2.2.2.2.2⟩
end Go.Proofs.YtabncmckojlllaaDoor
