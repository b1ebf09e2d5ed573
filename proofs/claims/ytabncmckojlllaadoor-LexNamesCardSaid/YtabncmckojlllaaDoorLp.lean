/- Plain laws of words: how long a word is. -/
import Derived.Test.YtabncmckojlllaaDoorLa
import Derived.Test.YtabncmckojlllaaDoorPn
namespace Go.Proofs.YtabncmckojlllaaDoor
set_option linter.unusedSimpArgs false
set_option linter.unusedVariables false

theorem GN_close (t : List UInt8) : ∀ (f a : Nat), a ≤ t.length → t.length < a + f → (rangesR t f a).2.2 = 0 → t[(rangesR t f a).2.1]? = some 93 ∧ a ≤ (rangesR t f a).2.1
  | 0, a, ha, hf => by omega
  | f + 1, a, ha, hf => by
    simp only [rangesR]
    split
    · rename_i h; exact fun _ => ⟨h, Nat.le_refl _⟩
    cases e : signR clsL t a with
    | no p k => intro h; rcases signR_no e with h1 | h1 <;> simp only at h <;> omega
    | ok b n =>
      have h1 := signR_ok e
      simp only
      cases e2 : highR t b n with
      | no p k => intro h; rcases highR_no e2 with h1 | h1 <;> simp only at h <;> omega
      | ok c m =>
        have h2 := highR_ok h1.2 e2
        simp only
        split
        · intro h; simp only at h; omega
        · intro h
          have := GN_close t f m h2.2 (by omega) h
          exact ⟨this.1, Nat.le_trans (by omega) this.2⟩
theorem cut1_closed (c : UInt8) (l : List UInt8) (h : (cut1 c l).2.2 = true) : (cut1 c l).1.length < l.length := by
  rcases cut1_index c l with ⟨_, h1⟩ | ⟨k, _, hk, h1⟩
  · rw [h1] at h; cases h
  · rw [h1]; simp only [List.length_take]; omega
theorem countL_len {l : List UInt8} {x : Nat × Int × Int} (h : countL l = some x) : x.1 < l.length := by
  unfold countL at h
  simp only at h
  split at h
  · cases h
  rename_i h0
  have h1 := cut1_closed 125 l (by simpa using h0)
  split at h
  · cases h
  split at h
  · cases h; exact h1
  split at h
  · cases h; exact h1
  split at h
  · cases h
  · cases h; exact h1
theorem head_len {t : List UInt8} {x : Wd} (h : headW t = some x) : 0 < x.til ∧ x.til ≤ t.length := by
  unfold headW at h
  split at h
  · cases h
  rename_i c hc
  have hl := (List.getElem?_eq_some_iff.1 hc).1
  split at h
  · rename_i hle
    split at h
    · cases h
      refine ⟨?_, takeL_le t⟩
      obtain ⟨r, rfl⟩ : ∃ r, t = c :: r := by
        cases t with
        | nil => simp at hl
        | cons d r => simp at hc; exact ⟨r, by rw [hc]⟩
      simp only [takeL, hle, if_true, List.length_cons]
      omega
    · cases h
  split at h
  · cases hq : countL (t.drop 1) with
    | none => rw [hq] at h; cases h
    | some y =>
      rw [hq] at h; cases h
      have := countL_len hq
      rw [List.length_drop] at this
      simp only
      omega
  split at h
  · split at h
    · rename_i h34 h0
      cases h
      subst h34
      have hp := RN_len [34] 34 t t.length 1 (by omega) (by omega)
      unfold unlitR at h0 ⊢
      simp only [hc] at h0 ⊢
      rw [if_neg (by simp)] at h0 ⊢
      split at h0
      · rename_i hn; exact absurd h0 hn
      rename_i hn
      split at h0
      · cases h0
      rename_i hm
      rw [if_neg hn, if_neg hm]
      have h1 := hp.2 (by simpa using hn)
      have h2 := (List.getElem?_eq_some_iff.1 h1.1).1
      simp only
      omega
    · cases h
  split at h
  · split at h
    · rename_i h91 h0
      cases h
      subst h91
      unfold unclsR at h0 ⊢
      simp only [hc] at h0 ⊢
      rw [if_neg (by simp)] at h0 ⊢
      have hs : (if decide (t[1]? = some 94) = true then 2 else 1) ≤ t.length ∧ t.length < (if decide (t[1]? = some 94) = true then 2 else 1) + t.length := by
        split
        · rename_i h; have := (List.getElem?_eq_some_iff.1 (of_decide_eq_true h)).1; omega
        · omega
      have hp := GN_close t t.length _ hs.1 hs.2
      generalize rangesR t t.length (if decide (t[1]? = some 94) = true then 2 else 1) = r at *
      split at h0
      · rename_i hn; exact absurd h0 hn
      rename_i hn
      rw [if_neg hn]
      have h1 := hp (by simpa using hn)
      have h2 := (List.getElem?_eq_some_iff.1 h1.1).1
      simp only
      omega
    · cases h
  split at h
  · cases h; exact ⟨by decide, hl⟩
  split at h
  · split at h
    · rename_i h1
      cases h
      have := (List.getElem?_eq_some_iff.1 h1).1
      exact ⟨by decide, this⟩
    · cases h; exact ⟨by decide, hl⟩
  · cases hk : signK c with
    | none => rw [hk] at h; cases h
    | some k => rw [hk] at h; cases h; exact ⟨Nat.one_pos, hl⟩
theorem word_til {s : List UInt8} {a : Nat} {x : Wd} (h : wordL s a = some x) : a < x.til ∧ x.til ≤ s.length := by
  unfold wordL at h
  cases hq : headW (s.drop a) with
  | none => rw [hq] at h; cases h
  | some y =>
    rw [hq] at h; cases h
    have := head_len hq
    rw [List.length_drop] at this
    simp only
    omega
end Go.Proofs.YtabncmckojlllaaDoor
