/- Plain laws for LexStand: gaps, single words, the text ahead of what is wrong and behind it. -/
import Derived.Test.YtidcoldoalimfaaKa
namespace Go.Proofs.Ytidcoldoalimfaa
set_option linter.unusedSimpArgs false
set_option linter.unusedVariables false

theorem words_stand {s : List UInt8} {ls : List Wd} {a : Nat} (hs : ¬ 65536 < s.length) (h : wordsL s = (ls, a, 0)) : a = 0 ∧ Stand s 0 ls := by
  rw [wordsL_of hs] at h
  cases hp : (RW s (nextL s 0)).2 with
  | some p => rw [hp] at h; cases h
  | none =>
    rw [hp] at h
    injection h with h1 h2
    injection h2 with h2 h3
    refine ⟨h2.symm, stand_of s (s.length + 1) 0 ls (by omega) ?_⟩
    have e : RW s (nextL s 0) = (ls, none) := Prod.ext h1 hp
    unfold RW at e
    rw [rawL_stable s (s.length + 1) (s.length + 1 - nextL s 0) (nextL s 0) (by omega) (by omega)]
    exact e
/-- What parts words alone. -/
theorem gap_of {s : List UInt8} {k m : Nat} (hs : ¬ 65536 < s.length) (hk : k ≤ m) (hm : m ≤ nextL s k) (hl : m ≤ s.length) : wordsL ((s.drop k).take (m - k)) = ([], 0, 0) := by
  refine words_gap ?_ (by rw [List.length_take, List.length_drop]; omega)
  have h : skipM false ((s.drop k).take (m - k)) = min (skipM false (s.drop k)) (m - k) := skipM_take _ _ _
  unfold nextL at hm ⊢
  rw [List.drop_zero, h, List.length_take, List.length_drop]
  omega
theorem end_of {s : List UInt8} {k : Nat} (hs : ¬ 65536 < s.length) (hk : k ≤ s.length) (h : s.length ≤ nextL s k) : wordsL (s.drop k) = ([], 0, 0) := by
  refine words_gap ?_ (by rw [List.length_drop]; omega)
  have h1 := skipM_le false (s.drop k)
  unfold nextL at h ⊢
  rw [List.length_drop] at h1 ⊢
  rw [List.drop_zero]
  omega
/-- A word's own bytes are that word. -/
theorem one_of {s : List UInt8} {a : Nat} {x : Wd} (hs : ¬ 65536 < s.length) (h : wordL s a = some x) : x.frm = a ∧ wordsL ((s.drop a).take (x.til - a)) = ([{ x with frm := 0, til := x.til - a }], 0, 0) := by
  have ht := word_til h
  unfold wordL at h
  cases hq : headW (s.drop a) with
  | none => rw [hq] at h; cases h
  | some y =>
    rw [hq] at h
    cases h
    simp only at ht ⊢
    have hl := head_len hq
    rw [List.length_drop] at hl
    have e : a + y.til - a = y.til := by omega
    rw [e]
    have := words_one (t := (s.drop a).take y.til) (head_take hq (Nat.le_refl _)) (by rw [List.length_take, List.length_drop]; omega) (by rw [List.length_take, List.length_drop]; omega)
    rw [this, Nat.zero_add]
    exact ⟨trivial, rfl⟩
/-- Where something is wrong: the text ahead has words alone, the text behind is wrong at its beginning. -/
theorem wrong_of {s : List UInt8} {ls : List Wd} {p e : Nat} (hs : ¬ 65536 < s.length) (h : wordsL s = (ls, p, e)) (he : e ≠ 0) : ls = [] ∧ e = 4 ∧ p < s.length ∧ (wordsL (s.take p)).2.2 = 0 ∧ wordsL (s.drop p) = ([], 0, 4) := by
  rw [wordsL_of hs] at h
  cases hp : (RW s (nextL s 0)).2 with
  | none =>
    rw [hp] at h
    injection h with h1 h2
    injection h2 with h2 h3
    exact absurd h3.symm he
  | some q =>
    rw [hp] at h
    injection h with h1 h2
    injection h2 with h2 h3
    subst h2
    have hr : (rawL s (s.length + 1) (nextL s 0)).2 = some q := by
      have e := hp
      unfold RW at e
      rw [rawL_stable s (s.length + 1) (s.length + 1 - nextL s 0) (nextL s 0) (by omega) (by omega)]
      exact e
    obtain ⟨a1, a2, a3, a4, j, a5⟩ := RW_ahead s q (s.length + 1) 0 (by omega) hr
    refine ⟨h1.symm, h3.symm, a2, ?_, ?_⟩
    · rw [wordsL_of (by rw [List.length_take]; omega), a3]
    · refine words_wrong (by rw [List.length_drop]; omega) ?_ (by rw [a5]; exact nextL_idem s j) (by rw [List.length_drop]; omega)
      unfold wordL at a4
      cases hq : headW (s.drop q) with
      | none => rfl
      | some y => rw [hq] at a4; cases a4
end Go.Proofs.Ytidcoldoalimfaa
