/- Plain laws of words: what parts words; the words of a part of a text. -/
import Derived.Test.YtabncmckojlllaaDoorLx
namespace Go.Proofs.YtabncmckojlllaaDoor
set_option linter.unusedSimpArgs false
set_option linter.unusedVariables false

theorem skipM_idem : ∀ (b : Bool) (l : List UInt8), skipM false (l.drop (skipM b l)) = 0
  | b, [] => by cases b <;> simp [skipM]
  | true, c :: r => by
    simp only [skipM]
    rw [show 1 + skipM (c != 10) r = skipM (c != 10) r + 1 by omega, List.drop_succ_cons]
    exact skipM_idem _ r
  | false, c :: r => by
    by_cases h : c = 35
    · simp only [skipM, if_pos h]
      rw [show 1 + skipM true r = skipM true r + 1 by omega, List.drop_succ_cons]
      exact skipM_idem _ r
    · by_cases hp : partB c = true
      · simp only [skipM, if_neg h, if_pos hp]
        rw [show 1 + skipM false r = skipM false r + 1 by omega, List.drop_succ_cons]
        exact skipM_idem _ r
      · simp only [skipM, if_neg h, if_neg hp, List.drop_zero]
theorem skipM_take : ∀ (b : Bool) (l : List UInt8) (m : Nat), skipM b (l.take m) = min (skipM b l) m
  | b, [], m => by cases b <;> simp [skipM]
  | b, c :: r, 0 => by cases b <;> simp [skipM]
  | true, c :: r, m + 1 => by
    simp only [List.take_succ_cons, skipM]
    rw [skipM_take _ r m]; omega
  | false, c :: r, m + 1 => by
    simp only [List.take_succ_cons, skipM]
    split
    · rw [skipM_take _ r m]; omega
    split
    · rw [skipM_take _ r m]; omega
    · omega
theorem nextL_idem (s : List UInt8) (k : Nat) : skipM false (s.drop (nextL s k)) = 0 := by
  unfold nextL
  have := skipM_idem false (s.drop k)
  rwa [List.drop_drop] at this
theorem next_next (s : List UInt8) (k : Nat) : nextL s (nextL s k) = nextL s k := by
  have := nextL_idem s k
  conv => lhs; unfold nextL
  rw [show k + skipM false (s.drop k) = nextL s k from rfl, this]; rfl
theorem next_take {s : List UInt8} {p k : Nat} (hk : k ≤ p) (h : nextL s k ≤ p) : nextL (s.take p) k = nextL s k := by
  unfold nextL at h ⊢
  rw [List.drop_take, skipM_take]; omega
theorem head_stop {t : List UInt8} {x : Wd} (h : headW t = some x) : skipM false t = 0 := by
  cases t with
  | nil => rfl
  | cons c r =>
    by_cases h35 : c = 35
    · subst h35
      exfalso
      have : headW (35 :: r) = none := by
        unfold headW
        simp only [List.getElem?_cons_zero]
        rw [if_neg (by decide), if_neg (by decide), if_neg (by decide), if_neg (by decide), if_neg (by decide), if_neg (by decide), show signK 35 = none by decide]; rfl
      rw [this] at h; cases h
    · by_cases hp : partB c = true
      · exfalso
        have hc : c = 32 ∨ c = 9 ∨ c = 13 ∨ c = 10 := by unfold partB at hp; simpa [or_assoc] using hp
        have : headW (c :: r) = none := by
          unfold headW
          simp only [List.getElem?_cons_zero]
          rcases hc with rfl | rfl | rfl | rfl <;> (rw [if_neg (by decide), if_neg (by decide), if_neg (by decide), if_neg (by decide), if_neg (by decide), if_neg (by decide)]; decide)
        rw [this] at h; cases h
      · simp [skipM, h35, hp]
theorem signK_ne {c : UInt8} {k : Nat} (h : signK c = some k) : k ≠ 1 ∧ k ≠ 11 := by
  unfold signK at h
  split at h
  · cases h; decide
  split at h
  · cases h; decide
  split at h
  · cases h; decide
  split at h
  · cases h; decide
  split at h
  · cases h; decide
  split at h
  · cases h; decide
  split at h
  · cases h; decide
  split at h
  · cases h; decide
  split at h
  · cases h; decide
  split at h
  · cases h; decide
  · cases h
theorem head_sign {t : List UInt8} {x : Wd} (h : headW t = some x) (hk : x.kind = 11) : x.til = 1 ∧ t[1]? ≠ some 45 := by
  unfold headW at h
  split at h
  · cases h
  split at h
  · split at h
    · cases h; cases hk
    · cases h
  split at h
  · cases hq : countL (t.drop 1) with
    | none => rw [hq] at h; cases h
    | some y => rw [hq] at h; cases h; cases hk
  split at h
  · split at h
    · cases h; cases hk
    · cases h
  split at h
  · split at h
    · cases h; cases hk
    · cases h
  split at h
  · cases h; cases hk
  split at h
  · split at h
    · cases h; cases hk
    · rename_i h1; cases h; exact ⟨rfl, h1⟩
  · rename_i c _ _ _ _ _ _ h60
    cases hq : signK c with
    | none => rw [hq] at h; cases h
    | some k =>
      rw [hq] at h; cases h
      exfalso
      exact (signK_ne hq).2 hk
theorem takeWhile_next (p : UInt8 → Bool) : ∀ (r : List UInt8) (c : UInt8), r[(r.takeWhile p).length]? = some c → p c = false
  | [], c, h => by simp at h
  | b :: r, c, h => by
    by_cases hb : p b = true
    · rw [List.takeWhile_cons, if_pos hb] at h
      exact takeWhile_next p r c (by simpa using h)
    · rw [List.takeWhile_cons, if_neg hb] at h
      simp at h; subst h; simpa using hb
theorem head_name {t : List UInt8} {x : Wd} (h : headW t = some x) (hk : x.kind = 1) (c : UInt8) (hc : t[x.til]? = some c) : alnum c = false := by
  unfold headW at h
  split at h
  · cases h
  rename_i d hd
  split at h
  · rename_i hle
    split at h
    · cases h
      obtain ⟨r, rfl⟩ : ∃ r, t = d :: r := by
        cases t with
        | nil => simp at hd
        | cons b r => simp at hd; exact ⟨r, by rw [hd]⟩
      simp only [takeL, hle, if_true, List.length_cons] at hc
      exact takeWhile_next alnum r c (by simpa using hc)
    · cases h
  split at h
  · cases hq : countL (t.drop 1) with
    | none => rw [hq] at h; cases h
    | some y => rw [hq] at h; cases h; cases hk
  split at h
  · split at h
    · cases h; cases hk
    · cases h
  split at h
  · split at h
    · cases h; cases hk
    · cases h
  split at h
  · cases h; cases hk
  split at h
  · split at h
    · cases h; cases hk
    · cases h; cases hk
  · cases hq : signK d with
    | none => rw [hq] at h; cases h
    | some k =>
      rw [hq] at h; cases h
      exfalso
      exact (signK_ne hq).1 hk
theorem head_take {t : List UInt8} {x : Wd} {m : Nat} (h : headW t = some x) (hm : x.til ≤ m) : headW (t.take m) = some x := by
  refine head_ag h ((Ag.take m t).mono hm) ⟨fun hk c hc => ?_, fun hk hc => ?_⟩
  · rcases Nat.lt_or_ge x.til m with h1 | h1
    · rw [List.getElem?_take_of_lt h1] at hc
      exact head_name h hk c hc
    · rw [List.getElem?_eq_none (by rw [List.length_take]; omega)] at hc; cases hc
  · have := head_sign h hk
    rcases Nat.lt_or_ge 1 m with h1 | h1
    · rw [List.getElem?_take_of_lt h1] at hc
      exact this.2 hc
    · rw [List.getElem?_eq_none (by rw [List.length_take]; omega)] at hc; cases hc
theorem word_take {s : List UInt8} {a m : Nat} {x : Wd} (h : wordL s a = some x) (hm : x.til ≤ m) : wordL (s.take m) a = some x := by
  unfold wordL at h ⊢
  cases hq : headW (s.drop a) with
  | none => rw [hq] at h; cases h
  | some y =>
    rw [hq] at h; cases h
    simp only at hm
    rw [List.drop_take, head_take hq (by omega)]; rfl
/-- The text ahead of where no word begins has words alone. -/
theorem RW_ahead (s : List UInt8) (p : Nat) : ∀ f k, s.length ≤ k + f → (rawL s f (nextL s k)).2 = some p → nextL s k ≤ p ∧ p < s.length ∧ (RW (s.take p) (nextL (s.take p) k)).2 = none ∧ wordL s p = none ∧ ∃ j, p = nextL s j
  | 0, k, _, h => by simp [rawL] at h
  | f + 1, k, hf, h => by
    simp only [rawL] at h
    split at h
    · cases h
    rename_i hlt
    cases hw : wordL s (nextL s k) with
    | none =>
      rw [hw] at h
      simp only [Option.some.injEq] at h
      subst h
      have hk := next_ge s k
      refine ⟨Nat.le_refl _, by omega, ?_, hw, k, rfl⟩
      rw [next_take hk (Nat.le_refl _), RW_end (by rw [List.length_take]; omega)]
    | some x =>
      rw [hw] at h
      simp only at h
      have h1 := word_til hw
      have h2 := next_ge s k
      have h3 := next_ge s x.til
      have ih := RW_ahead s p f x.til (by omega) h
      refine ⟨by omega, ih.2.1, ?_, ih.2.2.2⟩
      rw [next_take (by omega) (by omega), RW_word (by rw [List.length_take]; omega) (word_take hw (by omega))]
      exact ih.2.2.1
/-- Words that stand one behind the other, from a place on. -/
def Stand (s : List UInt8) : Nat → List Wd → Prop
  | k, [] => s.length ≤ nextL s k
  | k, x :: l => nextL s k < s.length ∧ wordL s (nextL s k) = some x ∧ Stand s x.til l
theorem stand_of (s : List UInt8) : ∀ f k ls, s.length ≤ k + f → rawL s f (nextL s k) = (ls, none) → Stand s k ls
  | 0, k, ls, hf, h => by
    simp only [rawL] at h
    cases h
    have := next_ge s k
    simp only [Stand]; omega
  | f + 1, k, ls, hf, h => by
    simp only [rawL] at h
    split at h
    · rename_i hle; cases h; exact hle
    rename_i hlt
    cases hw : wordL s (nextL s k) with
    | none => rw [hw] at h; cases h
    | some x =>
      rw [hw] at h
      simp only at h
      have h1 := word_til hw
      have h2 := next_ge s k
      injection h with e1 e2
      subst e1
      exact ⟨by omega, hw, stand_of s f x.til _ (by omega) (Prod.ext rfl e2)⟩
theorem words_gap {s : List UInt8} (h : nextL s 0 = s.length) (hs : ¬ 65536 < s.length) : wordsL s = ([], 0, 0) := by
  rw [wordsL_of hs, h, RW_end (Nat.le_refl _)]
theorem words_one {t : List UInt8} {y : Wd} (h : headW t = some y) (ht : y.til = t.length) (hs : ¬ 65536 < t.length) : wordsL t = ([{ y with frm := 0, til := 0 + y.til }], 0, 0) := by
  have h0 : nextL t 0 = 0 := by unfold nextL; rw [List.drop_zero, head_stop h]
  have hl := head_len h
  have hw : wordL t 0 = some { y with frm := 0, til := 0 + y.til } := by unfold wordL; rw [List.drop_zero, h]; rfl
  have h1 := next_ge t (0 + y.til)
  rw [wordsL_of hs, h0, RW_word (by omega) hw]
  simp only
  rw [RW_end (by omega)]
theorem words_wrong {t : List UInt8} (h0 : 0 < t.length) (hh : headW t = none) (hk : skipM false t = 0) (hs : ¬ 65536 < t.length) : wordsL t = ([], 0, 4) := by
  have h1 : nextL t 0 = 0 := by unfold nextL; rw [List.drop_zero, hk]
  rw [wordsL_of hs, h1, RW_none h0 (by unfold wordL; rw [List.drop_zero, hh]; rfl)]
end Go.Proofs.YtabncmckojlllaaDoor
