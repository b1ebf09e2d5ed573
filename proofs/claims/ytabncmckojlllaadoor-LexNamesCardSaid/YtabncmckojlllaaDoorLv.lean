/- Plain laws of words: a text's words, step by step. -/
import Derived.Test.YtabncmckojlllaaDoorLp
import Derived.Test.YtabncmckojlllaaDoorLq
namespace Go.Proofs.YtabncmckojlllaaDoor
set_option linter.unusedSimpArgs false
set_option linter.unusedVariables false

theorem rawL_stable (s : List UInt8) : ∀ f g a, s.length ≤ a + f → s.length ≤ a + g → rawL s f a = rawL s g a
  | 0, 0, _, _, _ => rfl
  | 0, g + 1, a, h, _ => by simp only [rawL]; rw [if_pos (by omega)]
  | f + 1, 0, a, _, h => by simp only [rawL]; rw [if_pos (by omega)]
  | f + 1, g + 1, a, hf, hg => by
    simp only [rawL]
    split
    · rfl
    cases h : wordL s a with
    | none => rfl
    | some x =>
      have h1 := word_til h
      have h2 := next_ge s x.til
      simp only
      rw [rawL_stable s f g (nextL s x.til) (by omega) (by omega)]
/-- The words from a place on, and where none begins. -/
def RW (s : List UInt8) (a : Nat) : List Wd × Option Nat := rawL s (s.length + 1 - a) a
theorem RW_end {s : List UInt8} {a : Nat} (h : s.length ≤ a) : RW s a = ([], none) := by
  unfold RW
  rw [rawL_stable s _ 0 a (by omega) (by omega)]; rfl
theorem RW_none {s : List UInt8} {a : Nat} (h : a < s.length) (hw : wordL s a = none) : RW s a = ([], some a) := by
  unfold RW
  obtain ⟨k, hk⟩ : ∃ k, s.length + 1 - a = k + 1 := ⟨s.length - a, by omega⟩
  rw [hk, rawL, if_neg (by omega), hw]
theorem RW_word {s : List UInt8} {a : Nat} {x : Wd} (h : a < s.length) (hw : wordL s a = some x) : RW s a = (x :: (RW s (nextL s x.til)).1, (RW s (nextL s x.til)).2) := by
  have h1 := word_til hw
  have h2 := next_ge s x.til
  unfold RW
  obtain ⟨k, hk⟩ : ∃ k, s.length + 1 - a = k + 1 := ⟨s.length - a, by omega⟩
  rw [hk, rawL, if_neg (by omega), hw]
  simp only
  rw [rawL_stable s k (s.length + 1 - nextL s x.til) (nextL s x.til) (by omega) (by omega)]
theorem wordsL_big {s : List UInt8} (h : 65536 < s.length) : wordsL s = ([], 65536, 40) := by unfold wordsL; rw [if_pos h]
theorem wordsL_of {s : List UInt8} (h : ¬ 65536 < s.length) : wordsL s = match (RW s (nextL s 0)).2 with
    | some p => ([], p, 4)
    | none => ((RW s (nextL s 0)).1, 0, 0) := by
  unfold wordsL RW
  rw [if_neg h, rawL_stable s (s.length + 1) (s.length + 1 - nextL s 0) (nextL s 0) (by omega) (by omega)]
  rfl
theorem RW_len (s : List UInt8) : ∀ f a, s.length ≤ a + f → (rawL s f a).1.length ≤ s.length - a
  | 0, a, _ => by simp [rawL]
  | f + 1, a, h => by
    simp only [rawL]
    split
    · simp
    cases hw : wordL s a with
    | none => simp
    | some x =>
      have h1 := word_til hw
      have h2 := next_ge s x.til
      have := RW_len s f (nextL s x.til) (by omega)
      simp only [List.length_cons]
      omega
end Go.Proofs.YtabncmckojlllaaDoor
