/- Plain laws of sets of bytes, as four words; no program in sight. -/
import Derived.Test.YtabncmckojlllaaDoorLa
namespace Go.Proofs.YtabncmckojlllaaDoor
set_option linter.unusedSimpArgs false
set_option linter.unusedVariables false

theorem wordB_lt (f : Nat → Bool) (i : Nat) : ∀ n, wordB f i n < 2 ^ n
  | 0 => by simp [wordB]
  | n + 1 => by
    have := wordB_lt f i n
    simp only [wordB, Nat.pow_succ]
    split <;> omega
theorem wordB_bit (f : Nat → Bool) (i : Nat) : ∀ n j, (wordB f i n).testBit j = (decide (j < n) && f (i * 64 + j))
  | 0, j => by simp [wordB]
  | n + 1, j => by
    have h := wordB_lt f i n
    have ih := wordB_bit f i n
    simp only [wordB]
    by_cases hf : f (i * 64 + n)
    · rw [if_pos hf, Nat.add_comm]
      rcases Nat.lt_trichotomy j n with hj | rfl | hj
      · rw [Nat.testBit_two_pow_add_gt hj, ih j]; simp [hj, Nat.lt_succ_of_lt hj]
      · rw [Nat.testBit_two_pow_add_eq, Nat.testBit_lt_two_pow h]; simp [hf]
      · have h1 : 2 ^ n + wordB f i n < 2 ^ j := by
          have : 2 ^ (n + 1) ≤ 2 ^ j := Nat.pow_le_pow_right (by decide) hj
          rw [Nat.pow_succ] at this; omega
        rw [Nat.testBit_lt_two_pow h1]
        have : ¬ j < n + 1 := by omega
        simp [this]
    · rw [if_neg hf, Nat.add_zero, ih j]
      by_cases hj : j = n
      · subst hj; simp [hf]
      · have : (j < n) = (j < n + 1) := by apply propext; omega
        simp [this]
theorem wordF_lt (f : Nat → Bool) (i : Nat) : wordF f i < 18446744073709551616 := wordB_lt f i 64
theorem wordF_bit (f : Nat → Bool) (i j : Nat) : (wordF f i).testBit j = (decide (j < 64) && f (i * 64 + j)) := wordB_bit f i 64 j
theorem wordF_or (f g : Nat → Bool) (i : Nat) : wordF f i ||| wordF g i = wordF (fun k => f k || g k) i := Nat.eq_of_testBit_eq fun j => by
  rw [Nat.testBit_or, wordF_bit, wordF_bit, wordF_bit]
  cases decide (j < 64) <;> simp
theorem wordF_not (f : Nat → Bool) (i : Nat) : 18446744073709551615 ^^^ wordF f i = wordF (fun k => !f k) i := Nat.eq_of_testBit_eq fun j => by
  rw [Nat.testBit_xor, wordF_bit, wordF_bit, show (18446744073709551615 : Nat) = 2 ^ 64 - 1 from rfl, Nat.testBit_two_pow_sub_one]
  cases decide (j < 64) <;> simp
theorem wordF_congr {f g : Nat → Bool} {i : Nat} (h : ∀ j, j < 64 → f (i * 64 + j) = g (i * 64 + j)) : wordF f i = wordF g i := Nat.eq_of_testBit_eq fun j => by
  rw [wordF_bit, wordF_bit]
  by_cases hj : j < 64
  · simp [hj, h j hj]
  · simp [hj]
theorem wordF_one (f : Nat → Bool) (i q : Nat) (hq : q < 64) : wordF f i ||| 2 ^ q = wordF (fun k => f k || decide (k = i * 64 + q)) i := Nat.eq_of_testBit_eq fun j => by
  rw [Nat.testBit_or, wordF_bit, wordF_bit, Nat.testBit_two_pow]
  by_cases hj : j = q
  · subst hj; simp [hq]
  · have : ¬ q = j := fun e => hj e.symm
    simp [hj, this]
theorem wordF_none (i : Nat) : wordF (fun _ => false) i = 0 := Nat.eq_of_testBit_eq fun j => by rw [wordF_bit]; simp
theorem wordF_full (i : Nat) : wordF (fun _ => true) i = 18446744073709551615 := Nat.eq_of_testBit_eq fun j => by
  rw [wordF_bit, show (18446744073709551615 : Nat) = 2 ^ 64 - 1 from rfl, Nat.testBit_two_pow_sub_one]; simp
theorem wordF_inj {f g : Nat → Bool} (h : ∀ i, i < 4 → wordF f i = wordF g i) : ∀ k, k < 256 → f k = g k := fun k hk => by
  have h1 := congrArg (fun x => x.testBit (k % 64)) (h (k / 64) (by omega))
  simp only [wordF_bit] at h1
  rw [show k / 64 * 64 + k % 64 = k by omega] at h1
  have : k % 64 < 64 := by omega
  simpa [this] using h1
/-- What a run of bytes has. -/
def rngF (a b : Nat) : Nat → Bool := fun k => decide (a ≤ k ∧ k ≤ b)
theorem inRanges_snoc (l : List (UInt8 × UInt8)) (a b : UInt8) : inRanges (l ++ [(a, b)]) = fun k => inRanges l k || rngF a.toNat b.toNat k := by
  funext k; simp [inRanges, rngF]
end Go.Proofs.YtabncmckojlllaaDoor
