/- Plain laws: a number's text, there and back. -/
import Derived.Test.YtogmkekbdfckpaaDoorPn
namespace Go.Proofs.YtogmkekbdfckpaaDoor
open Go.RowKit

theorem decVal_digits (m : Nat) : decVal (Lib.decDigits m) = m := by
  induction m using Nat.strongRecOn with
  | _ m ih =>
    by_cases h : m < 10
    · rw [Lib.decDigits_one h]
      have : (UInt8.ofNat (48 + m)).toNat = 48 + m := by simp; omega
      simp [decVal]; omega
    · have e : Lib.decDigits m = Lib.decDigits (m / 10) ++ [UInt8.ofNat (48 + m % 10)] := by conv => { lhs; rw [Lib.decDigits, dif_neg h] }
      have : (UInt8.ofNat (48 + m % 10)).toNat = 48 + m % 10 := by simp; omega
      rw [e, decVal_snoc, ih (m / 10) (by omega), this]; omega
theorem itoa_nat (i : Nat) : Lib.itoa (i : Int) = Lib.decDigits i := by simp [Lib.itoa]
theorem snocRec {α : Type} {motive : List α → Prop} (l : List α) (nil : motive []) (snoc : ∀ l x, motive l → motive (l ++ [x])) : motive l := by
  rw [← List.reverse_reverse l]
  induction l.reverse with
  | nil => exact nil
  | cons x r ih => rw [List.reverse_cons]; exact snoc _ _ ih

theorem dd_one (m : Nat) (h : m < 10) : Lib.decDigits m = [UInt8.ofNat (48 + m)] := Lib.decDigits_one h
theorem dd_step (k : Nat) (h : 9 < k) : Lib.decDigits k = Lib.decDigits (k / 10) ++ [UInt8.ofNat (48 + k % 10)] := by
  conv => { lhs; rw [Lib.decDigits, dif_neg (by omega)] }
theorem dig_of (d : Nat) (h : d < 10) : (UInt8.ofNat (48 + d)).toNat = 48 + d := by simp; omega
theorem dd_ne (m : Nat) : Lib.decDigits m ≠ [] := fun h => by
  have := Lib.decDigits_length m; rw [h] at this; have := Lib.nDigits_pos m; simp at *; omega
theorem dd_allDig (m : Nat) : allDig (Lib.decDigits m) = true := by
  induction m using Nat.strongRecOn with
  | _ m ih =>
    by_cases h : m < 10
    · rw [dd_one m h]; simp only [allDig, List.all_cons, List.all_nil, Bool.and_true, dig_of m h]; exact (isDigit_iff _).2 (by omega)
    · rw [dd_step m (by omega), allDig_snoc, ih (m / 10) (by omega), dig_of (m % 10) (by omega), (isDigit_iff _).2 (by omega)]; rfl
theorem dd_head (m : Nat) (h : 0 < m) : (Lib.decDigits m).head? ≠ some 48 := by
  induction m using Nat.strongRecOn with
  | _ m ih =>
    by_cases h9 : m < 10
    · rw [dd_one m h9]; simp only [List.head?_cons, ne_eq, Option.some.injEq]
      intro e; have := congrArg UInt8.toNat e; rw [dig_of m h9] at this
      rw [show (48 : UInt8).toNat = 48 from rfl] at this; omega
    · rw [dd_step m (by omega), List.head?_append]
      have := ih (m / 10) (by omega) (by omega)
      cases hh : (Lib.decDigits (m / 10)).head? with
      | none => exact absurd (List.head?_eq_none_iff.1 hh) (dd_ne _)
      | some c => rw [hh] at this; simpa using this
theorem dd_numText (m : Nat) : numText (Lib.decDigits m) = true := by
  simp only [numText, decide_eq_true_eq]
  refine ⟨dd_ne m, dd_allDig m, ?_⟩
  rintro ⟨h1, h2⟩
  by_cases h : 0 < m
  · exact dd_head m h h1
  · obtain rfl : m = 0 := by omega
    rw [dd_one 0 (by omega)] at h2; simp at h2
/-- What is shown of a number that is not below 0 is read as it was. -/
theorem num_shown (n : Nat) (most : Int) : numL (Lib.itoa (n : Int)) most = if most < (n : Int) then (0, 40) else ((n : Int), 0) := by
  rw [itoa_nat]; simp only [numL, dd_numText, if_true, decVal_digits]
theorem num_minus (n : Int) (h : n < 0) (most : Int) : numL (Lib.itoa n) most = (0, 4) := by
  apply numL_form
  have : Lib.itoa n = 45 :: Lib.decDigits n.natAbs := by simp [Lib.itoa, h]
  rw [this]; simp [numText, allDig, isDigit]
/-- What is read is shown as the text. -/
theorem shown_num (l : List UInt8) (h : numText l = true) : Lib.decDigits (decVal l) = l := by
  induction l using snocRec with
  | nil => simp [numText] at h
  | snoc l c ih =>
    simp only [numText, decide_eq_true_eq] at h
    obtain ⟨_, h2, h3⟩ := h
    rw [allDig_snoc, Bool.and_eq_true] at h2
    have hc := (isDigit_iff _).1 h2.2
    have ec : UInt8.ofNat (48 + (c.toNat - 48)) = c := by
      rw [show 48 + (c.toNat - 48) = c.toNat by omega]; simp
    by_cases hl : l = []
    · subst hl
      rw [decVal_snoc]; simp only [decVal, List.foldl_nil, Nat.mul_zero, Nat.zero_add, List.nil_append]
      rw [dd_one _ (by omega), ec]
    · have hl1 : 0 < l.length := List.length_pos_iff.2 hl
      have hh : (l ++ [c]).head? = l.head? := by rw [List.head?_append]; cases l with | nil => exact absurd rfl hl | cons a r => rfl
      rw [hh, List.length_append, List.length_singleton] at h3
      have hn48 : l.head? ≠ some 48 := fun e => h3 ⟨e, by omega⟩
      have ihl := ih (by simp only [numText, decide_eq_true_eq]; exact ⟨hl, h2.1, fun e => hn48 e.1⟩)
      have hpos : 0 < decVal l := by
        rcases Nat.eq_zero_or_pos (decVal l) with h0 | h0
        · rw [h0, dd_one 0 (by omega)] at ihl
          exact absurd (by rw [← ihl]; rfl) hn48
        · exact h0
      rw [decVal_snoc, dd_step _ (by omega), show (10 * decVal l + (c.toNat - 48)) / 10 = decVal l by omega, show (10 * decVal l + (c.toNat - 48)) % 10 = c.toNat - 48 by omega, ihl, ec]
theorem num_back (l : List UInt8) (most : Int) (h : (numL l most).2 = 0) : Lib.itoa (numL l most).1 = l ∧ 0 ≤ (numL l most).1 ∧ (numL l most).1 ≤ most := by
  unfold numL at h ⊢
  by_cases ht : numText l
  · rw [if_pos ht] at h ⊢
    by_cases hm : most < (decVal l : Int)
    · rw [if_pos hm] at h; simp at h
    · rw [if_neg hm]
      exact ⟨by rw [itoa_nat]; exact shown_num l ht, Int.natCast_nonneg _, by simpa using hm⟩
  · rw [if_neg ht] at h; simp at h
theorem num_code (l : List UInt8) (most : Int) : ((numL l most).2 = 0 ∨ ((numL l most).1 = 0 ∧ ((numL l most).2 = 4 ∨ (numL l most).2 = 40))) := by
  unfold numL; split
  · split
    · right; exact ⟨rfl, .inr rfl⟩
    · left; rfl
  · right; exact ⟨rfl, .inl rfl⟩
end Go.Proofs.YtogmkekbdfckpaaDoor
