/- The walks of the statements NameRow, NameTaken, NameBack. -/
import Derived.Test.YtjbeblbiajegmaaDoorFree3
namespace Go.Proofs.YtjbeblbiajegmaaDoor
open Go.RowKit

theorem tab_lt {w : World} (h : Tab w) : 1 < w.heap.size := by
  have := World.var?_cell (P := Tryd.prog) (g := 1) (by kernel_rfl) h 0
  exact cell_lt (w := w) (a := ⟨1, 0, none⟩) (v := .int .u64 1) (by simpa [Lib.pow10Tab] using this)

theorem cmpB_range : ∀ (a b : List UInt8), -1 ≤ Lib.compareBytes a b ∧ Lib.compareBytes a b ≤ 1
  | [], [] => by simp [Lib.compareBytes]
  | [], _ :: _ => by simp [Lib.compareBytes]
  | _ :: _, [] => by simp [Lib.compareBytes]
  | a :: xs, b :: ys => by
    have := cmpB_range xs ys
    unfold Lib.compareBytes; split
    · omega
    · split <;> omega
theorem cmpB_swap : ∀ (a b : List UInt8), Lib.compareBytes b a = - Lib.compareBytes a b
  | [], [] => by simp [Lib.compareBytes]
  | [], _ :: _ => by simp [Lib.compareBytes]
  | _ :: _, [] => by simp [Lib.compareBytes]
  | a :: xs, b :: ys => by
    have := cmpB_swap xs ys
    unfold Lib.compareBytes
    by_cases h1 : a < b
    · have h2 : ¬ b < a := fun h => by rw [UInt8.lt_iff_toNat_lt] at *; omega
      simp [h1, h2]
    · by_cases h2 : b < a
      · simp [h1, h2]
      · simp [h1, h2, this]
theorem cmpB_zero : ∀ (a b : List UInt8), Lib.compareBytes a b = 0 ↔ a = b
  | [], [] => by simp [Lib.compareBytes]
  | [], _ :: _ => by simp [Lib.compareBytes]
  | _ :: _, [] => by simp [Lib.compareBytes]
  | a :: xs, b :: ys => by
    have := cmpB_zero xs ys
    unfold Lib.compareBytes
    by_cases h1 : a < b
    · have : a ≠ b := fun h => by subst h; rw [UInt8.lt_iff_toNat_lt] at h1; omega
      simp [h1, this]
    · by_cases h2 : b < a
      · have : a ≠ b := fun h => by subst h; rw [UInt8.lt_iff_toNat_lt] at h2; omega
        simp [h1, h2, this]
      · have : a = b := by rw [UInt8.lt_iff_toNat_lt] at *; exact UInt8.toNat_inj.1 (by omega)
        simp [this, cmpB_zero xs ys]
theorem cmpB_trans : ∀ (a b c : List UInt8), Lib.compareBytes a b ≤ 0 → Lib.compareBytes b c ≤ 0 → Lib.compareBytes a c ≤ 0
  | [], _, [] => by simp [Lib.compareBytes]
  | [], _, _ :: _ => by simp [Lib.compareBytes]
  | _ :: _, [], _ => by simp [Lib.compareBytes]
  | _ :: _, _ :: _, [] => by simp [Lib.compareBytes]
  | a :: xs, b :: ys, c :: zs => by
    have ih := cmpB_trans xs ys zs
    unfold Lib.compareBytes
    simp only [UInt8.lt_iff_toNat_lt]
    by_cases h1 : a.toNat < b.toNat <;> by_cases h2 : b.toNat < c.toNat <;> by_cases h3 : b.toNat < a.toNat <;> by_cases h4 : c.toNat < b.toNat <;> by_cases h5 : a.toNat < c.toNat <;> by_cases h6 : c.toNat < a.toNat <;> simp only [h1, h2, h3, h4, h5, h6, if_true, if_false] <;> first | omega | (intro h h'; first | omega | exact ih h h')

theorem nameRow_eq (a b : ByteArray) : ((Lib.compareBytes a.data.toList b.data.toList == 0)) = (a.toList == b.toList) := by
  rw [Bool.eq_iff_iff, beq_iff_eq, beq_iff_eq, cmpB_zero, Lib.toList_data, Lib.toList_data]

set_option maxRecDepth 100000 in
set_option maxHeartbeats 1000000 in
theorem nameRow_walk (a b c : ByteArray) (w : World) (ht : Tab w) (hg : 1 < w.heap.size) :
    Calls Tryd.prog 9 #[.string a, .string b, .string c] w fun e w' => e = .returned (.bool true) ∧ Below w.heap.size w w' := by
  by_cases hsz : a.size ≤ 3000 ∧ b.size ≤ 3000 ∧ c.size ≤ 3000
  · obtain ⟨h1, h2, h3⟩ := hsz
    have r1 := cmpB_range a.data.toList b.data.toList
    have hs := Lib.hid (cmpB_swap a.data.toList b.data.toList)
    have hz := Lib.hid (cmpB_zero a.data.toList b.data.toList)
    have htr := Lib.hid (cmpB_trans a.data.toList b.data.toList c.data.toList)
    go_enter Tryd.func9, Tryd.ntmps9
    go_wp2_with fail
    refine (works_any _ ht hg).mono ?_
    rintro e w1 ⟨rfl, hB⟩
    go_wp2_with fail
    refine (compare_any _ _ _).mono ?_
    rintro e w' ⟨rfl, rfl⟩
    go_wp2_with fail
    refine (compare_any _ _ _).mono ?_
    rintro e w' ⟨rfl, rfl⟩
    go_wp2_with fail
    refine (compare_any _ _ _).mono ?_
    rintro e w' ⟨rfl, rfl⟩
    have hz2 := nameRow_eq a b
    generalize Lib.compareBytes a.data.toList b.data.toList = x at *
    generalize Lib.compareBytes b.data.toList c.data.toList = y at *
    generalize Lib.compareBytes a.data.toList c.data.toList = z at *
    obtain ⟨r1, r2⟩ := r1
    clear hz
    have hc : (0 < x) ∨ (¬ 0 < x ∧ 0 < y) ∨ (¬ 0 < x ∧ ¬ 0 < y ∧ z ≤ 0) := by
      by_cases h0 : 0 < x
      · exact .inl h0
      · by_cases h1 : 0 < y
        · exact .inr (.inl ⟨h0, h1⟩)
        · exact .inr (.inr ⟨h0, h1, htr.out (by omega) (by omega)⟩)
    rcases hc with hc1 | ⟨hc1, hc2⟩ | ⟨hc1, hc2, hc3⟩
    all_goals
      go_wp2_with fail
      refine (compare_any _ _ _).mono ?_
      rintro e w' ⟨rfl, rfl⟩
      rw [hs.out]
      go_wp2_with fail
      go_ret
      exact ⟨rfl, hB⟩
  · have hsz2 : (3000 < a.size) ∨ (¬ 3000 < a.size ∧ 3000 < b.size) ∨ (¬ 3000 < a.size ∧ ¬ 3000 < b.size ∧ 3000 < c.size) := by omega
    clear hsz
    rcases hsz2 with h1 | ⟨h1, h2⟩ | ⟨h1, h2, h3⟩
    all_goals
      go_enter Tryd.func9, Tryd.ntmps9
      go_wp2_with fail
      refine (works_any _ ht hg).mono ?_
      rintro e w1 ⟨rfl, hB⟩
      go_wp2_with fail
      refine (works_any _ (tab_below hB hg ht) (Nat.lt_of_lt_of_le hg hB.size)).mono ?_
      rintro e w2 ⟨rfl, hB2⟩
      go_wp2_with fail
      go_ret
      exact ⟨rfl, hB.trans (hB2.mono hB.size)⟩
end Go.Proofs.YtjbeblbiajegmaaDoor
