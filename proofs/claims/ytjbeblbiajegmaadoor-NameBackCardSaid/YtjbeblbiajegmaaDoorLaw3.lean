/- The walk of the statement NameBack. -/
import Derived.Test.YtjbeblbiajegmaaDoorLaw1
import Derived.Test.YtjbeblbiajegmaaDoorPb
namespace Go.Proofs.YtjbeblbiajegmaaDoor
open Go.RowKit

theorem num_v (s : ByteArray) (most a b : Int) (w : World) (h : numL s.data.toList most = (a, b)) (hl : s.size ≤ 281474976710656) (hm : most ≤ 9223372036854775807) :
    Calls Tryd.prog 13 #[.string s, .int .i64 most] w fun e w' => e = .returned (.tuple #[.int .i64 a, .int .i64 b]) ∧ w = w' := by
  refine (num_any s most w hl hm).mono ?_
  rintro e w' ⟨rfl, rfl⟩
  rw [h]; exact ⟨rfl, rfl⟩

/-- The tests of the statement's first part, on what is read of a shown number. -/
theorem nameBack_first (n most : Int) : ∃ x e : Int, numL (Lib.itoa n) most = (x, e) ∧
    ((n < 0 ∧ e = 4) ∨ (0 ≤ n ∧ most < n ∧ e = 40) ∨ (0 ≤ n ∧ n ≤ most ∧ x = n ∧ e = 0)) := by
  by_cases hn : n < 0
  · exact ⟨0, 4, num_minus n hn most, .inl ⟨hn, rfl⟩⟩
  · obtain ⟨m, rfl⟩ : ∃ m : Nat, n = m := ⟨n.toNat, by omega⟩
    have := num_shown m most
    by_cases hm : most < (m : Int)
    · rw [if_pos hm] at this; exact ⟨0, 40, this, .inr (.inl ⟨by omega, hm, rfl⟩)⟩
    · rw [if_neg hm] at this; exact ⟨m, 0, this, .inr (.inr ⟨by omega, by omega, rfl, rfl⟩)⟩
theorem nameBack_second (s : ByteArray) (most : Int) : ∃ y f : Int, numL s.data.toList most = (y, f) ∧
    ((y = 0 ∧ (f = 4 ∨ f = 40)) ∨ (f = 0 ∧ Lib.itoa y = s.data.toList ∧ 0 ≤ y ∧ y ≤ most)) := by
  refine ⟨_, _, rfl, ?_⟩
  rcases num_code s.data.toList most with h | h
  · exact .inr ⟨h, num_back _ _ h⟩
  · exact .inl h

set_option maxRecDepth 100000 in
set_option maxHeartbeats 2000000 in
theorem nameBack_walk (n most : Int) (s : ByteArray) (w : World) (ht : Tab w) (hg : 1 < w.heap.size) (h0 : -9223372036854775808 ≤ n ∧ n ≤ 9223372036854775807) (h1 : -9223372036854775808 ≤ most ∧ most ≤ 9223372036854775807) (hm : s.size ≤ maxLen) :
    Calls Tryd.prog 4 #[.int .i64 n, .int .i64 most, .string s] w fun e w' => e = .returned (.bool true) ∧ Below w.heap.size w w' := by
  unfold maxLen at hm
  obtain ⟨h0a, h0b⟩ := h0
  obtain ⟨h1a, h1b⟩ := h1
  by_cases hsz : s.size ≤ 5000
  · go_enter Tryd.func4, Tryd.ntmps4
    go_wp2_with fail
    refine (works_any _ ht hg).mono ?_
    rintro e w1 ⟨rfl, hB⟩
    go_wp2_with fail
    refine (show_any n _ h0a h0b (tab_below hB hg ht)).mono ?_
    rintro e w2 ⟨rfl, hB2⟩
    have hB3 : Below w.heap.size w w2 := hB.trans (hB2.mono hB.size)
    clear hB hB2
    obtain ⟨x, e, hxe, hcs⟩ := nameBack_first n most
    go_wp2_with fail
    refine (num_v _ most x e _ (by simpa using hxe) (by have := Lib.itoa_length_le n h0a h0b; simp [ByteArray.size]; omega) h1b).mono ?_
    clear hxe
    rintro e' w' ⟨rfl, rfl⟩
    obtain ⟨y, f, hyf, hcs2⟩ := nameBack_second s most
    have hcs3 : (n < 0 ∧ e = 4 ∧ most < n) ∨ (n < 0 ∧ e = 4 ∧ ¬ most < n) ∨ (0 ≤ n ∧ most < n ∧ e = 40) ∨ (0 ≤ n ∧ n ≤ most ∧ x = n ∧ e = 0) := by
      rcases hcs with h | h | h
      · by_cases hmn : most < n
        · exact .inl ⟨h.1, h.2, hmn⟩
        · exact .inr (.inl ⟨h.1, h.2, hmn⟩)
      · exact .inr (.inr (.inl h))
      · exact .inr (.inr (.inr h))
    clear hcs
    rcases hcs3 with ⟨hn, rfl, hmn⟩ | ⟨hn, rfl, hmn⟩ | ⟨hn, hn2, rfl⟩ | ⟨hn, hn2, rfl, rfl⟩
    all_goals
      go_wp2_with fail
      refine (num_v s most y f _ hyf (by omega) h1b).mono ?_
      rintro e' w' ⟨rfl, rfl⟩
      clear hyf
      rcases hcs2 with ⟨rfl, rfl | rfl⟩ | ⟨rfl, hy, hy0, hy1⟩
      · go_wp2_with fail
        go_ret
        exact ⟨rfl, hB3⟩
      · go_wp2_with fail
        go_ret
        exact ⟨rfl, hB3⟩
      · have HY := Lib.hid hy; clear hy
        go_wp2_with fail
        refine (show_any y _ (by omega) (by omega) (tab_below hB3 hg ht)).mono ?_
        rintro e3 w3 ⟨rfl, hB4⟩
        have hs : (⟨(Lib.itoa y).toArray⟩ : ByteArray) = s := str_ext (by simpa using HY.out)
        rw [hs]
        clear hs
        have hss : (s.toList == s.toList) = true := by simp
        go_wp2_with fail
        go_ret
        exact ⟨rfl, hB3.trans (hB4.mono hB3.size)⟩
  · go_enter Tryd.func4, Tryd.ntmps4
    go_wp2_with fail
    refine (works_any _ ht hg).mono ?_
    rintro e w1 ⟨rfl, hB⟩
    go_wp2_with fail
    refine (works_any _ (tab_below hB hg ht) (Nat.lt_of_lt_of_le hg hB.size)).mono ?_
    rintro e w2 ⟨rfl, hB2⟩
    go_wp2_with fail
    go_ret
    exact ⟨rfl, hB.trans (hB2.mono hB.size)⟩
end Go.Proofs.YtjbeblbiajegmaaDoor
