/- The contracts of bonsairef08's wraps and Count. -/
import Derived.Test.YtdcgbcdmkhleoaaDoorUg
import Derived.Lib.ItoaLen
namespace Go.Proofs.YtdcgbcdmkhleoaaDoor
open Go.RowKit
set_option linter.unusedSimpArgs false
set_option linter.unusedVariables false

set_option maxHeartbeats 6400000 in
theorem rwraps_any (k d : Int) (hk : 0 ≤ k ∧ k ≤ 9) (hd : 0 ≤ d ∧ d ≤ 9) (w : World) :
    Calls Tryd.prog 81 #[.int .u8 k, .int .u8 d] w fun e w' => w = w' ∧ e = .returned (.bool (wrapsK k d)) := by
  go_enter Tryd.func81, Tryd.ntmps81
  have hk' : k = 0 ∨ k = 1 ∨ k = 2 ∨ k = 3 ∨ k = 9 ∨ k = 4 ∨ k = 5 ∨ k = 6 ∨ k = 7 ∨ k = 8 := by omega
  have hd' : d = 0 ∨ d = 1 ∨ d = 2 ∨ d = 3 ∨ d = 9 ∨ d = 4 ∨ d = 5 ∨ d = 6 ∨ d = 7 ∨ d = 8 := by omega
  clear hk hd
  rcases hk' with rfl | rfl | rfl | rfl | rfl | rfl | rfl | rfl | rfl | rfl
  all_goals
    rcases hd' with rfl | rfl | rfl | rfl | rfl | rfl | rfl | rfl | rfl | rfl
    all_goals
      go_wp2
      go_ret
      exact ⟨rfl, rfl⟩
theorem rshow_b (n : Int) (w : World) (h0 : 0 ≤ n) (h1 : n ≤ 99) :
    Calls Tryd.prog 59 #[.int .i64 n] w fun e w' => e = .returned (.string ⟨(numB n).toArray⟩) ∧ Below w.heap.size w w' := by
  refine (rshow_any n w (by omega) (by omega)).mono ?_
  rintro e w' ⟨t, rfl, ht, hb⟩
  refine ⟨?_, hb⟩
  rw [show t = (⟨(numB n).toArray⟩ : ByteArray) from ByteArray.ext (by rw [show (⟨(numB n).toArray⟩ : ByteArray).data = (numB n).toArray from rfl]; unfold numB; rw [← ht])]
set_option maxRecDepth 100000 in
set_option maxHeartbeats 6400000 in
theorem rcount_any (lo hi : Int) (w : World) :
    Calls Tryd.prog 14 #[.int .i64 lo, .int .i64 hi] w (TextPost (countB lo hi) w) := by
  unfold TextPost
  by_cases hP : 0 ≤ lo ∧ lo ≤ 99 ∧ (hi = -1 ∨ (lo ≤ hi ∧ hi ≤ 99))
  · obtain ⟨h1, h2, h3⟩ := hP
    have d1 : ¬ lo < 0 := by omega
    have d2 : ¬ 99 < lo := by omega
    by_cases hm : hi = -1
    · subst hm
      by_cases hl0 : lo = 0
      · subst hl0
        have HC := Lib.hid (show countB 0 (-1) = [42] from by decide)
        generalize countB 0 (-1) = C at *
        go_enter Tryd.func14, Tryd.ntmps14
        go_wp2_with fail
        go_ret
        exact ⟨by rw [HC.out]; try rfl, Below.refl _ _⟩
      by_cases hl1 : lo = 1
      · subst hl1
        have HC := Lib.hid (show countB 1 (-1) = [43] from by decide)
        generalize countB 1 (-1) = C at *
        go_enter Tryd.func14, Tryd.ntmps14
        go_wp2_with fail
        go_ret
        exact ⟨by rw [HC.out]; try rfl, Below.refl _ _⟩
      · have HC := Lib.hid (show countB lo (-1) = [123] ++ numB lo ++ [44, 125] from by
          unfold countB; rw [if_neg (by omega), if_neg (by omega), if_neg (by omega), if_neg (by omega), if_neg (by omega), if_pos rfl])
        have HS := Lib.hid (fun w => rshow_b lo w h1 h2)
        have hn : (⟨(numB lo).toArray⟩ : ByteArray).size ≤ 21 := Lib.itoa_length_le lo (by omega) (by omega)
        have HE := Lib.hid (show (⟨#[123]⟩ ++ (⟨(numB lo).toArray⟩ : ByteArray) ++ ⟨#[44, 125]⟩ : ByteArray) = ⟨(countB lo (-1)).toArray⟩ from by
          rw [HC.out]; exact ByteArray.ext (by simp))
        generalize (⟨(numB lo).toArray⟩ : ByteArray) = s at *
        generalize countB lo (-1) = C at *
        have e0 : (lo == 0) = false := beq_eq_false_iff_ne.2 hl0
        have e1 : (lo == 1) = false := beq_eq_false_iff_ne.2 hl1
        have e2 : (lo == -1) = false := beq_eq_false_iff_ne.2 (by omega)
        have hb1 : ¬ 9223372036854775807 < 1 + s.size := by omega
        have hb2 : ¬ 9223372036854775807 < 1 + s.size + 2 := by omega
        clear hl0 hl1 h1 h2 h3
        go_enter Tryd.func14, Tryd.ntmps14
        go_wp2_with (first | (go_at_call 59; refine (HS.out _).mono ?_; rintro e w5 ⟨rfl, hb5⟩; have HB5 := Lib.hid hb5; clear hb5))
        go_ret
        exact ⟨by rw [← HE.out]; try rfl, HB5.out⟩
    · have e3 : (hi == -1) = false := beq_eq_false_iff_ne.2 hm
      have d3 : ¬ hi < lo := by omega
      have d4 : ¬ 99 < hi := by omega
      by_cases h01 : lo = 0 ∧ hi = 1
      · obtain ⟨rfl, rfl⟩ := h01
        have HC := Lib.hid (show countB 0 1 = [63] from by decide)
        generalize countB 0 1 = C at *
        go_enter Tryd.func14, Tryd.ntmps14
        go_wp2_with fail
        go_ret
        exact ⟨by rw [HC.out]; try rfl, Below.refl _ _⟩
      · have HS := Lib.hid (fun w => rshow_b lo w h1 h2)
        have hn : (⟨(numB lo).toArray⟩ : ByteArray).size ≤ 21 := Lib.itoa_length_le lo (by omega) (by omega)
        by_cases he : hi = lo
        · have HC := Lib.hid (show countB lo hi = [123] ++ numB lo ++ [125] from by
            unfold countB; rw [if_neg (by omega), if_neg (by omega), if_neg (by omega), if_neg (by omega), if_pos he])
          have HE := Lib.hid (show (⟨#[123]⟩ ++ (⟨(numB lo).toArray⟩ : ByteArray) ++ ⟨#[125]⟩ : ByteArray) = ⟨(countB lo hi).toArray⟩ from by
            rw [HC.out]; exact ByteArray.ext (by simp))
          generalize (⟨(numB lo).toArray⟩ : ByteArray) = s at *
          generalize countB lo hi = C at *
          have e4 : (lo == hi) = true := by rw [he]; simp
          have hb1 : ¬ 9223372036854775807 < 1 + s.size := by omega
          have hb2 : ¬ 9223372036854775807 < 1 + s.size + 1 := by omega
          have hne : ¬ (lo = 0 ∧ hi = 1) := h01
          clear h1 h2 h3 he
          by_cases hl0 : lo = 0
          · have e0 : (lo == 0) = true := by rw [hl0]; rfl
            have e5 : (hi == 1) = false := beq_eq_false_iff_ne.2 (fun h => h01 ⟨hl0, h⟩)
            have e1 : (lo == 1) = false := beq_eq_false_iff_ne.2 (by omega)
            clear h01 hne hl0 hm
            go_enter Tryd.func14, Tryd.ntmps14
            go_wp2_with (first | (go_at_call 59; refine (HS.out _).mono ?_; rintro e w5 ⟨rfl, hb5⟩; have HB5 := Lib.hid hb5; clear hb5))
            go_ret
            exact ⟨by rw [← HE.out]; try rfl, HB5.out⟩
          · have e0 : (lo == 0) = false := beq_eq_false_iff_ne.2 hl0
            clear h01 hne hl0 hm
            by_cases hl1 : lo = 1
            · have e1 : (lo == 1) = true := by rw [hl1]; rfl
              clear hl1
              go_enter Tryd.func14, Tryd.ntmps14
              go_wp2_with (first | (go_at_call 59; refine (HS.out _).mono ?_; rintro e w5 ⟨rfl, hb5⟩; have HB5 := Lib.hid hb5; clear hb5))
              go_ret
              exact ⟨by rw [← HE.out]; try rfl, HB5.out⟩
            · have e1 : (lo == 1) = false := beq_eq_false_iff_ne.2 hl1
              clear hl1
              go_enter Tryd.func14, Tryd.ntmps14
              go_wp2_with (first | (go_at_call 59; refine (HS.out _).mono ?_; rintro e w5 ⟨rfl, hb5⟩; have HB5 := Lib.hid hb5; clear hb5))
              go_ret
              exact ⟨by rw [← HE.out]; try rfl, HB5.out⟩
        · have HC := Lib.hid (show countB lo hi = [123] ++ numB lo ++ [44] ++ numB hi ++ [125] from by
            unfold countB; rw [if_neg (by omega), if_neg (by omega), if_neg (by omega), if_neg (by omega), if_neg he, if_neg hm])
          have HT := Lib.hid (fun w => rshow_b hi w (by omega) (by omega))
          have hn2 : (⟨(numB hi).toArray⟩ : ByteArray).size ≤ 21 := Lib.itoa_length_le hi (by omega) (by omega)
          have HE := Lib.hid (show (⟨#[123]⟩ ++ (⟨(numB lo).toArray⟩ : ByteArray) ++ ⟨#[44]⟩ ++ (⟨(numB hi).toArray⟩ : ByteArray) ++ ⟨#[125]⟩ : ByteArray) = ⟨(countB lo hi).toArray⟩ from by
            rw [HC.out]; exact ByteArray.ext (by simp))
          generalize (⟨(numB lo).toArray⟩ : ByteArray) = s at *
          generalize (⟨(numB hi).toArray⟩ : ByteArray) = s2 at *
          generalize countB lo hi = C at *
          have e4 : (lo == hi) = false := beq_eq_false_iff_ne.2 (fun h => he h.symm)
          have hb1 : ¬ 9223372036854775807 < 1 + s.size := by omega
          have hb2 : ¬ 9223372036854775807 < 1 + s.size + 1 := by omega
          have hb3 : ¬ 9223372036854775807 < 1 + s.size + 1 + s2.size := by omega
          have hb4 : ¬ 9223372036854775807 < 1 + s.size + 1 + s2.size + 1 := by omega
          clear h1 h2 h3 he
          by_cases hl0 : lo = 0
          · have e0 : (lo == 0) = true := by rw [hl0]; rfl
            have e5 : (hi == 1) = false := beq_eq_false_iff_ne.2 (fun h => h01 ⟨hl0, h⟩)
            have e1 : (lo == 1) = false := beq_eq_false_iff_ne.2 (by omega)
            clear h01 hl0 hm
            go_enter Tryd.func14, Tryd.ntmps14
            go_wp2_with (first | (go_at_call 59; (with_reducible refine (HS.out _).mono ?_); rintro e w5 ⟨rfl, hb5⟩; have HB5 := Lib.hid hb5; clear hb5) | (go_at_call 59; (with_reducible refine (HT.out _).mono ?_); rintro e w6 ⟨rfl, hb6⟩; have HB6 := Lib.hid (HB5.out.trans (hb6.mono HB5.out.size)); clear hb6))
            go_ret
            exact ⟨by rw [← HE.out]; try rfl, HB6.out⟩
          · have e0 : (lo == 0) = false := beq_eq_false_iff_ne.2 hl0
            clear h01 hl0 hm
            by_cases hl1 : lo = 1
            · have e1 : (lo == 1) = true := by rw [hl1]; rfl
              clear hl1
              go_enter Tryd.func14, Tryd.ntmps14
              go_wp2_with (first | (go_at_call 59; (with_reducible refine (HS.out _).mono ?_); rintro e w5 ⟨rfl, hb5⟩; have HB5 := Lib.hid hb5; clear hb5) | (go_at_call 59; (with_reducible refine (HT.out _).mono ?_); rintro e w6 ⟨rfl, hb6⟩; have HB6 := Lib.hid (HB5.out.trans (hb6.mono HB5.out.size)); clear hb6))
              go_ret
              exact ⟨by rw [← HE.out]; try rfl, HB6.out⟩
            · have e1 : (lo == 1) = false := beq_eq_false_iff_ne.2 hl1
              clear hl1
              go_enter Tryd.func14, Tryd.ntmps14
              go_wp2_with (first | (go_at_call 59; (with_reducible refine (HS.out _).mono ?_); rintro e w5 ⟨rfl, hb5⟩; have HB5 := Lib.hid hb5; clear hb5) | (go_at_call 59; (with_reducible refine (HT.out _).mono ?_); rintro e w6 ⟨rfl, hb6⟩; have HB6 := Lib.hid (HB5.out.trans (hb6.mono HB5.out.size)); clear hb6))
              go_ret
              exact ⟨by rw [← HE.out]; try rfl, HB6.out⟩
  · have HC := Lib.hid (show countB lo hi = [] from by unfold countB; rw [if_pos hP])
    generalize countB lo hi = C at *
    by_cases h1 : lo < 0
    · clear hP
      go_enter Tryd.func14, Tryd.ntmps14
      go_wp2_with fail
      go_ret
      exact ⟨by rw [HC.out]; try rfl, Below.refl _ _⟩
    by_cases h2 : 99 < lo
    · clear hP
      go_enter Tryd.func14, Tryd.ntmps14
      go_wp2_with fail
      go_ret
      exact ⟨by rw [HC.out]; try rfl, Below.refl _ _⟩
    have hne : ¬ hi = -1 := fun h => hP ⟨by omega, by omega, .inl h⟩
    have e3 : (hi == -1) = false := beq_eq_false_iff_ne.2 hne
    by_cases h3 : hi < lo
    · clear hP
      go_enter Tryd.func14, Tryd.ntmps14
      go_wp2_with fail
      go_ret
      exact ⟨by rw [HC.out]; try rfl, Below.refl _ _⟩
    · have h4 : 99 < hi := by
        omega
      clear hP
      go_enter Tryd.func14, Tryd.ntmps14
      go_wp2_with fail
      go_ret
      exact ⟨by rw [HC.out]; try rfl, Below.refl _ _⟩
end Go.Proofs.YtdcgbcdmkhleoaaDoor
