/- The walk of the statement NameTells. -/
import Derived.Test.YtjbeblbiajegmaaDoorLaw1
import Derived.Test.YtjbeblbiajegmaaDoorName4
namespace Go.Proofs.YtjbeblbiajegmaaDoor
open Go.RowKit

set_option maxRecDepth 100000 in
set_option maxHeartbeats 2000000 in
theorem nameTells_walk (b : Int) (s t : ByteArray) (n most : Int) (w : World) (ht : Tab w) (hg : 1 < w.heap.size) (hs : s.size ≤ maxLen) (hs2 : t.size ≤ maxLen) (h0 : -9223372036854775808 ≤ n ∧ n ≤ 9223372036854775807) (h1 : -9223372036854775808 ≤ most ∧ most ≤ 9223372036854775807) :
    Calls Tryd.prog 8 #[.int .u8 b, .string s, .string t, .int .i64 n, .int .i64 most] w fun e w' => e = .returned (.bool true) ∧ Below w.heap.size w w' := by
  unfold maxLen at hs hs2
  obtain ⟨h0a, h0b⟩ := h0
  obtain ⟨h1a, h1b⟩ := h1
  by_cases hsz : s.size ≤ 5000 ∧ t.size ≤ 5000
  · obtain ⟨hz1, hz2⟩ := hsz
    obtain ⟨x, e, hxe⟩ : ∃ x e : Int, numL s.data.toList most = (x, e) := ⟨_, _, rfl⟩
    have HX := Lib.hid hxe; clear hxe
    go_enter Tryd.func8, Tryd.ntmps8
    go_wp2_with fail
    refine (num_any s most _ (by omega) h1b).mono ?_
    rintro e' w' ⟨rfl, hw⟩
    obtain rfl := hw.symm
    rw [HX.out]
    go_wp2_with fail
    refine (rnum_any s most _ (by omega) h1b h1a).mono ?_
    rintro e' w' ⟨rfl, hw⟩
    obtain rfl := hw.symm
    rw [HX.out]
    go_wp2_with fail
    refine (letter_any _ _).mono ?_
    rintro e' w' ⟨rfl, rfl⟩
    go_wp2_with fail
    refine (rletter_any _ _).mono ?_
    rintro e' w' ⟨rfl, rfl⟩
    go_wp2_with fail
    refine (may_any s _ (by omega)).mono ?_
    rintro e' w1 ⟨rfl, hB1⟩
    go_wp2_with fail
    refine (rmay_any s _ (by omega)).mono ?_
    rintro e' w' ⟨rfl, rfl⟩
    go_wp2_with fail
    refine (take_any s _ (by omega)).mono ?_
    rintro e' w2 ⟨u, rfl, hu, hB2⟩
    have HU := Lib.hid hu; clear hu
    have hB3 := hB1.trans (hB2.mono hB1.size)
    clear hB1 hB2
    go_wp2_with fail
    refine (rtake_any s _ (by omega)).mono ?_
    rintro e' w' ⟨v, rfl, hv, rfl⟩
    obtain rfl : v = u := str_ext (hv.trans HU.out.symm)
    clear hv
    have huu : (v.toList == v.toList) = true := by simp
    go_wp2_with fail
    refine (show_any n _ h0a h0b (tab_below hB3 hg ht)).mono ?_
    rintro e' w4 ⟨rfl, hB4⟩
    have hB5 := hB3.trans (hB4.mono hB3.size)
    clear hB3 hB4
    obtain ⟨z, hz⟩ : ∃ z : ByteArray, z = ⟨(Lib.itoa n).toArray⟩ := ⟨_, rfl⟩
    rw [← hz]
    have HZ := Lib.hid hz; clear hz
    go_wp2_with fail
    refine (rshow_any n _ h0a h0b).mono ?_
    rintro e' w6 ⟨z2, rfl, hz2, hB6⟩
    obtain rfl : z2 = z := str_ext (by rw [hz2, HZ.out])
    clear hz2
    have hB7 := hB5.trans (hB6.mono hB5.size)
    clear hB5 hB6
    have hzz : (z2.toList == z2.toList) = true := by simp
    go_wp2_with fail
    refine (compare_any s t _).mono ?_
    rintro e' w' ⟨rfl, rfl⟩
    go_wp2_with fail
    refine (rcompare_any s t _ (by omega) (by omega)).mono ?_
    rintro e' w8 ⟨rfl, q, rfl⟩
    generalize Lib.compareBytes s.data.toList t.data.toList = c at *
    have hB8 : Below w.heap.size w (w6.drewN q) := hB7.trans ⟨rfl, rfl, rfl, Nat.le_refl _, fun _ _ => rfl⟩
    clear hB7
    go_wp2_with fail
    refine (works_any _ (tab_below hB8 hg ht) (Nat.lt_of_lt_of_le hg hB8.size)).mono ?_
    rintro e' w9 ⟨rfl, hB9⟩
    go_wp2_with fail
    go_ret
    exact ⟨rfl, hB8.trans (hB9.mono hB8.size)⟩
  · have hsz2 : (5000 < s.size) ∨ (¬ 5000 < s.size ∧ 5000 < t.size) := by omega
    clear hsz
    rcases hsz2 with hz1 | ⟨hz1, hz2⟩
    all_goals
      go_enter Tryd.func8, Tryd.ntmps8
      go_wp2_with fail
      refine (works_any _ ht hg).mono ?_
      rintro e w1 ⟨rfl, hB⟩
      go_wp2_with fail
      go_ret
      exact ⟨rfl, hB⟩
end Go.Proofs.YtjbeblbiajegmaaDoor
