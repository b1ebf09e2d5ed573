/- The contract of name.Num. -/
import Derived.Test.YtabncmckojlllaaDoorNa
import Derived.Deep.Cut
namespace Go.Proofs.YtabncmckojlllaaDoor
open Go.RowKit

/-! ### name.Num -/
theorem ret_pair {p : Int × Int} {a b : Int} (h : p = (a, b)) : Ending.returned (.tuple #[.int .i64 a, .int .i64 b]) = .returned (.tuple #[.int .i64 p.1, .int .i64 p.2]) := by rw [h]

theorem numBody (a : Int) (l : List UInt8) (c : UInt8) (hd : isDigit c.toNat = true) (ha : a = (decVal l : Int)) : ((decVal (l ++ [c]) : Nat) : Int) = 10 * a + ((c.toNat : Int) - 48) := by
  rw [decVal_snoc, ha]; have := (isDigit_iff _).1 hd; omega

theorem num_yes (s : ByteArray) (most a : Int) (h0 : 0 < s.size) (hz : ¬ (s[0].toNat = 48 ∧ 1 < s.size)) (k : Nat) (hk : s.size ≤ k) (hd : allDig (s.data.toList.take k) = true) (ha : a = decVal (s.data.toList.take k)) :
    (a ≤ most → numL s.data.toList most = (a, 0)) ∧ (most < a → numL s.data.toList most = (0, 40)) := by
  rw [take_all s k hk] at hd ha
  constructor <;> intro h <;> simp only [numL, numText_ok s h0 hz hd, if_true]
  · rw [if_neg (by omega), ha]
  · rw [if_pos (by omega)]
theorem num_large (s : ByteArray) (most : Int) (h0 : 0 < s.size) (hm : most ≤ 9223372036854775807) (hz : ¬ (s[0].toNat = 48 ∧ 1 < s.size)) (k : Nat) (hk : s.size ≤ k) (hd : allDig (s.data.toList.take k) = true) (ha : 9223372036854775807 < (decVal (s.data.toList.take k) : Int)) :
    numL s.data.toList most = (0, 40) := by
  rw [take_all s k hk] at hd ha
  simp only [numL, numText_ok s h0 hz hd, if_true]
  rw [if_pos (by omega)]

/-- What the loop of Num keeps: the digits so far, and their value, unless it is too great. -/
def NumInv (s : ByteArray) (k : Nat) (a : Int) (b : Bool) : Prop :=
  allDig (s.data.toList.take k) = true ∧ (b = false → a = decVal (s.data.toList.take k)) ∧ (b = true → 9223372036854775807 < (decVal (s.data.toList.take k) : Int))
theorem NumInv.large {s : ByteArray} {k : Nat} {a c : Int} {b : Bool} (h : NumInv s k a b) (hk : k < s.size) (hc : (s[k].toNat : Int) = c) (h3 : 48 ≤ c) (h4 : c ≤ 57) (ha : b = false → (9223372036854775807 - (c - 48)) / 10 < a) : NumInv s (k + 1) a true := by
  obtain ⟨h1, h2, h5⟩ := h
  refine ⟨by rw [take_at s k hk, allDig_snoc, h1, (isDigit_iff _).2 (by omega)]; rfl, fun h => (by cases h), fun _ => ?_⟩
  rw [take_at s k hk, decVal_snoc]
  cases b
  · have := h2 rfl; have := ha rfl; omega
  · have := h5 rfl; omega
theorem NumInv.step {s : ByteArray} {k : Nat} {a c : Int} (h : NumInv s k a false) (hk : k < s.size) (hc : (s[k].toNat : Int) = c) (h3 : 48 ≤ c) (h4 : c ≤ 57) : NumInv s (k + 1) (a * 10 + (c - 48)) false := by
  obtain ⟨h1, h2, h5⟩ := h
  refine ⟨by rw [take_at s k hk, allDig_snoc, h1, (isDigit_iff _).2 (by omega)]; rfl, fun _ => ?_, fun h => (by cases h)⟩
  rw [take_at s k hk, decVal_snoc, h2 rfl]; omega

set_option maxHeartbeats 1000000 in
theorem num_any (s : ByteArray) (most : Int) (w : World) (hs : s.size ≤ 281474976710656) (hm : most ≤ 9223372036854775807) :
    Calls Tryd.prog 112 #[.string s, .int .i64 most] w fun e w' => e = .returned (.tuple #[.int .i64 (numL s.data.toList most).1, .int .i64 (numL s.data.toList most).2]) ∧ w' = w := by
  go_enter Tryd.func112, Tryd.ntmps112
  go_wp2
  refine wp_scope_jumps 0 (fun a' w' => w' = w ∧ numL s.data.toList most = (0, 4) ∧ ∃ u0 u1 u2 u3 u4 u5 u6 u7 u8 u9 u10 u11 u12 u13 u14 u15 u16 u17 u18 u19 u20 u21 u22 u23 u24 u25 u26 u27 u28 u29 u30 u31 u32 u33 u34 u35 u36 u37 u38 u39 u40 u41 u42 u43 u44 u45 u46 u47 u48 u49 u50 u51 u52 u53 u54 u55 u56 : Value, a' = { tmps := #[u0, u1, u2, u3, u4, u5, u6, u7, u8, u9, u10, u11, u12, u13, u14, u15, u16, u17, u18, u19, u20, u21, u22, u23, u24, u25, u26, u27, u28, u29, u30, u31, u32, u33, u34, u35, u36, u37, u38, u39, u40, u41, u42, u43, u44, u45, u46, u47, u48, u49, u50, u51, u52, u53, u54, u55, u56], defers := [] }) (fun _ _ => 0) rfl ?_ ?_
  · by_cases h0 : 0 < s.size
    · have ⟨e1, e2⟩ := bytes_ne s h0
      by_cases hz : s[0].toNat = 48 ∧ 1 < s.size
      · have HN := Lib.hid (numL_form _ most (numText_zero s hz.2 hz.1))
        have h5 : ((s[0].toNat : Int) == 48) = true := by simp; omega
        have h6 : (1 : Int) < (s.size : Int) := by omega
        clear hz
        go_wp2
        go_step3
        exact ⟨rfl, rfl, HN.out, _, _, _, _, _, _, _, _, _, _, _, _, _, _, _, _, _, _, _, _, _, _, _, _, _, _, _, _, _, _, _, _, _, _, _, _, _, _, _, _, _, _, _, _, _, _, _, _, _, _, _, _, _, _, _, _, _, rfl⟩
      · have HZ := Lib.hid hz
        have hc : ((s[0].toNat : Int) == 48) = false ∨ (((s[0].toNat : Int) == 48) = true ∧ ¬ (1 : Int) < (s.size : Int)) := by
          by_cases h48 : s[0].toNat = 48
          · right; exact ⟨by simp; omega, by omega⟩
          · left; simp; omega
        clear hz
        rcases hc with h5 | ⟨h5, h6⟩
        all_goals
          go_wp2
          go_loop [6, 7, 8] (fun n g i => ∃ (k : Nat) (a : Int) (b : Bool), k ≤ s.size ∧ n = .int .i64 a ∧ g = .bool b ∧ i = .int .i64 k ∧ 0 ≤ a ∧ a ≤ 9223372036854775807 ∧ NumInv s k a b) (fun _ _ i => s.size - (intOf i).toNat)
          case atStart => exact ⟨0, 0, false, by omega, rfl, rfl, rfl, by omega, by omega, by simp [allDig], fun _ => by simp [decVal], fun h => by cases h⟩
          case round =>
            obtain ⟨k, a, b, hk, rfl, rfl, rfl, ha0, ha1, hR⟩ := hrel
            have HR := Lib.hid hR; clear hR
            by_cases hlt : k < s.size
            · have hby : (s[k].toNat : Int) < 256 := by have := s[k].toNat_lt; omega
              cases hd : isDigit s[k].toNat
              · have HN := Lib.hid (numL_form _ most (numText_bad s k hlt hd))
                go_wp2_with (first | (go_at_call 95; refine (digit_any _ _).mono ?_; rintro e w' ⟨rfl, rfl⟩))
                go_step3
                exact ⟨rfl, rfl, HN.out, _, _, _, _, _, _, _, _, _, _, _, _, _, _, _, _, _, _, _, _, _, _, _, _, _, _, _, _, _, _, _, _, _, _, _, _, _, _, _, _, _, _, _, _, _, _, _, _, _, _, _, _, _, _, _, _, _, rfl⟩
              · have hd2 := (isDigit_iff _).1 hd
                obtain ⟨hd3, hd4⟩ := hd2
                cases b
                · go_upto_region 8 with (first | (go_at_call 95; refine (digit_any _ _).mono ?_; rintro e w' ⟨rfl, rfl⟩))
                  clear hd
                  generalize hc : (s[k].toNat : Int) = c at *
                  have HC := Lib.hid hc; clear hc
                  go_wp2
                  · have hlg : (9223372036854775807 - (c - 48)) / 10 < a := by assumption
                    exact ⟨⟨k + 1, a, true, by omega, rfl, rfl, by go_num, ha0, ha1, HR.out.large hlt HC.out hd3 hd4 (fun _ => hlg)⟩, by simp [intOf]; omega⟩
                  · have hlg : a ≤ (9223372036854775807 - (c - 48)) / 10 := by assumption
                    exact ⟨⟨k + 1, _, false, by omega, rfl, rfl, by go_num, by omega, by omega, HR.out.step hlt HC.out hd3 hd4⟩, by simp [intOf]; omega⟩
                · go_upto_region 8 with (first | (go_at_call 95; refine (digit_any _ _).mono ?_; rintro e w' ⟨rfl, rfl⟩))
                  clear hd
                  generalize hc : (s[k].toNat : Int) = c at *
                  have HC := Lib.hid hc; clear hc
                  go_wp2
                  exact ⟨⟨k + 1, a, true, by omega, rfl, rfl, by go_num, ha0, ha1, HR.out.large hlt HC.out hd3 hd4 (fun h => by cases h)⟩, by simp [intOf]; omega⟩
            · cases b
              · have HY := Lib.hid (num_yes s most a h0 HZ.out k (by omega) HR.out.1 (HR.out.2.1 rfl))
                go_wp2
                · have hlg : most < a := by assumption
                  simp only [Exit.jump]
                  go_ret2
                  exact ⟨ret_pair (HY.out.2 hlg), rfl⟩
                · have hlg : a ≤ most := by assumption
                  simp only [Exit.jump]
                  go_ret2
                  exact ⟨ret_pair (HY.out.1 hlg), rfl⟩
              · have HY := Lib.hid (num_large s most h0 hm HZ.out k (by omega) HR.out.1 (HR.out.2.2 rfl))
                go_wp2
                simp only [Exit.jump]
                go_ret2
                exact ⟨ret_pair HY.out, rfl⟩
    · have ⟨e1, e2, e3⟩ := bytes_none s h0
      have HN := Lib.hid (numL_form s.data.toList most (by rw [e3]; rfl))
      go_wp2
      go_step3
      exact ⟨rfl, rfl, HN.out, _, _, _, _, _, _, _, _, _, _, _, _, _, _, _, _, _, _, _, _, _, _, _, _, _, _, _, _, _, _, _, _, _, _, _, _, _, _, _, _, _, _, _, _, _, _, _, _, _, _, _, _, _, _, _, _, _, rfl⟩
  · rintro a' w' ⟨rfl, hn, u0, u1, u2, u3, u4, u5, u6, u7, u8, u9, u10, u11, u12, u13, u14, u15, u16, u17, u18, u19, u20, u21, u22, u23, u24, u25, u26, u27, u28, u29, u30, u31, u32, u33, u34, u35, u36, u37, u38, u39, u40, u41, u42, u43, u44, u45, u46, u47, u48, u49, u50, u51, u52, u53, u54, u55, u56, rfl⟩
    have HN := Lib.hid hn; clear hn
    go_wp2
    simp only [Exit.jump]
    go_ret2
    exact ⟨ret_pair HN.out, rfl⟩

end Go.Proofs.YtabncmckojlllaaDoor
