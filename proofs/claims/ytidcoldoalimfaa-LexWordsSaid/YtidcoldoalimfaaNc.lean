/- The contracts of the reference of package name: Num, Show. -/
import Derived.Test.YtidcoldoalimfaaNb
import Derived.Test.YtidcoldoalimfaaNt
namespace Go.Proofs.Ytidcoldoalimfaa
open Go.RowKit

/-- What the first loop of the reference's Num has seen: digits alone. -/
theorem allDig_step (s : ByteArray) (k : Nat) (h : allDig (s.data.toList.take k) = true) (hk : k < s.size) (hd : isDigit s[k].toNat = true) : allDig (s.data.toList.take (k + 1)) = true := by
  rw [take_at s k hk, allDig_snoc, h, hd]; rfl
theorem rnum_too (s : ByteArray) (most a c : Int) (h0 : 0 < s.size) (hz : ¬ (s[0].toNat = 48 ∧ 1 < s.size)) (k : Nat) (hk : k < s.size) (hd : allDig s.data.toList = true) (ha : a = decVal (s.data.toList.take k))
    (hc : (s[k].toNat : Int) = c) (h3 : 48 ≤ c) (h4 : c ≤ 57) (hbig : most < 10 * a + (c - 48)) : numL s.data.toList most = (0, 40) := by
  have e := decVal_mono (s.data.toList.take (k + 1)) (s.data.toList.drop (k + 1))
  rw [List.take_append_drop, take_at s k hk, decVal_snoc] at e
  simp only [numL, numText_ok s h0 hz hd, if_true]
  rw [if_pos (by omega)]

set_option maxHeartbeats 1000000 in
theorem rnum_any (s : ByteArray) (most : Int) (w : World) (hs : s.size ≤ 281474976710656) (hm : most ≤ 9223372036854775807) (hm0 : -9223372036854775808 ≤ most) :
    Calls Try.prog 36 #[.string s, .int .i64 most] w fun e w' => e = .returned (.tuple #[.int .i64 (numL s.data.toList most).1, .int .i64 (numL s.data.toList most).2]) ∧ w' = w := by
  by_cases h0 : 0 < s.size
  · have ⟨e1, e2⟩ := bytes_ne s h0
    by_cases hz : s[0].toNat = 48 ∧ 1 < s.size
    · have HN := Lib.hid (numL_form _ most (numText_zero s hz.2 hz.1))
      have h5 : ((s[0].toNat : Int) == 48) = true := by simp; omega
      have h6 : (1 : Int) < (s.size : Int) := by omega
      clear hz
      go_enter Try.func36, Try.ntmps36
      go_wp2
      go_ret2
      exact ⟨ret_pair HN.out, rfl⟩
    · have HZ := Lib.hid hz
      have hc : ((s[0].toNat : Int) == 48) = false ∨ (((s[0].toNat : Int) == 48) = true ∧ ¬ (1 : Int) < (s.size : Int)) := by
        by_cases h48 : s[0].toNat = 48
        · right; exact ⟨by simp; omega, by omega⟩
        · left; simp; omega
      clear hz
      rcases hc with h5 | ⟨h5, h6⟩
      all_goals
        go_enter Try.func36, Try.ntmps36
        go_wp2
        go_loop [6] (fun i => ∃ k : Nat, k ≤ s.size ∧ i = .int .i64 k ∧ allDig (s.data.toList.take k) = true) (fun i => s.size - (intOf i).toNat)
        case atStart => exact ⟨0, by omega, rfl, by simp [allDig]⟩
        case round =>
          obtain ⟨k, hk, rfl, hR⟩ := hrel
          have HR := Lib.hid hR; clear hR
          by_cases hlt : k < s.size
          · cases hd : isDigit s[k].toNat
            · have HN := Lib.hid (numL_form _ most (numText_bad s k hlt hd))
              go_wp2_with (first | (go_at_call 31; refine (rdigit_any _ _).mono ?_; rintro e w' ⟨rfl, rfl⟩))
              go_ret2
              exact ⟨ret_pair HN.out, rfl⟩
            · have HD := Lib.hid hd
              go_wp2_with (first | (go_at_call 31; refine (rdigit_any _ _).mono ?_; rintro e w' ⟨rfl, rfl⟩))
              exact ⟨⟨k + 1, by omega, by go_num, allDig_step s k HR.out hlt HD.out⟩, by simp [intOf]; omega⟩
          · have HA := Lib.hid (show allDig s.data.toList = true by have := HR.out; rwa [take_all s k (by omega)] at this)
            go_wp2
            go_loop [7, 8] (fun n i => ∃ (k : Nat) (a : Int), k ≤ s.size ∧ n = .int .i64 a ∧ i = .int .i64 k ∧ 0 ≤ a ∧ a ≤ 9223372036854775807 ∧ Hid (a = decVal (s.data.toList.take k)) ∧ (0 < k → a ≤ most)) (fun _ i => s.size - (intOf i).toNat)
            case atStart => exact ⟨0, 0, by omega, rfl, rfl, by omega, by omega, Lib.hid (by simp [decVal]), by omega⟩
            case round =>
              obtain ⟨j, a, hj, rfl, rfl, ha0, ha1, HV, hle⟩ := hrel
              have HL := Lib.hid hle; clear hle
              by_cases hlt : j < s.size
              · have hd2 : isDigit s[j].toNat = true := by
                  have := HA.out; rw [allDig, List.all_eq_true] at this
                  exact this _ (by rw [← List.take_append_drop j s.data.toList, drop_at s j hlt]; simp)
                obtain ⟨hd3, hd4⟩ := (isDigit_iff _).1 hd2
                clear hd2
                go_upto_region 13 with fail
                generalize hc : (s[j].toNat : Int) = c at *
                have HC := Lib.hid hc; clear hc
                by_cases hm1 : most < 0
                · have HN := Lib.hid (rnum_too s most a c h0 HZ.out j hlt HA.out HV.out HC.out hd3 hd4 (by omega))
                  go_wp2
                  go_ret2
                  exact ⟨ret_pair HN.out, rfl⟩
                · by_cases hm2 : c - 48 ≤ most
                  · have hm3 : 0 ≤ most - (c - 48) := by omega
                    go_wp2
                    · have hq : a ≤ (most - (c - 48)) / 10 := by assumption
                      exact ⟨⟨j + 1, _, by omega, rfl, by go_num, by omega, by omega, Lib.hid (by rw [take_at s j hlt, decVal_snoc]; have := HV.out; have := HC.out; omega), fun _ => by omega⟩, by simp [intOf]; omega⟩
                    · have hq : (most - (c - 48)) / 10 < a := by assumption
                      have HN := Lib.hid (rnum_too s most a c h0 HZ.out j hlt HA.out HV.out HC.out hd3 hd4 (by omega))
                      go_ret2
                      exact ⟨ret_pair HN.out, rfl⟩
                  · have HN := Lib.hid (rnum_too s most a c h0 HZ.out j hlt HA.out HV.out HC.out hd3 hd4 (by omega))
                    go_wp2
                    all_goals
                      go_ret2
                      exact ⟨ret_pair HN.out, rfl⟩
              · have HY := Lib.hid (num_yes s most a h0 HZ.out j (by omega) (by rw [take_all s j (by omega)]; exact HA.out) HV.out)
                have hle : a ≤ most := HL.out (by omega)
                go_wp2
                go_ret2
                exact ⟨ret_pair (HY.out.1 hle), rfl⟩
  · have ⟨e1, e2, e3⟩ := bytes_none s h0
    have HN := Lib.hid (numL_form s.data.toList most (by rw [e3]; rfl))
    go_enter Try.func36, Try.ntmps36
    go_wp2
    go_ret2
    exact ⟨ret_pair HN.out, rfl⟩

end Go.Proofs.Ytidcoldoalimfaa
