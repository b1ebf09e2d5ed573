/- The contracts of bonsairef03's hex, within, sign. -/
import Derived.Test.YtidcoldoalimfaaLa
import Derived.Test.YtidcoldoalimfaaQm
namespace Go.Proofs.Ytidcoldoalimfaa
open Go.RowKit
set_option linter.unusedSimpArgs false
set_option linter.unusedVariables false

theorem m_dig {c : UInt8} (h1 : (48 : Int) ≤ c.toNat) (h2 : (c.toNat : Int) ≤ 57) : hexV c = some (c.toNat - 48) := by unfold hexV; rw [if_pos ⟨by omega, by omega⟩]
theorem m_low {c : UInt8} (h1 : (97 : Int) ≤ c.toNat) (h2 : (c.toNat : Int) ≤ 102) : hexV c = some (c.toNat - 87) := by unfold hexV; rw [if_neg (by omega), if_pos ⟨by omega, by omega⟩]
theorem m_up {c : UInt8} (h1 : (65 : Int) ≤ c.toNat) (h2 : (c.toNat : Int) ≤ 70) : hexV c = some (c.toNat - 55) := by unfold hexV; rw [if_neg (by omega), if_neg (by omega), if_pos ⟨by omega, by omega⟩]
theorem m_no {c : UInt8} (h1 : ¬ ((48 : Int) ≤ c.toNat ∧ (c.toNat : Int) ≤ 57)) (h2 : ¬ ((97 : Int) ≤ c.toNat ∧ (c.toNat : Int) ≤ 102)) (h3 : ¬ ((65 : Int) ≤ c.toNat ∧ (c.toNat : Int) ≤ 70)) : hexV c = none := by
  unfold hexV; rw [if_neg (by omega), if_neg (by omega), if_neg (by omega)]
/-- A hexadecimal digit's number, -1 where it is none. -/
def hexI (c : UInt8) : Int := match hexV c with | some x => (x : Int) | none => -1
theorem hexI_some {c : UInt8} {x : Nat} (h : hexV c = some x) : hexI c = (x : Int) := by unfold hexI; rw [h]
theorem hexI_none {c : UInt8} (h : hexV c = none) : hexI c = -1 := by unfold hexI; rw [h]
def HexPost (c : UInt8) (w : World) (e : Ending) (w' : World) : Prop := e = .returned (.int .i64 (hexI c)) ∧ w = w'
set_option maxHeartbeats 1000000 in
theorem rhex_any (c : UInt8) (w : World) : Calls Try.prog 49 #[.int .u8 (c.toNat : Int)] w (HexPost c w) := by
  by_cases d1 : (48 : Int) ≤ c.toNat ∧ (c.toNat : Int) ≤ 57
  · obtain ⟨d2, d3⟩ := d1
    have HX := Lib.hid (hexI_some (m_dig d2 d3))
    go_enter Try.func49, Try.ntmps49
    go_wp2_with fail
    exact bodyPost_ret (v := .int .i64 ((c.toNat : Int) - 48)) (by simp [results, Try.results49, go_sem]) rfl ⟨by rw [HX.out]; congr 3; omega, rfl⟩
  by_cases d4 : (97 : Int) ≤ c.toNat ∧ (c.toNat : Int) ≤ 102
  · obtain ⟨d2, d3⟩ := d4
    have d5 : ¬ (c.toNat : Int) ≤ 57 := by omega
    have d6 : (48 : Int) ≤ c.toNat := by omega
    have HX := Lib.hid (hexI_some (m_low d2 d3))
    clear d1
    go_enter Try.func49, Try.ntmps49
    go_wp2_with fail
    exact bodyPost_ret (v := .int .i64 ((c.toNat : Int) - 97 + 10)) (by simp [results, Try.results49, go_sem]) rfl ⟨by rw [HX.out]; congr 3; omega, rfl⟩
  by_cases d7 : (65 : Int) ≤ c.toNat ∧ (c.toNat : Int) ≤ 70
  · obtain ⟨d2, d3⟩ := d7
    have d5 : ¬ (c.toNat : Int) ≤ 57 := by omega
    have d6 : (48 : Int) ≤ c.toNat := by omega
    have d8 : ¬ (97 : Int) ≤ c.toNat := by omega
    have HX := Lib.hid (hexI_some (m_up d2 d3))
    clear d1 d4
    go_enter Try.func49, Try.ntmps49
    go_wp2_with fail
    exact bodyPost_ret (v := .int .i64 ((c.toNat : Int) - 65 + 10)) (by simp [results, Try.results49, go_sem]) rfl ⟨by rw [HX.out]; congr 3; omega, rfl⟩
  have HX := Lib.hid (hexI_none (m_no d1 d4 d7))
  have HD := Lib.hid (show (¬ (48 : Int) ≤ c.toNat ∨ ¬ (c.toNat : Int) ≤ 57) ∧ (¬ (97 : Int) ≤ c.toNat ∨ ¬ (c.toNat : Int) ≤ 102) ∧ (¬ (65 : Int) ≤ c.toNat ∨ ¬ (c.toNat : Int) ≤ 70) from by omega)
  clear d1 d4 d7
  have hdd := HD.out.1
  rcases hdd with d1 | d1 <;> rcases HD.out.2.1 with d2 | d2 <;> rcases HD.out.2.2 with d3 | d3
  all_goals
    go_enter Try.func49, Try.ntmps49
    go_wp2_with fail
    all_goals exact bodyPost_ret (v := .int .i64 (-1)) (by simp [results, Try.results49, go_sem]) rfl ⟨by rw [HX.out], rfl⟩
theorem m_take (s : ByteArray) (k : Nat) (hk : k < s.size) (b : UInt8) : b ∈ s.data.toList.take (k + 1) ↔ b ∈ s.data.toList.take k ∨ s[k] = b := by
  have h : k < s.data.toList.length := hk
  rw [List.take_add_one, List.getElem?_eq_getElem h, List.mem_append]
  simp only [Option.toList_some, List.mem_singleton]
  exact or_congr Iff.rfl ⟨fun e => e.symm, fun e => e.symm⟩
set_option maxHeartbeats 800000 in
theorem rwithin_any (b : UInt8) (s : ByteArray) (w : World) (hs : s.size ≤ 1000) (r : Bool) (HR : Hid (r = decide (b ∈ s.data.toList))) :
    Calls Try.prog 48 #[.int .u8 b.toNat, .string s] w fun e w' => w = w' ∧ e = .returned (.bool r) := by
  go_enter Try.func48, Try.ntmps48
  go_wp2_with fail
  go_loop [5] (fun v5 => ∃ k : Nat, k ≤ s.size ∧ v5 = .int .i64 k ∧ Hid (b ∉ s.data.toList.take k)) (fun v5 => s.size - (intOf v5).toNat)
  case atStart => exact ⟨0, Nat.zero_le _, rfl, Lib.hid (by simp)⟩
  case round =>
    obtain ⟨k, hk, rfl, HN⟩ := hrel
    by_cases hlt : k < s.size
    · have i1 : (k : Int) < (s.size : Int) := by omega
      have i2 : (0 : Int) ≤ (k : Int) := by omega
      by_cases he : s[k] = b
      · have i3 : ((s[k].toNat : Int) == (b.toNat : Int)) = true := by rw [he]; simp
        have HD := Lib.hid (show b ∈ s.data.toList from List.mem_of_mem_take ((m_take s k hlt b).2 (.inr he)))
        clear he
        go_wp2_with fail
        go_ret
        exact ⟨rfl, ret_bool (show true = r from by rw [HR.out, decide_eq_true HD.out])⟩
      · have i3 : ((s[k].toNat : Int) == (b.toNat : Int)) = false := by
          rw [beq_eq_false_iff_ne]
          intro h
          exact he (UInt8.toNat_inj.1 (by omega))
        have HD := Lib.hid (show b ∉ s.data.toList.take (k + 1) from fun h => ((m_take s k hlt b).1 h).elim HN.out he)
        clear he
        go_wp2_with fail
        exact ⟨⟨k + 1, hlt, by go_num, HD⟩, by simp [intOf]; omega⟩
    · obtain rfl : k = s.size := by omega
      have HD := Lib.hid (show b ∉ s.data.toList from by have := HN.out; rwa [List.take_of_length_le (by simp)] at this)
      go_wp2_with fail
      go_ret
      exact ⟨rfl, ret_bool (show false = r from by rw [HR.out, decide_eq_false HD.out])⟩
end Go.Proofs.Ytidcoldoalimfaa
