/- The contracts of bonsairef01's power, Has and Runs. -/
import Derived.Test.YtdcgbcdmkhleoaaDoorGh
import Derived.Test.YtdcgbcdmkhleoaaDoorUb
import Derived.Deep.RegionHeld3
import Derived.BigQuiet
namespace Go.Proofs.YtdcgbcdmkhleoaaDoor
open Go.RowKit
set_option linter.unusedSimpArgs false
set_option linter.unusedVariables false

set_option maxHeartbeats 800000 in
theorem power_any (n : Nat) (hn : n < 64) (w : World) :
    Calls Tryd.prog 123 #[.int .i64 n] w fun e w' => w = w' ∧ e = .returned (.int .u64 ((2 ^ n : Nat) : Int)) := by
  go_enter Tryd.func123, Tryd.ntmps123
  go_wp2_with fail
  go_loop [3, 4] (fun v3 v4 => ∃ k : Nat, k ≤ n ∧ v4 = .int .i64 k ∧ v3 = .int .u64 ((2 ^ k : Nat) : Int)) (fun _ v4 => n - (intOf v4).toNat)
  case atStart => exact ⟨0, Nat.zero_le _, rfl, rfl⟩
  case round =>
    obtain ⟨k, hk, rfl, rfl⟩ := hrel
    by_cases hlt : k < n
    · have hp : (2 ^ k : Nat) * 2 = 2 ^ (k + 1) := by rw [Nat.pow_succ]
      have hb : (2 : Nat) ^ (k + 1) ≤ 2 ^ 63 := Nat.pow_le_pow_right (by decide) (by omega)
      rw [← hp] at hb
      have HP := Lib.hid hp
      clear hp
      generalize (2 : Nat) ^ k = p at *
      have hb2 : p * 2 ≤ 9223372036854775808 := hb
      clear hb
      have hi : (k : Int) < (n : Int) := by omega
      go_wp2_with fail
      exact ⟨⟨k + 1, hlt, by go_num, by rw [← HP.out]; go_num⟩, by simp [intOf]; omega⟩
    · obtain rfl : k = n := by omega
      go_wp2_with fail
      go_ret
      exact ⟨rfl, rfl⟩
theorem power_at (z : Int) (n : Nat) (hz : z = (n : Int)) (hn : n < 64) (w : World) :
    Calls Tryd.prog 123 #[.int .i64 z] w fun e w' => w = w' ∧ e = .returned (.int .u64 ((2 ^ n : Nat) : Int)) := by
  subst hz; exact power_any n hn w
theorem hasW_eq (w0 w1 w2 w3 : Nat) (b : Nat) : hasW [w0, w1, w2, w3] b = ((([w0, w1, w2, w3].getD (b / 64) 0) / 2 ^ (b % 64)) % 2 == 1) := by
  unfold hasW
  rw [Nat.testBit_eq_decide_div_mod_eq]
  rfl

set_option maxRecDepth 100000 in
set_option maxHeartbeats 1600000 in
theorem has_any (w0 w1 w2 w3 : Nat) (h0 : u64N w0) (h1 : u64N w1) (h2 : u64N w2) (h3 : u64N w3) (b : Nat) (hb : b < 256) (w : World) :
    Calls Tryd.prog 115 #[wordsV w0 w1 w2 w3, .int .u8 b] w fun e w' => e = .returned (.bool (hasW [w0, w1, w2, w3] b)) ∧ Below w.heap.size w w' := by
  have HQ := Lib.hid (hasW_eq w0 w1 w2 w3 b)
  have HPW := Lib.hid (fun (z : Int) (hz : z = ((b % 64 : Nat) : Int)) (w : World) => power_at z (b % 64) hz (by omega) w)
  have hp : (2 : Nat) ^ (b % 64) ≤ 2 ^ 63 := Nat.pow_le_pow_right (by decide) (by omega)
  have hp0 : 0 < (2 : Nat) ^ (b % 64) := Nat.pos_of_ne_zero (by simp)
  generalize (2 : Nat) ^ (b % 64) = p at *
  have hp3 : (p : Int) ≤ 9223372036854775808 := by
    have : (2 : Nat) ^ 63 = 9223372036854775808 := by decide
    omega
  have hp1 : ((p : Int) == 0) = false := by rw [beq_eq_false_iff_ne]; omega
  clear hp
  unfold u64N at *
  unfold wordsV
  have HK0 := Lib.hid (bx_new w (.cells #[.int .u64 (w0 : Int), .int .u64 (w1 : Int), .int .u64 (w2 : Int), .int .u64 (w3 : Int)] 37))
  have HB0 := Lib.hid (bx1 w (.cells #[.int .u64 (w0 : Int), .int .u64 (w1 : Int), .int .u64 (w2 : Int), .int .u64 (w3 : Int)] 37))
  go_enter Tryd.func115, Tryd.ntmps115
  go_wp2_with fail
  have hsz : w.heap.size < (w.alloc (.cells #[.int .u64 (w0 : Int), .int .u64 (w1 : Int), .int .u64 (w2 : Int), .int .u64 (w3 : Int)] 37)).heap.size := by simp
  generalize (w.alloc (.cells #[.int .u64 (w0 : Int), .int .u64 (w1 : Int), .int .u64 (w2 : Int), .int .u64 (w3 : Int)] 37)) = W at *
  have hq4 : b / 64 < 4 := by omega
  have hq4 : b / 64 < 4 := by omega
  obtain ⟨x, hx, hx2, HX, HC⟩ : ∃ x : Nat, x < 18446744073709551616 ∧ ((x / p : Nat) : Int) < 18446744073709551616 ∧ Hid (hasW [w0, w1, w2, w3] b = (x / p % 2 == 1)) ∧ W.cell? ⟨w.heap.size, b / 64, none⟩ = some (.int .u64 (x : Int)) := by
    obtain ⟨c0, c1, c2, c3, _⟩ := blk4 HK0.out
    have hdiv : ∀ x : Nat, x < 18446744073709551616 → ((x / p : Nat) : Int) < 18446744073709551616 := fun x h => by have := Nat.div_le_self x p; omega
    have hq : b / 64 = 0 ∨ b / 64 = 1 ∨ b / 64 = 2 ∨ b / 64 = 3 := by omega
    rcases hq with h | h | h | h
    · exact ⟨w0, h0, hdiv _ h0, Lib.hid (by rw [HQ.out, h]; rfl), by rw [h]; exact c0⟩
    · exact ⟨w1, h1, hdiv _ h1, Lib.hid (by rw [HQ.out, h]; rfl), by rw [h]; exact c1⟩
    · exact ⟨w2, h2, hdiv _ h2, Lib.hid (by rw [HQ.out, h]; rfl), by rw [h]; exact c2⟩
    · exact ⟨w3, h3, hdiv _ h3, Lib.hid (by rw [HQ.out, h]; rfl), by rw [h]; exact c3⟩
  obtain ⟨q, hq⟩ : ∃ q, q = b / 64 := ⟨_, rfl⟩
  rw [← hq] at HC hq4
  obtain ⟨r, hr⟩ : ∃ r, r = b % 64 := ⟨_, rfl⟩
  rw [← hr] at HPW
  have i7 : (b : Int).tdiv 64 = (q : Int) := by rw [Int.tdiv_eq_ediv_of_nonneg (by omega)]; omega
  have i6 : (b : Int).tmod 64 = (r : Int) := by rw [Int.tmod_eq_emod_of_nonneg (by omega)]; omega
  have i5 : (b : Int) / 64 = (q : Int) := by omega
  have i4 : (b : Int) % 64 = (r : Int) := by omega
  have i8 : (q : Int) < 4 := by omega
  have hal : Tryd.prog.arrayLen 37 = 4 := by kernel_rfl
  have i9 : (0 : Int) ≤ (q : Int) := by omega
  have k1 : IntKind.i64.wrap (b : Int) = b := by simp [IntKind.wrap, IntKind.signed, IntKind.bits]; omega
  have k2 : IntKind.i64.wrap (q : Int) = q := by simp [IntKind.wrap, IntKind.signed, IntKind.bits]; omega
  have k3 : IntKind.i64.wrap (r : Int) = r := by simp [IntKind.wrap, IntKind.signed, IntKind.bits]; omega
  obtain ⟨y, hy⟩ : ∃ y : Nat, y = x / p := ⟨_, rfl⟩
  obtain ⟨z, hz⟩ : ∃ z : Nat, z = y % 2 := ⟨_, rfl⟩
  rw [← hy] at HX hx2
  rw [← hz] at HX
  have j1 : (x : Int).tdiv (p : Int) = (y : Int) := by rw [Int.tdiv_eq_ediv_of_nonneg (by omega), hy]; rfl
  have j5 : ¬ p = 0 := by omega
  have j7 : (p == 0) = false := by rw [beq_eq_false_iff_ne]; omega
  have j6 : ((x : Int) / (p : Int)) = (y : Int) := by rw [hy]; rfl
  have j2 : IntKind.u64.wrap (y : Int) = y := by simp [IntKind.wrap, IntKind.signed, IntKind.bits]; omega
  have j3 : (y : Int).tmod 2 = (z : Int) := by rw [Int.tmod_eq_emod_of_nonneg (by omega)]; omega
  have j4 : IntKind.u64.wrap (z : Int) = z := by simp [IntKind.wrap, IntKind.signed, IntKind.bits]; omega
  have HZ := Lib.hid (show ((z : Int) == 1) = hasW [w0, w1, w2, w3] b from by rw [HX.out, Bool.eq_iff_iff, beq_iff_eq, beq_iff_eq]; omega)
  clear hq hq4 hr i4 i5 hx2 hy hz
  go_region_held3 (fun w' => w'.cell? ⟨w.heap.size, q, none⟩ = some (.int .u64 (x : Int)))
    (exact HC)
    (((go_at_call 123; (with_reducible refine (HPW.out _ rfl _).mono ?_); rintro e wa ⟨rfl, rfl⟩)))
  go_wp2_with fail
  go_ret
  exact ⟨ret_bool HZ.out, HB0.out.drew⟩
end Go.Proofs.YtdcgbcdmkhleoaaDoor
