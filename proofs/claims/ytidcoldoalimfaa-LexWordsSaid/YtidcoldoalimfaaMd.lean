/- The contracts of bonsairef01's power, Has, with, Range, Or, Minus, All, Not. -/
import Derived.Test.YtidcoldoalimfaaLk
import Derived.Deep.RegionHeld3
import Derived.Deep.RegionLaw
import Derived.StillTailTactics
import Derived.BigQuiet
namespace Go.Proofs.Ytidcoldoalimfaa
open Go.RowKit
set_option linter.unusedSimpArgs false
set_option linter.unusedVariables false

set_option maxHeartbeats 800000 in
theorem rpower_any (n : Nat) (hn : n < 64) (w : World) :
    Calls Try.prog 63 #[.int .i64 n] w fun e w' => w = w' ∧ e = .returned (.int .u64 ((2 ^ n : Nat) : Int)) := by
  go_enter Try.func63, Try.ntmps63
  go_wp2_with fail
  go_loop [3, 4] (fun v3 v4 => ∃ k : Nat, k ≤ n ∧ v4 = .int .i64 k ∧ v3 = .int .u64 ((2 ^ k : Nat) : Int)) (fun _ v4 => n - (intOf v4).toNat)
  case atStart => exact ⟨0, Nat.zero_le _, rfl, rfl⟩
  case round =>
    obtain ⟨k, hk, rfl, rfl⟩ := hrel
    by_cases hlt : k < n
    · have hp : (2 ^ k : Nat) * 2 = 2 ^ (k + 1) := by rw [Nat.pow_succ]
      have hb : (2 : Nat) ^ (k + 1) ≤ 2 ^ 63 := Nat.pow_le_pow_right (by decide) (by omega)
      rw [← hp] at hb
      have HP := Lib.hid hp
      clear hp
      generalize (2 : Nat) ^ k = p at *
      have hb2 : p * 2 ≤ 9223372036854775808 := hb
      clear hb
      have hi : (k : Int) < (n : Int) := by omega
      go_wp2_with fail
      exact ⟨⟨k + 1, hlt, by go_num, by rw [← HP.out]; go_num⟩, by simp [intOf]; omega⟩
    · obtain rfl : k = n := by omega
      go_wp2_with fail
      go_ret
      exact ⟨rfl, rfl⟩
theorem rpower_at (z : Int) (n : Nat) (hz : z = (n : Int)) (hn : n < 64) (w : World) :
    Calls Try.prog 63 #[.int .i64 z] w fun e w' => w = w' ∧ e = .returned (.int .u64 ((2 ^ n : Nat) : Int)) := by
  subst hz; exact rpower_any n hn w
theorem rhasW_eq (w0 w1 w2 w3 : Nat) (b : Nat) : hasW [w0, w1, w2, w3] b = ((([w0, w1, w2, w3].getD (b / 64) 0) / 2 ^ (b % 64)) % 2 == 1) := by
  unfold hasW
  rw [Nat.testBit_eq_decide_div_mod_eq]
  rfl

set_option maxRecDepth 100000 in
set_option maxHeartbeats 1600000 in
theorem rhasw_any (w0 w1 w2 w3 : Nat) (h0 : w0 < 18446744073709551616) (h1 : w1 < 18446744073709551616) (h2 : w2 < 18446744073709551616) (h3 : w3 < 18446744073709551616) (b : Nat) (hb : b < 256) (w : World) :
    Calls Try.prog 50 #[.agg #[.int .u64 (w0 : Int), .int .u64 (w1 : Int), .int .u64 (w2 : Int), .int .u64 (w3 : Int)], .int .u8 b] w fun e w' => e = .returned (.bool (hasW [w0, w1, w2, w3] b)) ∧ Below w.heap.size w w' := by
  have HQ := Lib.hid (rhasW_eq w0 w1 w2 w3 b)
  have HPW := Lib.hid (fun (z : Int) (hz : z = ((b % 64 : Nat) : Int)) (w : World) => rpower_at z (b % 64) hz (by omega) w)
  have hp : (2 : Nat) ^ (b % 64) ≤ 2 ^ 63 := Nat.pow_le_pow_right (by decide) (by omega)
  have hp0 : 0 < (2 : Nat) ^ (b % 64) := Nat.pos_of_ne_zero (by simp)
  generalize (2 : Nat) ^ (b % 64) = p at *
  have hp3 : (p : Int) ≤ 9223372036854775808 := by
    have : (2 : Nat) ^ 63 = 9223372036854775808 := by decide
    omega
  have hp1 : ((p : Int) == 0) = false := by rw [beq_eq_false_iff_ne]; omega
  clear hp
  have HK0 := Lib.hid (bx_new w (.cells #[.int .u64 (w0 : Int), .int .u64 (w1 : Int), .int .u64 (w2 : Int), .int .u64 (w3 : Int)] 33))
  have HB0 := Lib.hid (bx1 w (.cells #[.int .u64 (w0 : Int), .int .u64 (w1 : Int), .int .u64 (w2 : Int), .int .u64 (w3 : Int)] 33))
  go_enter Try.func50, Try.ntmps50
  go_wp2_with fail
  have hsz : w.heap.size < (w.alloc (.cells #[.int .u64 (w0 : Int), .int .u64 (w1 : Int), .int .u64 (w2 : Int), .int .u64 (w3 : Int)] 33)).heap.size := by simp
  generalize (w.alloc (.cells #[.int .u64 (w0 : Int), .int .u64 (w1 : Int), .int .u64 (w2 : Int), .int .u64 (w3 : Int)] 33)) = W at *
  have hq4 : b / 64 < 4 := by omega
  have hq4 : b / 64 < 4 := by omega
  obtain ⟨x, hx, hx2, HX, HC⟩ : ∃ x : Nat, x < 18446744073709551616 ∧ ((x / p : Nat) : Int) < 18446744073709551616 ∧ Hid (hasW [w0, w1, w2, w3] b = (x / p % 2 == 1)) ∧ W.cell? ⟨w.heap.size, b / 64, none⟩ = some (.int .u64 (x : Int)) := by
    obtain ⟨c0, c1, c2, c3, _⟩ := blk4 HK0.out
    have hdiv : ∀ x : Nat, x < 18446744073709551616 → ((x / p : Nat) : Int) < 18446744073709551616 := fun x h => by have := Nat.div_le_self x p; omega
    have hq : b / 64 = 0 ∨ b / 64 = 1 ∨ b / 64 = 2 ∨ b / 64 = 3 := by omega
    rcases hq with h | h | h | h
    · exact ⟨w0, h0, hdiv _ h0, Lib.hid (by rw [HQ.out, h]; rfl), by rw [h]; exact c0⟩
    · exact ⟨w1, h1, hdiv _ h1, Lib.hid (by rw [HQ.out, h]; rfl), by rw [h]; exact c1⟩
    · exact ⟨w2, h2, hdiv _ h2, Lib.hid (by rw [HQ.out, h]; rfl), by rw [h]; exact c2⟩
    · exact ⟨w3, h3, hdiv _ h3, Lib.hid (by rw [HQ.out, h]; rfl), by rw [h]; exact c3⟩
  obtain ⟨q, hq⟩ : ∃ q, q = b / 64 := ⟨_, rfl⟩
  rw [← hq] at HC hq4
  obtain ⟨r, hr⟩ : ∃ r, r = b % 64 := ⟨_, rfl⟩
  rw [← hr] at HPW
  have i7 : (b : Int).tdiv 64 = (q : Int) := by rw [Int.tdiv_eq_ediv_of_nonneg (by omega)]; omega
  have i6 : (b : Int).tmod 64 = (r : Int) := by rw [Int.tmod_eq_emod_of_nonneg (by omega)]; omega
  have i5 : (b : Int) / 64 = (q : Int) := by omega
  have i4 : (b : Int) % 64 = (r : Int) := by omega
  have i8 : (q : Int) < 4 := by omega
  have hal : Try.prog.arrayLen 33 = 4 := by kernel_rfl
  have i9 : (0 : Int) ≤ (q : Int) := by omega
  have k1 : IntKind.i64.wrap (b : Int) = b := by simp [IntKind.wrap, IntKind.signed, IntKind.bits]; omega
  have k2 : IntKind.i64.wrap (q : Int) = q := by simp [IntKind.wrap, IntKind.signed, IntKind.bits]; omega
  have k3 : IntKind.i64.wrap (r : Int) = r := by simp [IntKind.wrap, IntKind.signed, IntKind.bits]; omega
  obtain ⟨y, hy⟩ : ∃ y : Nat, y = x / p := ⟨_, rfl⟩
  obtain ⟨z, hz⟩ : ∃ z : Nat, z = y % 2 := ⟨_, rfl⟩
  rw [← hy] at HX hx2
  rw [← hz] at HX
  have j1 : (x : Int).tdiv (p : Int) = (y : Int) := by rw [Int.tdiv_eq_ediv_of_nonneg (by omega), hy]; rfl
  have j5 : ¬ p = 0 := by omega
  have j7 : (p == 0) = false := by rw [beq_eq_false_iff_ne]; omega
  have j6 : ((x : Int) / (p : Int)) = (y : Int) := by rw [hy]; rfl
  have j2 : IntKind.u64.wrap (y : Int) = y := by simp [IntKind.wrap, IntKind.signed, IntKind.bits]; omega
  have j3 : (y : Int).tmod 2 = (z : Int) := by rw [Int.tmod_eq_emod_of_nonneg (by omega)]; omega
  have j4 : IntKind.u64.wrap (z : Int) = z := by simp [IntKind.wrap, IntKind.signed, IntKind.bits]; omega
  have HZ := Lib.hid (show ((z : Int) == 1) = hasW [w0, w1, w2, w3] b from by rw [HX.out, Bool.eq_iff_iff, beq_iff_eq, beq_iff_eq]; omega)
  clear hq hq4 hr i4 i5 hx2 hy hz
  go_region_held3 (fun w' => w'.cell? ⟨w.heap.size, q, none⟩ = some (.int .u64 (x : Int)))
    (exact HC)
    (((go_at_call 63; (with_reducible refine (HPW.out _ rfl _).mono ?_); rintro e wa ⟨rfl, rfl⟩)))
  go_wp2_with fail
  go_ret
  exact ⟨ret_bool HZ.out, HB0.out.drew⟩
theorem hasW_word (f : Nat → Bool) (b : Nat) (hb : b < 256) : hasW [wordF f 0, wordF f 1, wordF f 2, wordF f 3] b = f b := by
  have hq : b / 64 = 0 ∨ b / 64 = 1 ∨ b / 64 = 2 ∨ b / 64 = 3 := by omega
  have e : (b / 64) * 64 + b % 64 = b := by omega
  have hm : b % 64 < 64 := by omega
  unfold hasW
  rcases hq with h | h | h | h <;> (rw [h] at e ⊢; show (wordF f _).testBit _ = _; rw [wordF_bit, e]; simp [hm])
theorem rhas_any (f : Nat → Bool) (b : Nat) (hb : b < 256) (w : World) : Calls Try.prog 50 #[setV f, .int .u8 b] w fun e w' => e = .returned (.bool (f b)) ∧ Below w.heap.size w w' :=
  (rhasw_any _ _ _ _ (wordF_lt f 0) (wordF_lt f 1) (wordF_lt f 2) (wordF_lt f 3) b hb w).mono fun e w' h => ⟨h.1.trans (by rw [hasW_word f b hb]), h.2⟩
theorem wordB_add (f : Nat → Bool) (i m : Nat) (h : f (i * 64 + m) = false) : ∀ n, wordB (fun k => f k || decide (k = i * 64 + m)) i n = wordB f i n + if m < n then 2 ^ m else 0
  | 0 => by simp [wordB]
  | n + 1 => by
    simp only [wordB]
    rw [wordB_add f i m h n]
    by_cases hn : n = m
    · subst hn
      simp [h]
    · have e : ¬ (i * 64 + n = i * 64 + m) := by omega
      simp only [e, decide_false, Bool.or_false]
      by_cases hl : m < n
      · rw [if_pos hl, if_pos (show m < n + 1 by omega)]; omega
      · rw [if_neg hl, if_neg (show ¬ m < n + 1 by omega)]; omega
def oneF (f : Nat → Bool) (b : Nat) : Nat → Bool := fun k => f k || decide (k = b)
theorem one_word (f : Nat → Bool) {b q m : Nat} (hb : b = q * 64 + m) (hm : m < 64) (h : f b = false) : wordF (oneF f b) q = wordF f q + 2 ^ m := by
  subst hb
  have := wordB_add f q m h 64
  rw [if_pos hm] at this
  exact this
theorem one_other (f : Nat → Bool) {b q m i : Nat} (hb : b = q * 64 + m) (hm : m < 64) (hi : i ≠ q) : wordF (oneF f b) i = wordF f i := wordF_congr fun j hj => by
  unfold oneF
  rw [show decide (i * 64 + j = b) = false from decide_eq_false (by omega), Bool.or_false]
theorem one_set (f : Nat → Bool) {b : Nat} (h : f b = true) : oneF f b = f := by
  funext k
  unfold oneF
  by_cases e : k = b
  · subst e; rw [h]; rfl
  · rw [decide_eq_false e, Bool.or_false]
/-- The result's box, written. -/
theorem four_put {W : World} {B : Nat} {y0 y1 y2 y3 : Nat} (h : W.heap[B]? = some (.cells (fourC y0 y1 y2 y3) 33 (0, 0))) (x0 x1 x2 x3 : Nat) :
    ((((W.setCell ⟨B, 0, none⟩ (.int .u64 (x0 : Int))).setCell ⟨B, 1, none⟩ (.int .u64 (x1 : Int))).setCell ⟨B, 2, none⟩ (.int .u64 (x2 : Int))).setCell ⟨B, 3, none⟩ (.int .u64 (x3 : Int))).heap[B]? = some (.cells (fourC x0 x1 x2 x3) 33 (0, 0)) := by
  have e0 := heap_setCell_same W B 0 _ 33 (.int .u64 (x0 : Int)) h
  have e1 := heap_setCell_same _ B 1 _ 33 (.int .u64 (x1 : Int)) e0
  have e2 := heap_setCell_same _ B 2 _ 33 (.int .u64 (x2 : Int)) e1
  have e3 := heap_setCell_same _ B 3 _ 33 (.int .u64 (x3 : Int)) e2
  simpa using e3
theorem four_below {W w : World} {n B : Nat} (h : Below n w W) (hB : n ≤ B) (x0 x1 x2 x3 : Nat) :
    Below n w ((((W.setCell ⟨B, 0, none⟩ (.int .u64 (x0 : Int))).setCell ⟨B, 1, none⟩ (.int .u64 (x1 : Int))).setCell ⟨B, 2, none⟩ (.int .u64 (x2 : Int))).setCell ⟨B, 3, none⟩ (.int .u64 (x3 : Int))) :=
  (((h.setCell (p := ⟨B, 0, none⟩) hB _).setCell (p := ⟨B, 1, none⟩) hB _).setCell (p := ⟨B, 2, none⟩) hB _).setCell (p := ⟨B, 3, none⟩) hB _
set_option maxRecDepth 100000 in
set_option maxHeartbeats 1600000 in
theorem rwith_any (f : Nat → Bool) (b : Nat) (hb : b < 256) (w : World) : Calls Try.prog 51 #[setV f, .int .u8 b] w fun e w' => e = .returned (setV (oneF f b)) ∧ Below w.heap.size w w' := by
  have HX := Lib.hid (setV_eq (oneF f b))
  have HHS := Lib.hid (rhas_any f b hb)
  rw [setV_eq f] at HHS ⊢
  obtain ⟨q, m, hq, hm, hbm⟩ : ∃ q m : Nat, q < 4 ∧ m < 64 ∧ b = q * 64 + m := ⟨b / 64, b % 64, by omega, by omega, by omega⟩
  have HK0 := Lib.hid (bx_old (p := .cells (fourC 0 0 0 0) 33) (bx_new w (.cells (fourC (wordF f 0) (wordF f 1) (wordF f 2) (wordF f 3)) 33)))
  have HK1 := Lib.hid (bx_new (w.alloc (.cells (fourC (wordF f 0) (wordF f 1) (wordF f 2) (wordF f 3)) 33)) (.cells (fourC 0 0 0 0) 33))
  rw [World.size_alloc] at HK1
  have HB0 := Lib.hid (bx2 w (.cells (fourC (wordF f 0) (wordF f 1) (wordF f 2) (wordF f 3)) 33) (.cells (fourC 0 0 0 0) 33))
  go_enter Try.func51, Try.ntmps51
  go_upto_region 1 with fail
  have hsz : w.heap.size + 1 < ((w.alloc (.cells (fourC (wordF f 0) (wordF f 1) (wordF f 2) (wordF f 3)) 33)).alloc (.cells (fourC 0 0 0 0) 33)).heap.size := by simp
  generalize ((w.alloc (.cells (fourC (wordF f 0) (wordF f 1) (wordF f 2) (wordF f 3)) 33)).alloc (.cells (fourC 0 0 0 0) 33)) = W at *
  obtain ⟨a0, a1, a2, a3, af⟩ := blk4 HK0.out
  clear af
  cases hfb : f b
  · have HF0 := Lib.hid (show (fourC (wordF f 0) (wordF f 1) (wordF f 2) (wordF f 3)).setIfInBounds q (.int .u64 ((wordF (oneF f b) q : Nat) : Int)) = fourC (wordF (oneF f b) 0) (wordF (oneF f b) 1) (wordF (oneF f b) 2) (wordF (oneF f b) 3) from by
      have hs := fun i (hi : i ≠ q) => one_other f hbm hm hi
      rw [fourSet _ _ _ hq]
      obtain rfl | rfl | rfl | rfl : q = 0 ∨ q = 1 ∨ q = 2 ∨ q = 3 := by omega
      · rw [hs 1 (by omega), hs 2 (by omega), hs 3 (by omega)]; simp
      · rw [hs 0 (by omega), hs 2 (by omega), hs 3 (by omega)]; simp
      · rw [hs 0 (by omega), hs 1 (by omega), hs 3 (by omega)]; simp
      · rw [hs 0 (by omega), hs 1 (by omega), hs 2 (by omega)]; simp)
    have HOW := Lib.hid (one_word f hbm hm hfb)
    have hlt := wordF_lt (oneF f b) q
    rw [HOW.out] at hlt
    have HPW := Lib.hid (fun (z : Int) (hz : z = ((m : Nat) : Int)) (w : World) => rpower_at z m hz hm w)
    have i7 : (b : Int).tdiv 64 = (q : Int) := by rw [Int.tdiv_eq_ediv_of_nonneg (by omega)]; omega
    have i6 : (b : Int).tmod 64 = (m : Int) := by rw [Int.tmod_eq_emod_of_nonneg (by omega)]; omega
    have i8 : (q : Int) < 4 := by omega
    have i9 : (0 : Int) ≤ (q : Int) := by omega
    have k1 : IntKind.i64.wrap (b : Int) = b := by simp [IntKind.wrap, IntKind.signed, IntKind.bits]; omega
    have k2 : IntKind.i64.wrap (q : Int) = q := by simp [IntKind.wrap, IntKind.signed, IntKind.bits]; omega
    have k3 : IntKind.i64.wrap (m : Int) = m := by simp [IntKind.wrap, IntKind.signed, IntKind.bits]; omega
    have hc : W.cell? ⟨w.heap.size, q, none⟩ = some (.int .u64 ((wordF f q : Nat) : Int)) := by
      obtain rfl | rfl | rfl | rfl : q = 0 ∨ q = 1 ∨ q = 2 ∨ q = 3 := by omega
      all_goals assumption
    clear hbm
    rw [hfb] at HHS
    go_upto_region 2 with (first | (go_at_call 50; go_loud ((with_reducible refine (HHS.out _).mono ?_); rintro e w1 ⟨rfl, hb1⟩; have HB1 := Lib.hid (Below.step HB0.out hb1); have HKA := Lib.hid (bx_kept hb1 HK0.out); have HKB := Lib.hid (bx_kept hb1 HK1.out); have hc1 := (hb1.cell (p := ⟨w.heap.size, q, none⟩) (by show w.heap.size < _; omega)).trans hc; clear hb1)) | fail)
    obtain ⟨b0, b1, b2, b3, bf⟩ := blk4 HKA.out
    have f0 : w1.frozen? ⟨w.heap.size, q, none⟩ = false := bf q
    clear b0 b1 b2 b3 bf a0 a1 a2 a3
    have hwr : IntKind.u64.wrap (((wordF f q : Nat) : Int) + 2 ^ m) = ((wordF (oneF f b) q : Nat) : Int) := by
      have hp : (2 : Int) ^ m = ((2 ^ m : Nat) : Int) := by simp
      rw [hp, HOW.out]
      generalize 2 ^ m = p at *
      simp [IntKind.wrap, IntKind.signed, IntKind.bits]; omega
    go_region_law (first | (go_simp; go_at_call 63; (with_reducible refine (HPW.out _ rfl _).mono ?_); rintro e wa ⟨rfl, rfl⟩) | fail)
    all_goals
      have HE2 := Lib.hid (show ((w1.setCell ⟨w.heap.size, q, none⟩ (.int .u64 ((wordF (oneF f b) q : Nat) : Int))).drew).heap[w.heap.size]? = some (.cells (fourC (wordF (oneF f b) 0) (wordF (oneF f b) 1) (wordF (oneF f b) 2) (wordF (oneF f b) 3)) 33 (0, 0)) from by
        have h := heap_setCell_same w1 w.heap.size q _ 33 (.int .u64 ((wordF (oneF f b) q : Nat) : Int)) HKA.out
        rw [HF0.out] at h
        exact h)
      have HR2 := Lib.hid (show ((w1.setCell ⟨w.heap.size, q, none⟩ (.int .u64 ((wordF (oneF f b) q : Nat) : Int))).drew).heap[w.heap.size + 1]? = some (.cells (fourC 0 0 0 0) 33 (0, 0)) from
        (Below.heap_setCell _ _ _ _ (by show w.heap.size + 1 ≠ w.heap.size; omega)).trans HKB.out)
      have HB2 := Lib.hid ((HB1.out.setCell (p := ⟨w.heap.size, q, none⟩) (by simp) (.int .u64 ((wordF (oneF f b) q : Nat) : Int))).drew)
      clear hc1 f0 HKA HKB HB1 hwr
      generalize (w1.setCell ⟨w.heap.size, q, none⟩ (.int .u64 ((wordF (oneF f b) q : Nat) : Int))).drew = W2 at *
      generalize wordF (oneF f b) 0 = x0 at *
      generalize wordF (oneF f b) 1 = x1 at *
      generalize wordF (oneF f b) 2 = x2 at *
      generalize wordF (oneF f b) 3 = x3 at *
      obtain ⟨b0, b1, b2, b3, _⟩ := blk4 HE2.out
      obtain ⟨d0, d1, d2, d3, df⟩ := blk4 HR2.out
      have g0 := df 0; have g1 := df 1; have g2 := df 2; have g3 := df 3
      clear df
      go_wp2_with fail
      obtain ⟨s0, s1, s2, s3, _⟩ := blk4 (four_put HR2.out x0 x1 x2 x3)
      exact bodyPost_ret (v := .agg (fourC x0 x1 x2 x3)) (by simp [results, Try.results51, go_sem, s0, s1, s2, s3]) rfl ⟨by rw [HX.out], four_below HB2.out (by omega) _ _ _ _⟩
  · rw [hfb] at HHS
    have HX := Lib.hid (show setV (oneF f b) = .agg (fourC (wordF f 0) (wordF f 1) (wordF f 2) (wordF f 3)) from by rw [one_set f hfb]; rfl)
    clear hbm
    go_upto_region 3 with (first | (go_at_call 50; (with_reducible refine (HHS.out _).mono ?_); rintro e w1 ⟨rfl, hb1⟩; have HB1 := Lib.hid (Below.step HB0.out hb1); have HKA := Lib.hid (bx_kept hb1 HK0.out); have HKB := Lib.hid (bx_kept hb1 HK1.out); clear hb1) | fail)
    clear a0 a1 a2 a3 HHS HK0
    generalize wordF f 0 = x0 at *
    generalize wordF f 1 = x1 at *
    generalize wordF f 2 = x2 at *
    generalize wordF f 3 = x3 at *
    obtain ⟨b0, b1, b2, b3, _⟩ := blk4 HKA.out
    obtain ⟨d0, d1, d2, d3, df⟩ := blk4 HKB.out
    have g0 := df 0; have g1 := df 1; have g2 := df 2; have g3 := df 3
    clear df
    go_wp2_with fail
    obtain ⟨s0, s1, s2, s3, _⟩ := blk4 (four_put HKB.out x0 x1 x2 x3)
    exact bodyPost_ret (v := .agg (fourC x0 x1 x2 x3)) (by simp [results, Try.results51, go_sem, s0, s1, s2, s3]) rfl ⟨by rw [HX.out], four_below HB1.out (by omega) _ _ _ _⟩
end Go.Proofs.Ytidcoldoalimfaa
