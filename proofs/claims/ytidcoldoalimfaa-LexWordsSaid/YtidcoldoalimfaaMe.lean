/- The contracts of bonsairef01's Range, Or, Minus, All, Not. -/
import Derived.Test.YtidcoldoalimfaaMd
namespace Go.Proofs.Ytidcoldoalimfaa
open Go.RowKit
set_option linter.unusedSimpArgs false
set_option linter.unusedVariables false

/-- What is in a set, below a number. -/
def lowF (h : Nat → Bool) (k : Nat) : Nat → Bool := fun x => h x && decide (x < k)
theorem low_zero (h : Nat → Bool) (i : Nat) : wordF (lowF h 0) i = 0 := by
  rw [show lowF h 0 = fun _ => false from by funext x; simp [lowF]]
  exact wordF_none i
theorem low_yes {h : Nat → Bool} {k : Nat} (hk : h k = true) : oneF (lowF h k) k = lowF h (k + 1) := by
  funext x
  unfold oneF lowF
  by_cases e : x = k
  · subst e; simp [hk]
  · rw [decide_eq_false e, Bool.or_false]
    congr 1
    exact decide_eq_decide.2 (by omega)
theorem low_no {h : Nat → Bool} {k : Nat} (hk : h k = false) : lowF h (k + 1) = lowF h k := by
  funext x
  unfold lowF
  by_cases e : x = k
  · subst e; simp [hk]
  · congr 1
    exact decide_eq_decide.2 (by omega)
theorem low_all (h : Nat → Bool) (i : Nat) (hi : i < 4) : wordF (lowF h 256) i = wordF h i := wordF_congr fun j hj => by
  unfold lowF
  rw [decide_eq_true (by omega), Bool.and_true]
theorem rwith_at (h : Nat → Bool) (k : Nat) (hk : k < 256) (hh : h k = true) (w : World) :
    Calls Try.prog 51 #[.agg #[.int .u64 (wordF (lowF h k) 0 : Int), .int .u64 (wordF (lowF h k) 1 : Int), .int .u64 (wordF (lowF h k) 2 : Int), .int .u64 (wordF (lowF h k) 3 : Int)], .int .u8 (k : Int)] w
    fun e w' => e = .returned (.agg #[.int .u64 (wordF (lowF h (k + 1)) 0 : Int), .int .u64 (wordF (lowF h (k + 1)) 1 : Int), .int .u64 (wordF (lowF h (k + 1)) 2 : Int), .int .u64 (wordF (lowF h (k + 1)) 3 : Int)]) ∧ Below w.heap.size w w' :=
  (show Calls Try.prog 51 #[setV (lowF h k), .int .u8 (k : Int)] w _ from rwith_any (lowF h k) k hk w).mono fun e w' hp => ⟨hp.1.trans (by rw [low_yes hh]; rfl), hp.2⟩
theorem rhas_at (f : Nat → Bool) (k : Nat) (hk : k < 256) (b : Bool) (hb : f k = b) (w : World) :
    Calls Try.prog 50 #[.agg #[.int .u64 (wordF f 0 : Int), .int .u64 (wordF f 1 : Int), .int .u64 (wordF f 2 : Int), .int .u64 (wordF f 3 : Int)], .int .u8 (k : Int)] w fun e w' => e = .returned (.bool b) ∧ Below w.heap.size w w' := by
  subst hb; exact rhas_any f k hk w
theorem four_else {W : World} {B k : Nat} (h : k ≠ B) (x0 x1 x2 x3 : Nat) :
    ((((W.setCell ⟨B, 0, none⟩ (.int .u64 (x0 : Int))).setCell ⟨B, 1, none⟩ (.int .u64 (x1 : Int))).setCell ⟨B, 2, none⟩ (.int .u64 (x2 : Int))).setCell ⟨B, 3, none⟩ (.int .u64 (x3 : Int))).heap[k]? = W.heap[k]? := by
  rw [Below.heap_setCell _ _ _ _ (by simpa using h), Below.heap_setCell _ _ _ _ (by simpa using h), Below.heap_setCell _ _ _ _ (by simpa using h), Below.heap_setCell _ _ _ _ (by simpa using h)]
def RRangeRel (a b : UInt8) (w : World) (i : Value) (wr : World) : Prop :=
  ∃ k : Nat, k ≤ 256 ∧ i = .int .i64 (k : Int) ∧ Hid (wr.heap[w.heap.size + 1]? = some (.cells (fourC (wordF (lowF (rngF a.toNat b.toNat) k) 0) (wordF (lowF (rngF a.toNat b.toNat) k) 1) (wordF (lowF (rngF a.toNat b.toNat) k) 2) (wordF (lowF (rngF a.toNat b.toNat) k) 3)) 33 (0, 0))) ∧
    Hid (wr.heap[w.heap.size]? = some (.cells (fourC 0 0 0 0) 33 (0, 0))) ∧ Hid (Below w.heap.size w wr)
set_option maxRecDepth 100000 in
set_option maxHeartbeats 1600000 in
theorem rrange_any (a b : UInt8) (w : World) : Calls Try.prog 34 #[.int .u8 (a.toNat : Int), .int .u8 (b.toNat : Int)] w fun e w' => e = .returned (setV (rngF a.toNat b.toNat)) ∧ Below w.heap.size w w' := by
  have HX := Lib.hid (setV_eq (rngF a.toNat b.toNat))
  have HAL := Lib.hid (low_all (rngF a.toNat b.toNat))
  have ha := a.toNat_lt; have hb := b.toNat_lt
  go_enter Try.func34, Try.ntmps34
  go_wp2_with fail
  go_loopw [6] (fun i wr => RRangeRel a b w i wr) (fun i _ => 256 - (intOf i).toNat)
  case atStart =>
    have e1 := bx_new (w.alloc (.cells (fourC 0 0 0 0) 33)) (.cells (fourC 0 0 0 0) 33)
    have e0 := bx_old (p := (.cells (fourC 0 0 0 0) 33)) (bx_new w (.cells (fourC 0 0 0 0) 33))
    rw [World.size_alloc] at e1
    refine ⟨0, by omega, rfl, Lib.hid ?_, Lib.hid e0, Lib.hid (bx2 w _ _)⟩
    rw [low_zero, low_zero, low_zero, low_zero]; exact e1
  case round =>
    obtain ⟨k, hk, rfl, HO, HR, HB⟩ := hrel
    by_cases hlt : k < 256
    · have i1 : (k : Int) < 256 := by omega
      have i2 : IntKind.u8.wrap (k : Int) = (k : Int) := by simp [IntKind.wrap, IntKind.signed, IntKind.bits]; omega
      by_cases hA : a.toNat ≤ k
      · have j1 : (a.toNat : Int) ≤ (k : Int) := by omega
        by_cases hB : k ≤ b.toNat
        · have j2 : (k : Int) ≤ (b.toNat : Int) := by omega
          have HT := Lib.hid (show rngF a.toNat b.toNat k = true from decide_eq_true ⟨hA, hB⟩)
          have HW := Lib.hid (rwith_at (rngF a.toNat b.toNat) k hlt HT.out)
          obtain ⟨o0, o1, o2, o3, _⟩ := blk4 HO.out
          go_wp2_with (first | (go_at_call 51; (with_reducible refine (HW.out _).mono ?_); rintro e w1 ⟨rfl, hb1⟩; have HB1 := Lib.hid (Below.step HB.out hb1); have HOA := Lib.hid (bx_kept hb1 HO.out); have HRA := Lib.hid (bx_kept hb1 HR.out); obtain ⟨q0, q1, q2, q3, qf⟩ := blk4 HOA.out; have g0 := qf 0; have g1 := qf 1; have g2 := qf 2; have g3 := qf 3; clear hb1 qf) | fail)
          exact ⟨⟨k + 1, by omega, by go_num, Lib.hid (four_put HOA.out _ _ _ _), Lib.hid ((four_else (by omega) _ _ _ _).trans HRA.out), Lib.hid (four_below HB1.out (by omega) _ _ _ _)⟩, by simp only [intOf]; omega⟩
        · have j2 : ¬ (k : Int) ≤ (b.toNat : Int) := by omega
          have HT := Lib.hid (low_no (show rngF a.toNat b.toNat k = false from decide_eq_false fun h => hB h.2))
          go_wp2_with fail
          exact ⟨⟨k + 1, by omega, by go_num, Lib.hid (by rw [HT.out]; exact HO.out), HR, HB⟩, by simp only [intOf]; omega⟩
      · have j1 : ¬ (a.toNat : Int) ≤ (k : Int) := by omega
        have HT := Lib.hid (low_no (show rngF a.toNat b.toNat k = false from decide_eq_false fun h => hA h.1))
        go_wp2_with fail
        exact ⟨⟨k + 1, by omega, by go_num, Lib.hid (by rw [HT.out]; exact HO.out), HR, HB⟩, by simp only [intOf]; omega⟩
    · obtain rfl : k = 256 := by omega
      rw [HAL.out 0 (by decide), HAL.out 1 (by decide), HAL.out 2 (by decide), HAL.out 3 (by decide)] at HO
      generalize wordF (rngF a.toNat b.toNat) 0 = x0 at *
      generalize wordF (rngF a.toNat b.toNat) 1 = x1 at *
      generalize wordF (rngF a.toNat b.toNat) 2 = x2 at *
      generalize wordF (rngF a.toNat b.toNat) 3 = x3 at *
      obtain ⟨b0, b1, b2, b3, _⟩ := blk4 HO.out
      obtain ⟨d0, d1, d2, d3, df⟩ := blk4 HR.out
      have g0 := df 0; have g1 := df 1; have g2 := df 2; have g3 := df 3
      clear df
      go_wp2_with fail
      obtain ⟨s0, s1, s2, s3, _⟩ := blk4 (four_put HR.out x0 x1 x2 x3)
      exact bodyPost_ret (v := .agg (fourC x0 x1 x2 x3)) (by simp [results, Try.results34, go_sem, s0, s1, s2, s3]) rfl ⟨by rw [HX.out], four_below HB.out (by omega) _ _ _ _⟩
def ROrRel (f g : Nat → Bool) (w : World) (i : Value) (wr : World) : Prop :=
  ∃ k : Nat, k ≤ 256 ∧ i = .int .i64 (k : Int) ∧ Hid (wr.heap[w.heap.size + 3]? = some (.cells (fourC (wordF (lowF (fun k => f k || g k) k) 0) (wordF (lowF (fun k => f k || g k) k) 1) (wordF (lowF (fun k => f k || g k) k) 2) (wordF (lowF (fun k => f k || g k) k) 3)) 33 (0, 0))) ∧
    Hid (wr.heap[w.heap.size + 2]? = some (.cells (fourC 0 0 0 0) 33 (0, 0))) ∧ Hid (Below w.heap.size w wr) ∧ Hid (wr.heap[w.heap.size]? = some (.cells (fourC (wordF f 0) (wordF f 1) (wordF f 2) (wordF f 3)) 33 (0, 0))) ∧ Hid (wr.heap[w.heap.size + 1]? = some (.cells (fourC (wordF g 0) (wordF g 1) (wordF g 2) (wordF g 3)) 33 (0, 0)))
set_option maxRecDepth 100000 in
set_option maxHeartbeats 1600000 in
theorem ror_any (f g : Nat → Bool) (w : World) : Calls Try.prog 33 #[.agg (fourC (wordF f 0) (wordF f 1) (wordF f 2) (wordF f 3)), .agg (fourC (wordF g 0) (wordF g 1) (wordF g 2) (wordF g 3))] w fun e w' => e = .returned (setV (fun k => f k || g k)) ∧ Below w.heap.size w w' := by
  have HX := Lib.hid (setV_eq (fun k => f k || g k))
  have HAL := Lib.hid (low_all (fun k => f k || g k))
  go_enter Try.func33, Try.ntmps33
  go_wp2_with fail
  go_loopw [6] (fun i wr => ROrRel f g w i wr) (fun i _ => 256 - (intOf i).toNat)
  case atStart =>
    have e3 := bx_new (((w.alloc (.cells (fourC (wordF f 0) (wordF f 1) (wordF f 2) (wordF f 3)) 33)).alloc (.cells (fourC (wordF g 0) (wordF g 1) (wordF g 2) (wordF g 3)) 33)).alloc (.cells (fourC 0 0 0 0) 33)) (.cells (fourC 0 0 0 0) 33)
    have e2 := bx_old (p := (.cells (fourC 0 0 0 0) 33)) (bx_new ((w.alloc (.cells (fourC (wordF f 0) (wordF f 1) (wordF f 2) (wordF f 3)) 33)).alloc (.cells (fourC (wordF g 0) (wordF g 1) (wordF g 2) (wordF g 3)) 33)) (.cells (fourC 0 0 0 0) 33))
    have e1 := bx_old (p := (.cells (fourC 0 0 0 0) 33)) (bx_old (p := (.cells (fourC 0 0 0 0) 33)) (bx_new (w.alloc (.cells (fourC (wordF f 0) (wordF f 1) (wordF f 2) (wordF f 3)) 33)) (.cells (fourC (wordF g 0) (wordF g 1) (wordF g 2) (wordF g 3)) 33)))
    have e0 := bx_old (p := (.cells (fourC 0 0 0 0) 33)) (bx_old (p := (.cells (fourC 0 0 0 0) 33)) (bx_old (p := (.cells (fourC (wordF g 0) (wordF g 1) (wordF g 2) (wordF g 3)) 33)) (bx_new w (.cells (fourC (wordF f 0) (wordF f 1) (wordF f 2) (wordF f 3)) 33))))
    simp only [World.size_alloc] at e3 e2 e1
    refine ⟨0, by omega, rfl, Lib.hid ?_, Lib.hid e2, Lib.hid ((bx3 w _ _ _).alloc (by simp; omega) _), Lib.hid e0, Lib.hid e1⟩
    rw [low_zero, low_zero, low_zero, low_zero]; exact e3
  case round =>
    obtain ⟨k, hk, rfl, HO, HR, HB, HF, HG⟩ := hrel
    by_cases hlt : k < 256
    · have i1 : (k : Int) < 256 := by omega
      have i2 : IntKind.u8.wrap (k : Int) = (k : Int) := by simp [IntKind.wrap, IntKind.signed, IntKind.bits]; omega
      obtain ⟨y0, y1, y2, y3, _⟩ := blk4 HF.out
      have HHF := Lib.hid (rhas_at f k hlt _ rfl)
      have HHG := Lib.hid (rhas_at g k hlt _ rfl)
      cases hf : f k
      all_goals cases hg : g k
      all_goals rw [hf] at HHF
      all_goals rw [hg] at HHG
      · have HT := Lib.hid (low_no (h := (fun k => f k || g k)) (show (fun k => f k || g k) k = false from by simp [hf, hg]))
        go_wp2_with (first | (go_at_call 50; (with_reducible refine (HHF.out _).mono ?_); rintro e w1 ⟨rfl, hb⟩; have HB1 := Lib.hid (Below.step HB.out hb); have HO1 := Lib.hid (bx_kept hb HO.out); have HR1 := Lib.hid (bx_kept hb HR.out); have HF1 := Lib.hid (bx_kept hb HF.out); have HG1 := Lib.hid (bx_kept hb HG.out); obtain ⟨x0, x1, x2, x3, _⟩ := blk4 HG1.out; obtain ⟨o0, o1, o2, o3, _⟩ := blk4 HO1.out; clear hb) | (go_at_call 50; (with_reducible refine (HHG.out _).mono ?_); rintro e w2 ⟨rfl, hb⟩; have HB2 := Lib.hid (Below.step HB1.out hb); have HO2 := Lib.hid (bx_kept hb HO1.out); have HR2 := Lib.hid (bx_kept hb HR1.out); have HF2 := Lib.hid (bx_kept hb HF1.out); have HG2 := Lib.hid (bx_kept hb HG1.out); obtain ⟨x0, x1, x2, x3, _⟩ := blk4 HG2.out; obtain ⟨o0, o1, o2, o3, _⟩ := blk4 HO2.out; clear hb) | fail)
        exact ⟨⟨k + 1, by omega, by go_num, Lib.hid (by rw [HT.out]; exact HO2.out), HR2, HB2, HF2, HG2⟩, by simp only [intOf]; omega⟩
      · have HQ := Lib.hid ((show (fun k => f k || g k) k = true from by simp [hf, hg]))
        have HW := Lib.hid (rwith_at (fun k => f k || g k) k hlt HQ.out)
        go_wp2_with (first | (go_at_call 50; (with_reducible refine (HHF.out _).mono ?_); rintro e w1 ⟨rfl, hb⟩; have HB1 := Lib.hid (Below.step HB.out hb); have HO1 := Lib.hid (bx_kept hb HO.out); have HR1 := Lib.hid (bx_kept hb HR.out); have HF1 := Lib.hid (bx_kept hb HF.out); have HG1 := Lib.hid (bx_kept hb HG.out); obtain ⟨x0, x1, x2, x3, _⟩ := blk4 HG1.out; obtain ⟨o0, o1, o2, o3, _⟩ := blk4 HO1.out; clear hb) | (go_at_call 50; (with_reducible refine (HHG.out _).mono ?_); rintro e w2 ⟨rfl, hb⟩; have HB2 := Lib.hid (Below.step HB1.out hb); have HO2 := Lib.hid (bx_kept hb HO1.out); have HR2 := Lib.hid (bx_kept hb HR1.out); have HF2 := Lib.hid (bx_kept hb HF1.out); have HG2 := Lib.hid (bx_kept hb HG1.out); obtain ⟨x0, x1, x2, x3, _⟩ := blk4 HG2.out; obtain ⟨o0, o1, o2, o3, _⟩ := blk4 HO2.out; clear hb) | (go_at_call 51; (with_reducible refine (HW.out _).mono ?_); rintro e wz ⟨rfl, hb⟩; have HBZ := Lib.hid (Below.step HB2.out hb); have HOZ := Lib.hid (bx_kept hb HO2.out); have HRZ := Lib.hid (bx_kept hb HR2.out); have HFZ := Lib.hid (bx_kept hb HF2.out); have HGZ := Lib.hid (bx_kept hb HG2.out); obtain ⟨q0, q1, q2, q3, qf⟩ := blk4 HOZ.out; have g0 := qf 0; have g1 := qf 1; have g2 := qf 2; have g3 := qf 3; clear hb qf) | fail)
        exact ⟨⟨k + 1, by omega, by go_num, Lib.hid (four_put HOZ.out _ _ _ _), Lib.hid ((four_else (by omega) _ _ _ _).trans HRZ.out), Lib.hid (four_below HBZ.out (by omega) _ _ _ _), Lib.hid ((four_else (by omega) _ _ _ _).trans HFZ.out), Lib.hid ((four_else (by omega) _ _ _ _).trans HGZ.out)⟩, by simp only [intOf]; omega⟩
      · have HQ := Lib.hid ((show (fun k => f k || g k) k = true from by simp [hf, hg]))
        have HW := Lib.hid (rwith_at (fun k => f k || g k) k hlt HQ.out)
        go_wp2_with (first | (go_at_call 50; (with_reducible refine (HHF.out _).mono ?_); rintro e w1 ⟨rfl, hb⟩; have HB1 := Lib.hid (Below.step HB.out hb); have HO1 := Lib.hid (bx_kept hb HO.out); have HR1 := Lib.hid (bx_kept hb HR.out); have HF1 := Lib.hid (bx_kept hb HF.out); have HG1 := Lib.hid (bx_kept hb HG.out); obtain ⟨x0, x1, x2, x3, _⟩ := blk4 HG1.out; obtain ⟨o0, o1, o2, o3, _⟩ := blk4 HO1.out; clear hb) | (go_at_call 51; (with_reducible refine (HW.out _).mono ?_); rintro e wz ⟨rfl, hb⟩; have HBZ := Lib.hid (Below.step HB1.out hb); have HOZ := Lib.hid (bx_kept hb HO1.out); have HRZ := Lib.hid (bx_kept hb HR1.out); have HFZ := Lib.hid (bx_kept hb HF1.out); have HGZ := Lib.hid (bx_kept hb HG1.out); obtain ⟨q0, q1, q2, q3, qf⟩ := blk4 HOZ.out; have g0 := qf 0; have g1 := qf 1; have g2 := qf 2; have g3 := qf 3; clear hb qf) | fail)
        exact ⟨⟨k + 1, by omega, by go_num, Lib.hid (four_put HOZ.out _ _ _ _), Lib.hid ((four_else (by omega) _ _ _ _).trans HRZ.out), Lib.hid (four_below HBZ.out (by omega) _ _ _ _), Lib.hid ((four_else (by omega) _ _ _ _).trans HFZ.out), Lib.hid ((four_else (by omega) _ _ _ _).trans HGZ.out)⟩, by simp only [intOf]; omega⟩
      · have HQ := Lib.hid ((show (fun k => f k || g k) k = true from by simp [hf, hg]))
        have HW := Lib.hid (rwith_at (fun k => f k || g k) k hlt HQ.out)
        go_wp2_with (first | (go_at_call 50; (with_reducible refine (HHF.out _).mono ?_); rintro e w1 ⟨rfl, hb⟩; have HB1 := Lib.hid (Below.step HB.out hb); have HO1 := Lib.hid (bx_kept hb HO.out); have HR1 := Lib.hid (bx_kept hb HR.out); have HF1 := Lib.hid (bx_kept hb HF.out); have HG1 := Lib.hid (bx_kept hb HG.out); obtain ⟨x0, x1, x2, x3, _⟩ := blk4 HG1.out; obtain ⟨o0, o1, o2, o3, _⟩ := blk4 HO1.out; clear hb) | (go_at_call 51; (with_reducible refine (HW.out _).mono ?_); rintro e wz ⟨rfl, hb⟩; have HBZ := Lib.hid (Below.step HB1.out hb); have HOZ := Lib.hid (bx_kept hb HO1.out); have HRZ := Lib.hid (bx_kept hb HR1.out); have HFZ := Lib.hid (bx_kept hb HF1.out); have HGZ := Lib.hid (bx_kept hb HG1.out); obtain ⟨q0, q1, q2, q3, qf⟩ := blk4 HOZ.out; have g0 := qf 0; have g1 := qf 1; have g2 := qf 2; have g3 := qf 3; clear hb qf) | fail)
        exact ⟨⟨k + 1, by omega, by go_num, Lib.hid (four_put HOZ.out _ _ _ _), Lib.hid ((four_else (by omega) _ _ _ _).trans HRZ.out), Lib.hid (four_below HBZ.out (by omega) _ _ _ _), Lib.hid ((four_else (by omega) _ _ _ _).trans HFZ.out), Lib.hid ((four_else (by omega) _ _ _ _).trans HGZ.out)⟩, by simp only [intOf]; omega⟩
    · obtain rfl : k = 256 := by omega
      rw [HAL.out 0 (by decide), HAL.out 1 (by decide), HAL.out 2 (by decide), HAL.out 3 (by decide)] at HO
      generalize wordF (fun k => f k || g k) 0 = x0 at *
      generalize wordF (fun k => f k || g k) 1 = x1 at *
      generalize wordF (fun k => f k || g k) 2 = x2 at *
      generalize wordF (fun k => f k || g k) 3 = x3 at *
      obtain ⟨b0, b1, b2, b3, _⟩ := blk4 HO.out
      obtain ⟨d0, d1, d2, d3, df⟩ := blk4 HR.out
      have g0 := df 0; have g1 := df 1; have g2 := df 2; have g3 := df 3
      clear df
      go_wp2_with fail
      obtain ⟨s0, s1, s2, s3, _⟩ := blk4 (four_put HR.out x0 x1 x2 x3)
      exact bodyPost_ret (v := .agg (fourC x0 x1 x2 x3)) (by simp [results, Try.results33, go_sem, s0, s1, s2, s3]) rfl ⟨by rw [HX.out], four_below HB.out (by omega) _ _ _ _⟩
def RMinusRel (f g : Nat → Bool) (w : World) (i : Value) (wr : World) : Prop :=
  ∃ k : Nat, k ≤ 256 ∧ i = .int .i64 (k : Int) ∧ Hid (wr.heap[w.heap.size + 3]? = some (.cells (fourC (wordF (lowF (fun k => f k && !g k) k) 0) (wordF (lowF (fun k => f k && !g k) k) 1) (wordF (lowF (fun k => f k && !g k) k) 2) (wordF (lowF (fun k => f k && !g k) k) 3)) 33 (0, 0))) ∧
    Hid (wr.heap[w.heap.size + 2]? = some (.cells (fourC 0 0 0 0) 33 (0, 0))) ∧ Hid (Below w.heap.size w wr) ∧ Hid (wr.heap[w.heap.size]? = some (.cells (fourC (wordF f 0) (wordF f 1) (wordF f 2) (wordF f 3)) 33 (0, 0))) ∧ Hid (wr.heap[w.heap.size + 1]? = some (.cells (fourC (wordF g 0) (wordF g 1) (wordF g 2) (wordF g 3)) 33 (0, 0)))
set_option maxRecDepth 100000 in
set_option maxHeartbeats 1600000 in
theorem rminus_any (f g : Nat → Bool) (w : World) : Calls Try.prog 52 #[.agg (fourC (wordF f 0) (wordF f 1) (wordF f 2) (wordF f 3)), .agg (fourC (wordF g 0) (wordF g 1) (wordF g 2) (wordF g 3))] w fun e w' => e = .returned (setV (fun k => f k && !g k)) ∧ Below w.heap.size w w' := by
  have HX := Lib.hid (setV_eq (fun k => f k && !g k))
  have HAL := Lib.hid (low_all (fun k => f k && !g k))
  go_enter Try.func52, Try.ntmps52
  go_wp2_with fail
  go_loopw [6] (fun i wr => RMinusRel f g w i wr) (fun i _ => 256 - (intOf i).toNat)
  case atStart =>
    have e3 := bx_new (((w.alloc (.cells (fourC (wordF f 0) (wordF f 1) (wordF f 2) (wordF f 3)) 33)).alloc (.cells (fourC (wordF g 0) (wordF g 1) (wordF g 2) (wordF g 3)) 33)).alloc (.cells (fourC 0 0 0 0) 33)) (.cells (fourC 0 0 0 0) 33)
    have e2 := bx_old (p := (.cells (fourC 0 0 0 0) 33)) (bx_new ((w.alloc (.cells (fourC (wordF f 0) (wordF f 1) (wordF f 2) (wordF f 3)) 33)).alloc (.cells (fourC (wordF g 0) (wordF g 1) (wordF g 2) (wordF g 3)) 33)) (.cells (fourC 0 0 0 0) 33))
    have e1 := bx_old (p := (.cells (fourC 0 0 0 0) 33)) (bx_old (p := (.cells (fourC 0 0 0 0) 33)) (bx_new (w.alloc (.cells (fourC (wordF f 0) (wordF f 1) (wordF f 2) (wordF f 3)) 33)) (.cells (fourC (wordF g 0) (wordF g 1) (wordF g 2) (wordF g 3)) 33)))
    have e0 := bx_old (p := (.cells (fourC 0 0 0 0) 33)) (bx_old (p := (.cells (fourC 0 0 0 0) 33)) (bx_old (p := (.cells (fourC (wordF g 0) (wordF g 1) (wordF g 2) (wordF g 3)) 33)) (bx_new w (.cells (fourC (wordF f 0) (wordF f 1) (wordF f 2) (wordF f 3)) 33))))
    simp only [World.size_alloc] at e3 e2 e1
    refine ⟨0, by omega, rfl, Lib.hid ?_, Lib.hid e2, Lib.hid ((bx3 w _ _ _).alloc (by simp; omega) _), Lib.hid e0, Lib.hid e1⟩
    rw [low_zero, low_zero, low_zero, low_zero]; exact e3
  case round =>
    obtain ⟨k, hk, rfl, HO, HR, HB, HF, HG⟩ := hrel
    by_cases hlt : k < 256
    · have i1 : (k : Int) < 256 := by omega
      have i2 : IntKind.u8.wrap (k : Int) = (k : Int) := by simp [IntKind.wrap, IntKind.signed, IntKind.bits]; omega
      obtain ⟨y0, y1, y2, y3, _⟩ := blk4 HF.out
      have HHF := Lib.hid (rhas_at f k hlt _ rfl)
      have HHG := Lib.hid (rhas_at g k hlt _ rfl)
      cases hf : f k
      all_goals cases hg : g k
      all_goals rw [hf] at HHF
      all_goals rw [hg] at HHG
      · have HT := Lib.hid (low_no (h := (fun k => f k && !g k)) (show (fun k => f k && !g k) k = false from by simp [hf, hg]))
        go_wp2_with (first | (go_at_call 50; (with_reducible refine (HHF.out _).mono ?_); rintro e w1 ⟨rfl, hb⟩; have HB1 := Lib.hid (Below.step HB.out hb); have HO1 := Lib.hid (bx_kept hb HO.out); have HR1 := Lib.hid (bx_kept hb HR.out); have HF1 := Lib.hid (bx_kept hb HF.out); have HG1 := Lib.hid (bx_kept hb HG.out); obtain ⟨x0, x1, x2, x3, _⟩ := blk4 HG1.out; obtain ⟨o0, o1, o2, o3, _⟩ := blk4 HO1.out; clear hb) | fail)
        exact ⟨⟨k + 1, by omega, by go_num, Lib.hid (by rw [HT.out]; exact HO1.out), HR1, HB1, HF1, HG1⟩, by simp only [intOf]; omega⟩
      · have HT := Lib.hid (low_no (h := (fun k => f k && !g k)) (show (fun k => f k && !g k) k = false from by simp [hf, hg]))
        go_wp2_with (first | (go_at_call 50; (with_reducible refine (HHF.out _).mono ?_); rintro e w1 ⟨rfl, hb⟩; have HB1 := Lib.hid (Below.step HB.out hb); have HO1 := Lib.hid (bx_kept hb HO.out); have HR1 := Lib.hid (bx_kept hb HR.out); have HF1 := Lib.hid (bx_kept hb HF.out); have HG1 := Lib.hid (bx_kept hb HG.out); obtain ⟨x0, x1, x2, x3, _⟩ := blk4 HG1.out; obtain ⟨o0, o1, o2, o3, _⟩ := blk4 HO1.out; clear hb) | fail)
        exact ⟨⟨k + 1, by omega, by go_num, Lib.hid (by rw [HT.out]; exact HO1.out), HR1, HB1, HF1, HG1⟩, by simp only [intOf]; omega⟩
      · have HQ := Lib.hid ((show (fun k => f k && !g k) k = true from by simp [hf, hg]))
        have HW := Lib.hid (rwith_at (fun k => f k && !g k) k hlt HQ.out)
        go_wp2_with (first | (go_at_call 50; (with_reducible refine (HHF.out _).mono ?_); rintro e w1 ⟨rfl, hb⟩; have HB1 := Lib.hid (Below.step HB.out hb); have HO1 := Lib.hid (bx_kept hb HO.out); have HR1 := Lib.hid (bx_kept hb HR.out); have HF1 := Lib.hid (bx_kept hb HF.out); have HG1 := Lib.hid (bx_kept hb HG.out); obtain ⟨x0, x1, x2, x3, _⟩ := blk4 HG1.out; obtain ⟨o0, o1, o2, o3, _⟩ := blk4 HO1.out; clear hb) | (go_at_call 50; (with_reducible refine (HHG.out _).mono ?_); rintro e w2 ⟨rfl, hb⟩; have HB2 := Lib.hid (Below.step HB1.out hb); have HO2 := Lib.hid (bx_kept hb HO1.out); have HR2 := Lib.hid (bx_kept hb HR1.out); have HF2 := Lib.hid (bx_kept hb HF1.out); have HG2 := Lib.hid (bx_kept hb HG1.out); obtain ⟨x0, x1, x2, x3, _⟩ := blk4 HG2.out; obtain ⟨o0, o1, o2, o3, _⟩ := blk4 HO2.out; clear hb) | (go_at_call 51; (with_reducible refine (HW.out _).mono ?_); rintro e wz ⟨rfl, hb⟩; have HBZ := Lib.hid (Below.step HB2.out hb); have HOZ := Lib.hid (bx_kept hb HO2.out); have HRZ := Lib.hid (bx_kept hb HR2.out); have HFZ := Lib.hid (bx_kept hb HF2.out); have HGZ := Lib.hid (bx_kept hb HG2.out); obtain ⟨q0, q1, q2, q3, qf⟩ := blk4 HOZ.out; have g0 := qf 0; have g1 := qf 1; have g2 := qf 2; have g3 := qf 3; clear hb qf) | fail)
        exact ⟨⟨k + 1, by omega, by go_num, Lib.hid (four_put HOZ.out _ _ _ _), Lib.hid ((four_else (by omega) _ _ _ _).trans HRZ.out), Lib.hid (four_below HBZ.out (by omega) _ _ _ _), Lib.hid ((four_else (by omega) _ _ _ _).trans HFZ.out), Lib.hid ((four_else (by omega) _ _ _ _).trans HGZ.out)⟩, by simp only [intOf]; omega⟩
      · have HT := Lib.hid (low_no (h := (fun k => f k && !g k)) (show (fun k => f k && !g k) k = false from by simp [hf, hg]))
        go_wp2_with (first | (go_at_call 50; (with_reducible refine (HHF.out _).mono ?_); rintro e w1 ⟨rfl, hb⟩; have HB1 := Lib.hid (Below.step HB.out hb); have HO1 := Lib.hid (bx_kept hb HO.out); have HR1 := Lib.hid (bx_kept hb HR.out); have HF1 := Lib.hid (bx_kept hb HF.out); have HG1 := Lib.hid (bx_kept hb HG.out); obtain ⟨x0, x1, x2, x3, _⟩ := blk4 HG1.out; obtain ⟨o0, o1, o2, o3, _⟩ := blk4 HO1.out; clear hb) | (go_at_call 50; (with_reducible refine (HHG.out _).mono ?_); rintro e w2 ⟨rfl, hb⟩; have HB2 := Lib.hid (Below.step HB1.out hb); have HO2 := Lib.hid (bx_kept hb HO1.out); have HR2 := Lib.hid (bx_kept hb HR1.out); have HF2 := Lib.hid (bx_kept hb HF1.out); have HG2 := Lib.hid (bx_kept hb HG1.out); obtain ⟨x0, x1, x2, x3, _⟩ := blk4 HG2.out; obtain ⟨o0, o1, o2, o3, _⟩ := blk4 HO2.out; clear hb) | fail)
        exact ⟨⟨k + 1, by omega, by go_num, Lib.hid (by rw [HT.out]; exact HO2.out), HR2, HB2, HF2, HG2⟩, by simp only [intOf]; omega⟩
    · obtain rfl : k = 256 := by omega
      rw [HAL.out 0 (by decide), HAL.out 1 (by decide), HAL.out 2 (by decide), HAL.out 3 (by decide)] at HO
      generalize wordF (fun k => f k && !g k) 0 = x0 at *
      generalize wordF (fun k => f k && !g k) 1 = x1 at *
      generalize wordF (fun k => f k && !g k) 2 = x2 at *
      generalize wordF (fun k => f k && !g k) 3 = x3 at *
      obtain ⟨b0, b1, b2, b3, _⟩ := blk4 HO.out
      obtain ⟨d0, d1, d2, d3, df⟩ := blk4 HR.out
      have g0 := df 0; have g1 := df 1; have g2 := df 2; have g3 := df 3
      clear df
      go_wp2_with fail
      obtain ⟨s0, s1, s2, s3, _⟩ := blk4 (four_put HR.out x0 x1 x2 x3)
      exact bodyPost_ret (v := .agg (fourC x0 x1 x2 x3)) (by simp [results, Try.results52, go_sem, s0, s1, s2, s3]) rfl ⟨by rw [HX.out], four_below HB.out (by omega) _ _ _ _⟩
theorem rrange_at (a b : Nat) (ha : a < 256) (hb : b < 256) (w : World) : Calls Try.prog 34 #[.int .u8 (a : Int), .int .u8 (b : Int)] w fun e w' => e = .returned (setV (rngF a b)) ∧ Below w.heap.size w w' := by
  have h := rrange_any (UInt8.ofNat a) (UInt8.ofNat b) w
  rw [show (UInt8.ofNat a).toNat = a by rw [UInt8.toNat_ofNat']; omega, show (UInt8.ofNat b).toNat = b by rw [UInt8.toNat_ofNat']; omega] at h
  exact h
set_option maxRecDepth 100000 in
set_option maxHeartbeats 1600000 in
theorem rall_any (w : World) : Calls Try.prog 53 #[] w fun e w' => e = .returned (setV (rngF 0 255)) ∧ Below w.heap.size w w' := by
  have HX := Lib.hid (setV_eq (rngF 0 255))
  have HRG := Lib.hid (rrange_at 0 255 (by decide) (by decide))
  rw [HX.out] at HRG
  generalize wordF (rngF 0 255) 0 = x0 at *
  generalize wordF (rngF 0 255) 1 = x1 at *
  generalize wordF (rngF 0 255) 2 = x2 at *
  generalize wordF (rngF 0 255) 3 = x3 at *
  go_enter Try.func53, Try.ntmps53
  go_wp2_with (first | (go_at_call 34; (refine (HRG.out _).mono ?_); rintro e w1 ⟨rfl, hb⟩; have HB1 := Lib.hid (Below.step (bx1 w _) hb); have HR1 := Lib.hid (bx_kept hb (bx_new w (.cells (fourC 0 0 0 0) 33))); obtain ⟨d0, d1, d2, d3, df⟩ := blk4 HR1.out; have g0 := df 0; have g1 := df 1; have g2 := df 2; have g3 := df 3; clear hb df) | fail)
  obtain ⟨s0, s1, s2, s3, _⟩ := blk4 (four_put HR1.out x0 x1 x2 x3)
  exact bodyPost_ret (v := .agg (fourC x0 x1 x2 x3)) (by simp [results, Try.results53, go_sem, s0, s1, s2, s3]) rfl ⟨by rw [HX.out], four_below HB1.out (Nat.le_refl _) _ _ _ _⟩
theorem rminus_at (f g h : Nat → Bool) (hh : ∀ k, k < 256 → (f k && !g k) = h k) (w : World) : Calls Try.prog 52 #[.agg (fourC (wordF f 0) (wordF f 1) (wordF f 2) (wordF f 3)), .agg (fourC (wordF g 0) (wordF g 1) (wordF g 2) (wordF g 3))] w fun e w' => e = .returned (.agg (fourC (wordF h 0) (wordF h 1) (wordF h 2) (wordF h 3))) ∧ Below w.heap.size w w' :=
  (rminus_any f g w).mono fun e w' hp => ⟨hp.1.trans (by
    rw [setV_eq]
    rw [wordF_congr (i := 0) fun j hj => hh _ (by omega), wordF_congr (i := 1) fun j hj => hh _ (by omega), wordF_congr (i := 2) fun j hj => hh _ (by omega), wordF_congr (i := 3) fun j hj => hh _ (by omega)]), hp.2⟩
set_option maxRecDepth 100000 in
set_option maxHeartbeats 1600000 in
theorem rnot_any (f : Nat → Bool) (w : World) : Calls Try.prog 35 #[.agg (fourC (wordF f 0) (wordF f 1) (wordF f 2) (wordF f 3))] w fun e w' => e = .returned (setV fun k => !f k) ∧ Below w.heap.size w w' := by
  have HX := Lib.hid (setV_eq fun k => !f k)
  have HMN := Lib.hid (rminus_at (rngF 0 255) f (fun k => !f k) (fun k hk => by unfold rngF; rw [decide_eq_true ⟨by omega, by omega⟩]; rfl))
  have HAL := Lib.hid rall_any
  rw [setV_eq] at HAL
  generalize wordF (fun k => !f k) 0 = x0 at *
  generalize wordF (fun k => !f k) 1 = x1 at *
  generalize wordF (fun k => !f k) 2 = x2 at *
  generalize wordF (fun k => !f k) 3 = x3 at *
  generalize wordF (rngF 0 255) 0 = z0 at *
  generalize wordF (rngF 0 255) 1 = z1 at *
  generalize wordF (rngF 0 255) 2 = z2 at *
  generalize wordF (rngF 0 255) 3 = z3 at *
  generalize wordF f 0 = y0 at *
  generalize wordF f 1 = y1 at *
  generalize wordF f 2 = y2 at *
  generalize wordF f 3 = y3 at *
  have HF0 := Lib.hid (bx_old (p := .cells (fourC 0 0 0 0) 33) (bx_new w (.cells (fourC y0 y1 y2 y3) 33)))
  have HR0 := Lib.hid (bx_new (w.alloc (.cells (fourC y0 y1 y2 y3) 33)) (.cells (fourC 0 0 0 0) 33))
  rw [World.size_alloc] at HR0
  have HB0 := Lib.hid (bx2 w (.cells (fourC y0 y1 y2 y3) 33) (.cells (fourC 0 0 0 0) 33))
  go_enter Try.func35, Try.ntmps35
  go_upto_region 1 with fail
  generalize ((w.alloc (.cells (fourC y0 y1 y2 y3) 33)).alloc (.cells (fourC 0 0 0 0) 33)) = W at *
  obtain ⟨a0, a1, a2, a3, _⟩ := blk4 HF0.out
  have c0 : W.drew.cell? ⟨w.heap.size, 0, none⟩ = _ := a0
  have c1 : W.drew.cell? ⟨w.heap.size, 1, none⟩ = _ := a1
  have c2 : W.drew.cell? ⟨w.heap.size, 2, none⟩ = _ := a2
  have c3 : W.drew.cell? ⟨w.heap.size, 3, none⟩ = _ := a3
  go_region_law (first
    | (go_simp; go_at_call 53; (with_reducible refine (HAL.out _).mono ?_); rintro e w1 ⟨rfl, hb⟩; have HB1 := Lib.hid (HB0.out.drew.trans (hb.mono (HB0.out.drew).size)); have HF1 := Lib.hid (bx_kept hb (show W.drew.heap[w.heap.size]? = _ from HF0.out)); have HR1 := Lib.hid (bx_kept hb (show W.drew.heap[w.heap.size + 1]? = _ from HR0.out)); obtain ⟨e0, e1, e2, e3, _⟩ := blk4 HF1.out; clear hb)
    | (go_simp; go_at_call 52; (with_reducible refine (HMN.out _).mono ?_); rintro e w2 ⟨rfl, hb⟩; have HB2 := Lib.hid (Below.step HB1.out hb); have HR2 := Lib.hid (bx_kept hb HR1.out); obtain ⟨d0, d1, d2, d3, df⟩ := blk4 HR2.out; have g0 := df 0; have g1 := df 1; have g2 := df 2; have g3 := df 3; clear hb df)
    | fail)
  all_goals
    have HS := Lib.hid (four_put HR2.out x0 x1 x2 x3)
    have HBS := Lib.hid (four_below HB2.out (show w.heap.size ≤ w.heap.size + 1 by omega) x0 x1 x2 x3)
    clear HAL HMN d0 d1 d2 d3 g0 g1 g2 g3
    generalize ((((w2.setCell ⟨w.heap.size + 1, 0, none⟩ (.int .u64 (x0 : Int))).setCell ⟨w.heap.size + 1, 1, none⟩ (.int .u64 (x1 : Int))).setCell ⟨w.heap.size + 1, 2, none⟩ (.int .u64 (x2 : Int))).setCell ⟨w.heap.size + 1, 3, none⟩ (.int .u64 (x3 : Int))) = w3 at *
    obtain ⟨s0, s1, s2, s3, _⟩ := blk4 HS.out
    go_wp2_with fail
    exact bodyPost_ret (v := .agg (fourC x0 x1 x2 x3)) (by simp [results, Try.results35, go_sem, s0, s1, s2, s3]) rfl ⟨by rw [HX.out], HBS.out⟩
end Go.Proofs.Ytidcoldoalimfaa
