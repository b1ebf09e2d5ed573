/- The walk of LexNames. -/
import Derived.Test.YtabncmckojlllaaDoorKu
import Derived.Lib.SlBytesConst
import Derived.Deep.DeepCutAuto
import Derived.Deep.Cut
import Derived.Deep.CutRange
namespace Go.Proofs.YtabncmckojlllaaDoor
open Go.RowKit Go.Shelf
set_option linter.unusedSimpArgs false
set_option linter.unusedVariables false

def ki24A : Array Value := #[.int .u8 2, .int .u8 3, .int .u8 4, .int .u8 5, .int .u8 6, .int .u8 7, .int .u8 8, .int .u8 9, .int .u8 10, .int .u8 11, .int .u8 12, .int .u8 13, .int .u8 2, .int .u8 11, .int .u8 11, .int .u8 2, .int .u8 16, .int .u8 16, .int .u8 16, .int .u8 15, .int .u8 15, .int .u8 14, .int .u8 14, .int .u8 1]
set_option maxRecDepth 100000 in
theorem ki24_at (k : Nat) (h : k < 24) : ki24A[k]? = some (.int .u8 (ki24.getD k 0)) := by
  have : k = 0 ∨ k = 1 ∨ k = 2 ∨ k = 3 ∨ k = 4 ∨ k = 5 ∨ k = 6 ∨ k = 7 ∨ k = 8 ∨ k = 9 ∨ k = 10 ∨ k = 11 ∨ k = 12 ∨ k = 13 ∨ k = 14 ∨ k = 15 ∨ k = 16 ∨ k = 17 ∨ k = 18 ∨ k = 19 ∨ k = 20 ∨ k = 21 ∨ k = 22 ∨ k = 23 := by omega
  rcases this with rfl | rfl | rfl | rfl | rfl | rfl | rfl | rfl | rfl | rfl | rfl | rfl | rfl | rfl | rfl | rfl | rfl | rfl | rfl | rfl | rfl | rfl | rfl | rfl <;> rfl
theorem words_24 (w : World) : Calls Tryd.prog 8 #[.string ⟨tx24.toArray⟩] w fun e w' => ∃ A c, e = .returned (.tuple #[.slice A 24 c, .int .i64 0, .int .i64 0]) ∧ WRow w' A ln24 ∧ Below w.heap.size w w' :=
  words_atB (s := ⟨tx24.toArray⟩) (by decide) tx24_words
set_option maxRecDepth 100000 in
theorem equal_sets0 (a0 a1 a2 a3 b0 b1 b2 b3 : Int) (w : World) : (Op.equalIn 10000 30 (.agg #[.int .u64 a0, .int .u64 a1, .int .u64 a2, .int .u64 a3]) (.agg #[.int .u64 b0, .int .u64 b1, .int .u64 b2, .int .u64 b3])).run Tryd.prog w = .ok (decide (a0 = b0 ∧ a1 = b1 ∧ a2 = b2 ∧ a3 = b3)) w := by
  rw [show (10000 : Nat) = 9999 + 1 from rfl]
  have hi : (Tryd.prog.info? 28).isSome = true := by kernel_rfl
  obtain ⟨i, hi⟩ := Option.isSome_iff_exists.1 hi
  rw [run_equalIn_array (P := Tryd.prog) w 9999 (n := 4) (e := 28) (i := i) _ _ Tryd.underlying30 hi]
  have hc : Tryd.prog.cellsOf 28 = 1 := by kernel_rfl
  rw [hc, show List.range 4 = [0, 1, 2, 3] from rfl]
  have hk : Tryd.prog.plainKey 28 = true := by kernel_rfl
  have hp : ∀ {v : Value} {xs : Array Value} (k : Nat) (w : World), xs[k]? = some v → (part 28 xs k).run Tryd.prog w = .ok v w := fun k w h => run_part_plain (w := w) hk h
  have he : ∀ (a b : Int) (w : World), (Op.equalIn 9999 28 (.int .u64 a) (.int .u64 b)).run Tryd.prog w = .ok (a == b) w := fun a b w => by
    exact eqInt 9998 a b w
  have X0 : ∀ w, (part 28 #[.int .u64 a0, .int .u64 a1, .int .u64 a2, .int .u64 a3] 0).run Tryd.prog w = .ok (.int .u64 a0) w := fun w => hp 0 w rfl
  have X1 : ∀ w, (part 28 #[.int .u64 a0, .int .u64 a1, .int .u64 a2, .int .u64 a3] 1).run Tryd.prog w = .ok (.int .u64 a1) w := fun w => hp 1 w rfl
  have X2 : ∀ w, (part 28 #[.int .u64 a0, .int .u64 a1, .int .u64 a2, .int .u64 a3] 2).run Tryd.prog w = .ok (.int .u64 a2) w := fun w => hp 2 w rfl
  have X3 : ∀ w, (part 28 #[.int .u64 a0, .int .u64 a1, .int .u64 a2, .int .u64 a3] 3).run Tryd.prog w = .ok (.int .u64 a3) w := fun w => hp 3 w rfl
  have Y0 : ∀ w, (part 28 #[.int .u64 b0, .int .u64 b1, .int .u64 b2, .int .u64 b3] 0).run Tryd.prog w = .ok (.int .u64 b0) w := fun w => hp 0 w rfl
  have Y1 : ∀ w, (part 28 #[.int .u64 b0, .int .u64 b1, .int .u64 b2, .int .u64 b3] 1).run Tryd.prog w = .ok (.int .u64 b1) w := fun w => hp 1 w rfl
  have Y2 : ∀ w, (part 28 #[.int .u64 b0, .int .u64 b1, .int .u64 b2, .int .u64 b3] 2).run Tryd.prog w = .ok (.int .u64 b2) w := fun w => hp 2 w rfl
  have Y3 : ∀ w, (part 28 #[.int .u64 b0, .int .u64 b1, .int .u64 b2, .int .u64 b3] 3).run Tryd.prog w = .ok (.int .u64 b3) w := fun w => hp 3 w rfl
  simp only [Op.eqItems, Sem.run_bind, Nat.reduceMul, X0, X1, X2, X3, Y0, Y1, Y2, Y3, he, Result.andThen_ok]
  by_cases h0 : a0 = b0
  · subst h0
    simp only [beq_self_eq_true, Bool.not_true, Bool.false_eq_true, if_false, Sem.run_bind, X0, X1, X2, X3, Y0, Y1, Y2, Y3, he, Result.andThen_ok]
    by_cases h1 : a1 = b1
    · subst h1
      simp only [beq_self_eq_true, Bool.not_true, Bool.false_eq_true, if_false, Sem.run_bind, X0, X1, X2, X3, Y0, Y1, Y2, Y3, he, Result.andThen_ok]
      by_cases h2 : a2 = b2
      · subst h2
        simp only [beq_self_eq_true, Bool.not_true, Bool.false_eq_true, if_false, Sem.run_bind, X0, X1, X2, X3, Y0, Y1, Y2, Y3, he, Result.andThen_ok]
        by_cases h3 : a3 = b3
        · subst h3; simp
        · simp [h3]
      · simp [h2]
    · simp [h1]
  · simp [h0]
theorem infoB8 : (Tryd.prog.info? 5).map (fun i => (i.zero, i.size, i.bytes)) = some (some (.int .u8 0), 1, 1) := by kernel_rfl
theorem e_bl : (⟨#[]⟩ ++ ⟨lnBl.toArray⟩ : ByteArray) = ⟨lnBl.toArray⟩ := by
  rw [show (⟨#[]⟩ : ByteArray) = ⟨[].toArray⟩ from rfl, ba_cat]; rfl
theorem ln24_ok (k : Nat) (h : k < ln24.length) (h' : k < 24) : mayS ln24[k] ∧ (ln24[k].kind : Int) = ki24.getD k 0 ∧ ln24[k].text.length ≤ 300 := ln24_fin ⟨k, h'⟩
set_option maxRecDepth 100000 in
set_option maxHeartbeats 2000000 in
theorem lexnames_walk (w : World) (ht : LexTabs w) : Calls Tryd.prog 3 #[] w (TruePostB w) := by
  have HT := Lib.hid ht; clear ht
  have HWD := Lib.hid (fun w' => words_24 w')
  unfold tx24 at HWD
  go_enter Tryd.func3, Tryd.ntmps3
  go_wp2_with (first
    | (go_at_call 7; (with_reducible refine (works_b _).mono ?_); rintro e w1 ⟨rfl, hb⟩; have HB1 := Lib.hid hb; clear hb)
    | (go_at_call 8; refine (HWD.out _).mono ?_; rintro e w2 ⟨A, c, rfl, hr, hb⟩; have HR2 := Lib.hid hr; have HB2 := Lib.hid hb; clear hb hr)
    | fail)
  have HK2 := Lib.hid (show ∀ k, k < 24 → w2.cell? ⟨w1.heap.size, k, none⟩ = some (.int .u8 (ki24.getD k 0)) from fun k hk => by
    have h0 := bx_kept HB2.out (bx_new w1 (.cells ki24A 5))
    rw [cell_of_row _ _ _ _ _ _ h0]
    exact ki24_at k hk)
  have HBW := Lib.hid (Below.step (Below.step HB1.out (bx1 w1 (.cells ki24A 5))) HB2.out)
  have hb0 : w1.heap.size < w2.heap.size := by have := HB2.out.size; simp at this; omega
  clear HB2
  generalize w1.heap.size = b0 at *
  go_loopw [5] (fun i wr => ∃ k : Nat, k ≤ 24 ∧ i = .int .i64 (k : Int) ∧ Hid (Below w2.heap.size w2 wr)) (fun i _ => 24 - (intOf i).toNat)
  case atStart => exact ⟨0, by omega, rfl, Lib.hid (Below.refl _ _)⟩
  case round =>
    obtain ⟨k, hk, rfl, HBr⟩ := hrel
    by_cases hlt : k < 24
    · have i1 : (k : Int) < 24 := by omega
      have hl24 : k < ln24.length := hlt
      obtain ⟨g, o, rfl, hg, x0, x1, x2, x3, x4, x5, x6, x7, x8, x9⟩ := (HR2.out.below HBr.out) k hl24
      have y0 := (HBr.out.cell (p := ⟨b0, k, none⟩) hb0).trans (HK2.out k hlt)
      obtain ⟨hm, hkk, htx⟩ := ln24_ok k hl24 hlt
      rw [← hkk] at y0
      clear hkk
      generalize ln24[k] = X at *
      have HMY := Lib.hid (fun w' => lmay_atS X.kind (X.frm : Int) (X.til : Int) X.text X.s0 X.s1 X.s2 X.s3 X.low X.high true w' (by omega) ⟨fun _ => hm, fun _ => rfl⟩)
      clear hm htx
      have hb0r : b0 < wr.heap.size := Nat.lt_of_lt_of_le hb0 HBr.out.size
      have HSC := Lib.hid (show ∀ w', Below wr.heap.size wr w' → (w'.cell? ⟨g, o + k * 10, none⟩ = some (.int .u8 (X.kind : Int)) ∧ w'.cell? ⟨g, o + k * 10 + 1, none⟩ = some (.int .i64 (X.frm : Int)) ∧ w'.cell? ⟨g, o + k * 10 + 2, none⟩ = some (.int .i64 (X.til : Int)) ∧ w'.cell? ⟨g, o + k * 10 + 3, none⟩ = some (.string ⟨X.text.toArray⟩) ∧ w'.cell? ⟨g, o + k * 10 + 4, none⟩ = some (.int .u64 (X.s0 : Int)) ∧ w'.cell? ⟨g, o + k * 10 + 5, none⟩ = some (.int .u64 (X.s1 : Int)) ∧ w'.cell? ⟨g, o + k * 10 + 6, none⟩ = some (.int .u64 (X.s2 : Int)) ∧ w'.cell? ⟨g, o + k * 10 + 7, none⟩ = some (.int .u64 (X.s3 : Int)) ∧ w'.cell? ⟨g, o + k * 10 + 8, none⟩ = some (.int .i64 X.low) ∧ w'.cell? ⟨g, o + k * 10 + 9, none⟩ = some (.int .i64 X.high) ∧ w'.cell? ⟨b0, k, none⟩ = some (.int .u8 (X.kind : Int))) from fun w' hb => ⟨(hb.cell hg).trans x0, (hb.cell hg).trans x1, (hb.cell hg).trans x2, (hb.cell hg).trans x3, (hb.cell hg).trans x4, (hb.cell hg).trans x5, (hb.cell hg).trans x6, (hb.cell hg).trans x7, (hb.cell hg).trans x8, (hb.cell hg).trans x9, (hb.cell (p := ⟨b0, k, none⟩) hb0r).trans y0⟩)
      have HBD := Lib.hid (Below.refl wr.heap.size wr).drew
      clear x0 x1 x2 x3 x4 x5 x6 x7 x8 x9 y0
      go_upto_region 10 with fail
      go_region_held3 (fun w' => w'.cell? ⟨g, o + k * 10, none⟩ = some (.int .u8 (X.kind : Int)) ∧ w'.cell? ⟨g, o + k * 10 + 1, none⟩ = some (.int .i64 (X.frm : Int)) ∧ w'.cell? ⟨g, o + k * 10 + 2, none⟩ = some (.int .i64 (X.til : Int)) ∧ w'.cell? ⟨g, o + k * 10 + 3, none⟩ = some (.string ⟨X.text.toArray⟩) ∧ w'.cell? ⟨g, o + k * 10 + 4, none⟩ = some (.int .u64 (X.s0 : Int)) ∧ w'.cell? ⟨g, o + k * 10 + 5, none⟩ = some (.int .u64 (X.s1 : Int)) ∧ w'.cell? ⟨g, o + k * 10 + 6, none⟩ = some (.int .u64 (X.s2 : Int)) ∧ w'.cell? ⟨g, o + k * 10 + 7, none⟩ = some (.int .u64 (X.s3 : Int)) ∧ w'.cell? ⟨g, o + k * 10 + 8, none⟩ = some (.int .i64 X.low) ∧ w'.cell? ⟨g, o + k * 10 + 9, none⟩ = some (.int .i64 X.high) ∧ w'.cell? ⟨b0, k, none⟩ = some (.int .u8 (X.kind : Int))) (first | exact HSC.out _ (Below.refl _ _) | exact HSC.out _ HBD.out | exact HSC.out _ HC3.out | fail) (first
        | (go_at_call 9; (with_reducible refine (HMY.out _).mono ?_); rintro e w3 ⟨rfl, hb⟩; have HC3 := Lib.hid (show Below wr.heap.size wr w3 from Below.step HBD.out hb); clear hb)
        | fail)
      go_wp2_with fail
      have HB3 := Lib.hid (Below.step HBr.out HC3.out)
      exact ⟨⟨k + 1, by omega, by go_num, HB3⟩, by simp only [intOf]; omega⟩
    · obtain rfl : k = 24 := by omega
      have HRr := Lib.hid (HR2.out.below HBr.out)
      obtain ⟨g, o, eA, hg, _⟩ := HRr.out 16 (by decide)
      subst eA
      obtain ⟨g', o', e', _, x0, x1, x2, x3, x4, x5, x6, x7, x8, x9⟩ := HRr.out 16 (by decide)
      cases e'
      have c16_4 : wr.cell? ⟨g, o + 164, none⟩ = some (.int .u64 18446744073709551615) := x4
      have c16_5 : wr.cell? ⟨g, o + 165, none⟩ = some (.int .u64 18446744073709551615) := x5
      have c16_6 : wr.cell? ⟨g, o + 166, none⟩ = some (.int .u64 18446744073709551615) := x6
      have c16_7 : wr.cell? ⟨g, o + 167, none⟩ = some (.int .u64 18446744073709551615) := x7
      clear x0 x1 x2 x3 x4 x5 x6 x7 x8 x9
      obtain ⟨g', o', e', _, x0, x1, x2, x3, x4, x5, x6, x7, x8, x9⟩ := HRr.out 18 (by decide)
      cases e'
      have c18_4 : wr.cell? ⟨g, o + 184, none⟩ = some (.int .u64 0) := x4
      have c18_5 : wr.cell? ⟨g, o + 185, none⟩ = some (.int .u64 60129542144) := x5
      have c18_6 : wr.cell? ⟨g, o + 186, none⟩ = some (.int .u64 0) := x6
      have c18_7 : wr.cell? ⟨g, o + 187, none⟩ = some (.int .u64 0) := x7
      clear x0 x1 x2 x3 x4 x5 x6 x7 x8 x9
      obtain ⟨g', o', e', _, x0, x1, x2, x3, x4, x5, x6, x7, x8, x9⟩ := HRr.out 19 (by decide)
      cases e'
      have c19_3 : wr.cell? ⟨g, o + 193, none⟩ = some (.string ⟨#[]⟩) := x3
      clear x0 x1 x2 x3 x4 x5 x6 x7 x8 x9
      obtain ⟨g', o', e', _, x0, x1, x2, x3, x4, x5, x6, x7, x8, x9⟩ := HRr.out 20 (by decide)
      cases e'
      have c20_3 : wr.cell? ⟨g, o + 203, none⟩ = some (.string ⟨#[65]⟩) := x3
      clear x0 x1 x2 x3 x4 x5 x6 x7 x8 x9
      obtain ⟨g', o', e', _, x0, x1, x2, x3, x4, x5, x6, x7, x8, x9⟩ := HRr.out 21 (by decide)
      cases e'
      have c21_8 : wr.cell? ⟨g, o + 218, none⟩ = some (.int .i64 0) := x8
      have c21_9 : wr.cell? ⟨g, o + 219, none⟩ = some (.int .i64 0) := x9
      clear x0 x1 x2 x3 x4 x5 x6 x7 x8 x9
      obtain ⟨g', o', e', _, x0, x1, x2, x3, x4, x5, x6, x7, x8, x9⟩ := HRr.out 22 (by decide)
      cases e'
      have c22_8 : wr.cell? ⟨g, o + 228, none⟩ = some (.int .i64 3) := x8
      have c22_9 : wr.cell? ⟨g, o + 229, none⟩ = some (.int .i64 5) := x9
      clear x0 x1 x2 x3 x4 x5 x6 x7 x8 x9
      obtain ⟨g', o', e', _, x0, x1, x2, x3, x4, x5, x6, x7, x8, x9⟩ := HRr.out 23 (by decide)
      cases e'
      have c23_3 : wr.cell? ⟨g, o + 233, none⟩ = some (.string ⟨#[95, 57]⟩) := x3
      clear x0 x1 x2 x3 x4 x5 x6 x7 x8 x9
      have heq1 : ∀ w, (Op.equalIn 10000 30 (.agg #[.int .u64 18446744073709551615, .int .u64 18446744073709551615, .int .u64 18446744073709551615, .int .u64 18446744073709551615]) (.agg #[.int .u64 18446744073709551615, .int .u64 18446744073709551615, .int .u64 18446744073709551615, .int .u64 18446744073709551615])).run Tryd.prog w = .ok true w := fun w => by rw [equal_sets0, decide_eq_true (by simp)]
      have heq2 : ∀ w, (Op.equalIn 10000 30 (.agg #[.int .u64 0, .int .u64 60129542144, .int .u64 0, .int .u64 0]) (.agg #[.int .u64 0, .int .u64 60129542144, .int .u64 0, .int .u64 0])).run Tryd.prog w = .ok true w := fun w => by rw [equal_sets0, decide_eq_true (by simp)]
      go_upto_region 13 with fail
      have HB4 := Lib.hid (bx1 wr (.cells #[.int .u64 18446744073709551615, .int .u64 18446744073709551615, .int .u64 18446744073709551615, .int .u64 18446744073709551615] 30))
      have h4 := bx_new wr (.cells #[.int .u64 18446744073709551615, .int .u64 18446744073709551615, .int .u64 18446744073709551615, .int .u64 18446744073709551615] 30)
      have f0 : (wr.alloc (.cells #[.int .u64 18446744073709551615, .int .u64 18446744073709551615, .int .u64 18446744073709551615, .int .u64 18446744073709551615] 30)).cell? ⟨wr.heap.size, 0, none⟩ = some (.int .u64 18446744073709551615) := by rw [cell_of_row _ _ _ _ _ _ h4]; rfl
      have f1 : (wr.alloc (.cells #[.int .u64 18446744073709551615, .int .u64 18446744073709551615, .int .u64 18446744073709551615, .int .u64 18446744073709551615] 30)).cell? ⟨wr.heap.size, 1, none⟩ = some (.int .u64 18446744073709551615) := by rw [cell_of_row _ _ _ _ _ _ h4]; rfl
      have f2 : (wr.alloc (.cells #[.int .u64 18446744073709551615, .int .u64 18446744073709551615, .int .u64 18446744073709551615, .int .u64 18446744073709551615] 30)).cell? ⟨wr.heap.size, 2, none⟩ = some (.int .u64 18446744073709551615) := by rw [cell_of_row _ _ _ _ _ _ h4]; rfl
      have f3 : (wr.alloc (.cells #[.int .u64 18446744073709551615, .int .u64 18446744073709551615, .int .u64 18446744073709551615, .int .u64 18446744073709551615] 30)).cell? ⟨wr.heap.size, 3, none⟩ = some (.int .u64 18446744073709551615) := by rw [cell_of_row _ _ _ _ _ _ h4]; rfl
      replace c16_4 := (HB4.out.cell hg).trans c16_4
      replace c16_5 := (HB4.out.cell hg).trans c16_5
      replace c16_6 := (HB4.out.cell hg).trans c16_6
      replace c16_7 := (HB4.out.cell hg).trans c16_7
      replace c18_4 := (HB4.out.cell hg).trans c18_4
      replace c18_5 := (HB4.out.cell hg).trans c18_5
      replace c18_6 := (HB4.out.cell hg).trans c18_6
      replace c18_7 := (HB4.out.cell hg).trans c18_7
      replace c19_3 := (HB4.out.cell hg).trans c19_3
      replace c20_3 := (HB4.out.cell hg).trans c20_3
      replace c21_8 := (HB4.out.cell hg).trans c21_8
      replace c21_9 := (HB4.out.cell hg).trans c21_9
      replace c22_8 := (HB4.out.cell hg).trans c22_8
      replace c22_9 := (HB4.out.cell hg).trans c22_9
      replace c23_3 := (HB4.out.cell hg).trans c23_3
      have HB5 := Lib.hid (Below.step HBr.out HB4.out)
      clear h4 HB4 hg HRr HBr
      generalize wr.alloc (.cells #[.int .u64 18446744073709551615, .int .u64 18446744073709551615, .int .u64 18446744073709551615, .int .u64 18446744073709551615] 30) = w5 at *
      generalize wr.heap.size = b5 at *
      go_quiet (fail)
      have HB6 := Lib.hid (show ∀ q, Below w.heap.size w (w5.drewN q) from fun q => (Below.step HBW.out HB5.out).trans ⟨rfl, rfl, rfl, Nat.le_refl _, fun _ _ => rfl⟩)
      clear c16_4 c16_5 c16_6 c16_7 c18_4 c18_5 c18_6 c18_7 c19_3 c20_3 c21_8 c21_9 c22_8 c22_9 c23_3 f0 f1 f2 f3 heq1 heq2 hk HB5 HBW HWD
      have HC33 := Lib.hid (show ∀ w, Calls Tryd.prog 10 #[.string ⟨#[97]⟩, .int .i64 33] w fun e w' => e = .returned (.string ⟨lnA33.toArray⟩) ∧ Below w.heap.size w w' from fun w => copies_c [97] lnA33 33 w rfl (by decide) (by decide))
      have HC32 := Lib.hid (show ∀ w, Calls Tryd.prog 10 #[.string ⟨#[97]⟩, .int .i64 32] w fun e w' => e = .returned (.string ⟨lnA32.toArray⟩) ∧ Below w.heap.size w w' from fun w => copies_c [97] lnA32 32 w rfl (by decide) (by decide))
      have HC9 := Lib.hid (show ∀ w, Calls Tryd.prog 10 #[.string ⟨#[32]⟩, .int .i64 9] w fun e w' => e = .returned (.string ⟨lnS9.toArray⟩) ∧ Below w.heap.size w w' from fun w => copies_c [32] lnS9 9 w rfl (by decide) (by decide))
      have HCB := Lib.hid (show ∀ w, Calls Tryd.prog 10 #[.string ⟨#[98]⟩, .int .i64 33] w fun e w' => e = .returned (.string ⟨lnB33.toArray⟩) ∧ Below w.heap.size w w' from fun w => copies_c [98] lnB33 33 w rfl (by decide) (by decide))
      have HC255 := Lib.hid (show ∀ w, Calls Tryd.prog 10 #[.string ⟨#[97]⟩, .int .i64 255] w fun e w' => e = .returned (.string ⟨lnA255.toArray⟩) ∧ Below w.heap.size w w' from fun w => copies_c [97] lnA255 255 w rfl (by decide) (by decide))
      have HC256 := Lib.hid (show ∀ w, Calls Tryd.prog 10 #[.string ⟨#[97]⟩, .int .i64 256] w fun e w' => e = .returned (.string ⟨lnA256.toArray⟩) ∧ Below w.heap.size w w' from fun w => copies_c [97] lnA256 256 w rfl (by decide) (by decide))
      have z1 : ¬ 9223372036854775807 < (1 : Nat) + lnS9.length := by decide
      have z2 : ¬ 9223372036854775807 < (1 : Nat) + lnS9.length + lnB33.length := by decide
      have z3 : ¬ 9223372036854775807 < (1 : Nat) + lnA255.length := by decide
      have z4 : ¬ 9223372036854775807 < (1 : Nat) + lnA255.length + 1 := by decide
      have z5 : ¬ 9223372036854775807 < (2 : Nat) + lnA256.length := by decide
      have z6 : ¬ 9223372036854775807 < (2 : Nat) + lnA256.length + 1 := by decide
      generalize hq6 : w5.drewN _ = w6
      replace HB6 := Lib.hid (show Below w.heap.size w w6 from hq6 ▸ HB6.out _)
      clear hq6
      go_wp2_with (first
        | (go_at_call 10; (with_reducible refine (HC33.out _).mono ?_); rintro e w7 ⟨rfl, hb⟩; have HB7 := Lib.hid (Below.step HB6.out hb); clear hb)
        | (go_at_call 10; (with_reducible refine (HC32.out _).mono ?_); rintro e w8 ⟨rfl, hb⟩; have HB8 := Lib.hid (Below.step HB7.out hb); clear hb)
        | (go_at_call 10; (with_reducible refine (HC9.out _).mono ?_); rintro e w9 ⟨rfl, hb⟩; have HB9 := Lib.hid (Below.step HB8.out hb); clear hb)
        | (go_at_call 10; (with_reducible refine (HCB.out _).mono ?_); rintro e wa ⟨rfl, hb⟩; have HBa := Lib.hid (Below.step HB9.out hb); clear hb)
        | (go_at_call 10; (with_reducible refine (HC255.out _).mono ?_); rintro e wb ⟨rfl, hb⟩; have HBb := Lib.hid (Below.step HBa.out hb); clear hb)
        | (go_at_call 10; (with_reducible refine (HC256.out _).mono ?_); rintro e wc ⟨rfl, hb⟩; have HBc := Lib.hid (Below.step HBb.out hb); clear hb)
        | fail)
      clear HC33 HC32 HC9 HCB HC255 HC256 z1 z2 z3 z4 z5 z6 HB6 HB7 HB8 HB9 HBa HBb
      simp only [e_x, e_255, e_256]
      generalize hwd : wc.alloc _ = wd
      obtain ⟨T, h0⟩ : ∃ T, wd.heap[wc.heap.size]? = some (.cells arr72 T (0, 0)) := ⟨_, by rw [← hwd]; exact bx_new wc _⟩
      have HBd := Lib.hid (show Below w.heap.size w wd from by rw [← hwd]; exact Below.step HBc.out (bx1 wc _))
      have HTB := Lib.hid (show ∀ k, k < 36 → wd.cell? ⟨wc.heap.size, k * 2, none⟩ = some (.string ⟨(tab36.getD k ([], 0)).1.toArray⟩) ∧ wd.cell? ⟨wc.heap.size, k * 2 + 1, none⟩ = some (.int .i64 (tab36.getD k ([], 0)).2) from fun k hk => by
        rw [cell_of_row _ _ _ _ _ _ h0, cell_of_row _ _ _ _ _ _ h0]
        exact arr72_at k hk)
      have hbt : wc.heap.size < wd.heap.size := (Array.getElem?_eq_some_iff.1 h0).1
      clear h0 hwd HBc
      generalize wc.heap.size = bt at *
      go_loopw [182] (fun i wr => ∃ k : Nat, k ≤ 36 ∧ i = .int .i64 (k : Int) ∧ Hid (Below wd.heap.size wd wr)) (fun i _ => 36 - (intOf i).toNat)
      case atStart => exact ⟨0, by omega, rfl, Lib.hid (Below.refl _ _)⟩
      case round =>
        obtain ⟨k, hk, rfl, HBr⟩ := hrel
        by_cases hlt : k < 36
        · have i1 : (k : Int) < 36 := by omega
          obtain ⟨l, n, e, hw, hl⟩ := tab36_ok k hlt
          obtain ⟨y0, y1⟩ := HTB.out k hlt
          rw [e] at y0 y1
          simp only at y0 y1
          replace y0 := (HBr.out.cell (p := ⟨bt, k * 2, none⟩) hbt).trans y0
          replace y1 := (HBr.out.cell (p := ⟨bt, k * 2 + 1, none⟩) hbt).trans y1
          have HWR := Lib.hid (fun w' => wrong_c l n w' hw (by omega))
          have ne : (n != n) = false := by simp
          clear e hw
          go_upto_region 18 with fail
          have h0 := bx_new wr (.cells #[.string ⟨l.toArray⟩, .int .i64 n] 34)
          have HBq := Lib.hid (Below.step HBr.out (bx1 wr (.cells #[.string ⟨l.toArray⟩, .int .i64 n] 34)))
          generalize wr.alloc _ = wq at *
          generalize wr.heap.size = bq at *
          have hbq : bq < wq.heap.size := (Array.getElem?_eq_some_iff.1 h0).1
          have HSD := Lib.hid (show ∀ w', Below wq.heap.size wq w' → (w'.cell? ⟨bq, 0, none⟩ = some (.string ⟨l.toArray⟩) ∧ w'.cell? ⟨bq, 1, none⟩ = some (.int .i64 n)) from fun w' hb => ⟨(hb.cell (p := ⟨bq, 0, none⟩) hbq).trans (by rw [cell_of_row _ _ _ _ _ _ h0]; rfl), (hb.cell (p := ⟨bq, 1, none⟩) hbq).trans (by rw [cell_of_row _ _ _ _ _ _ h0]; rfl)⟩)
          have HBD := Lib.hid (Below.refl wq.heap.size wq).drew
          clear h0 y0 y1
          go_region_held3 (fun w' => w'.cell? ⟨bq, 0, none⟩ = some (.string ⟨l.toArray⟩) ∧ w'.cell? ⟨bq, 1, none⟩ = some (.int .i64 n)) (first | exact HSD.out _ (Below.refl _ _) | exact HSD.out _ HBD.out | exact HSD.out _ HC3.out | fail) (first
            | (go_at_call 11; (with_reducible refine (HWR.out _).mono ?_); rintro e w3 ⟨rfl, hb⟩; have HC3 := Lib.hid (show Below wq.heap.size wq w3 from Below.step HBD.out hb); clear hb)
            | fail)
          go_wp2_with fail
          have HB3 := Lib.hid (Below.step HBq.out HC3.out)
          exact ⟨⟨k + 1, by omega, by go_num, HB3⟩, by simp only [intOf]; omega⟩
        · obtain rfl : k = 36 := by omega
          have HBe := Lib.hid (Below.step HBd.out HBr.out)
          clear HTB hbt HBd HBr
          go_upto_region 21 with fail
          go_cut [9] (fun v9 wx => v9 = .string ⟨lnBl.toArray⟩ ∧ Hid (Below w.heap.size w wx))
          case first =>
            have hmk := fun w => mk_bytes w
            have hcv := fun w b c => cv_bytes w b c
            have HCB := Lib.hid bl_c
            have zb : ¬ 9223372036854775807 < lnBl.length := by rw [bl_len]; decide
            go_region_with (first
              | (go_at_call 10; (with_reducible refine (HCB.out _).mono ?_); rintro e w7 ⟨rfl, hb⟩; have HB7 := Lib.hid hb; clear hb)
              | fail)
            all_goals (try go_wp2_with fail)
            all_goals go_meet
            all_goals refine ⟨congrArg Value.string e_bl, ?_⟩
            all_goals first
              | exact Lib.hid (Below.step (Below.step HBe.out.drew (bx1 wr.drew _)) HB7.out)
              | exact Lib.hid (Below.step (Below.step HBe.out.drew HB7.out) (bx1 w7 _))
              | fail
          case rest =>
            obtain ⟨rfl, HBx⟩ := hcut
            have HCM := Lib.hid many_c
            have HWM := Lib.hid many_w
            have HWO := Lib.hid over_w
            have zb : ¬ 9223372036854775807 < lnMany.length + 1 := by rw [many_len]; decide
            go_wp2_with (first
              | (go_at_call 10; (with_reducible refine (HCM.out _).mono ?_); rintro e w7 ⟨rfl, hb⟩; have HB7 := Lib.hid (Below.step HBx.out hb); clear hb)
              | (go_at_call 8; (with_reducible refine (HWM.out _).mono ?_); rintro e w8 ⟨A8, c8, rfl, hb⟩; have HB8 := Lib.hid (Below.step HB7.out hb); clear hb)
              | (go_at_call 8; (with_reducible refine (HWO.out _).mono ?_); rintro e w9 ⟨A9, c9, rfl, hb⟩; have HB9 := Lib.hid (Below.step HB8.out hb); clear hb)
              | (go_at_call 12; (with_reducible refine (join_z _ (HT.out.below HB9.out)).mono ?_); rintro e wa ⟨rfl, hb⟩; have HBa := Lib.hid (Below.step HB9.out hb); clear hb)
              | (go_at_call 13; (with_reducible refine (show_z _ (HT.out.below HBa.out)).mono ?_); rintro e wb ⟨rfl, hb⟩; have HBb := Lib.hid (Below.step HBa.out hb); clear hb)
              | (go_at_call 13; (with_reducible refine (show_n _ (HT.out.below HBb.out)).mono ?_); rintro e wc ⟨rfl, hb⟩; have HBc := Lib.hid (Below.step HBb.out hb); clear hb)
              | (go_at_call 13; (with_reducible refine (show_c _ (HT.out.below HBc.out)).mono ?_); rintro e wd ⟨rfl, hb⟩; have HBd := Lib.hid (Below.step HBc.out hb); clear hb)
              | (go_at_call 13; (with_reducible refine (show_s _ (HT.out.below HBd.out)).mono ?_); rintro e we ⟨rfl, hb⟩; have HBe := Lib.hid (Below.step HBd.out hb); clear hb)
              | (go_at_call 12; (with_reducible refine (join_two _ _ _ (two_row _) ((HT.out.below HBe.out).below (bx1 we _))).mono ?_); rintro e wf ⟨rfl, hb⟩; have HBf := Lib.hid (Below.step (Below.step HBe.out (bx1 we _)) hb); clear hb)
              | fail)
            exact bodyPost_ret (v := .bool true) (by simp [results, Tryd.results3, go_sem]) rfl ⟨rfl, HBf.out⟩
end Go.Proofs.YtabncmckojlllaaDoor
