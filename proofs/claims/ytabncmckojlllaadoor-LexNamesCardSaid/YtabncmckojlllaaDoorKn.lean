/- The contract of lex.Show. -/
import Derived.Test.YtabncmckojlllaaDoorLz
import Derived.Test.YtabncmckojlllaaDoorKm
import Derived.Test.YtabncmckojlllaaDoorGh
import Derived.Test.YtabncmckojlllaaDoorNs
import Derived.Lib.ItoaLen
namespace Go.Proofs.YtabncmckojlllaaDoor
open Go.RowKit Go.Shelf
set_option linter.unusedSimpArgs false
set_option linter.unusedVariables false

/-- The laid tables that writing reads. -/
structure LexTabs (w : World) : Prop where
  tab : Tab w
  blk : 3 < w.heap.size
  db : DbTab w
theorem LexTabs.below {w w' : World} (h : LexTabs w) (hb : Below w.heap.size w w') : LexTabs w' := by
  refine ⟨?_, Nat.lt_of_lt_of_le h.blk hb.size, h.db.below hb⟩
  have ht := h.tab
  unfold Tab Lib.TabIs at *
  exact var_below hb (by kernel_rfl) h.blk ht
theorem may_textS {x : Wd} (h : mayS x) : x.text.length ≤ 1000000 := by
  by_cases h1 : x.kind = 1
  · have := h.1 h1
    unfold mayL at this
    have := (of_decide_eq_true this).2.1
    omega
  by_cases h2 : x.kind = 15
  · have := h.2.1 h2; omega
  · have := h.2.2.2.2.2.1 h1 h2; rw [this]; simp
theorem lmay_atS (kd : Nat) (fr ti : Int) (tx : List UInt8) (p0 p1 p2 p3 : Nat) (lo hi : Int) (b : Bool) (w : World) (hl : tx.length ≤ 1000000) (hm : b = true ↔ mayS ⟨kd, 0, 0, tx, p0, p1, p2, p3, lo, hi⟩) : Calls Tryd.prog 9 #[.agg #[.int .u8 (kd : Int), .int .i64 (fr : Int), .int .i64 (ti : Int), .string ⟨tx.toArray⟩, .int .u64 (p0 : Int), .int .u64 (p1 : Int), .int .u64 (p2 : Int), .int .u64 (p3 : Int), .int .i64 lo, .int .i64 hi]] w fun e w' => e = .returned (.bool b) ∧ Below w.heap.size w w' :=
  (show Calls Tryd.prog 9 _ w _ from lmay_z ⟨kd, 0, 0, tx, p0, p1, p2, p3, lo, hi⟩ fr ti w hl).mono fun e w' hp => by
    obtain ⟨⟨c, rfl, hc⟩, hp⟩ := hp
    refine ⟨?_, hp⟩
    have : c = b := by rw [Bool.eq_iff_iff, hc, hm]
    rw [this]
theorem clone_atS (tx : List UInt8) (h : tx.length ≤ 1000000) (w : World) : Calls Tryd.prog 36 #[.string ⟨tx.toArray⟩] w fun e w' => e = .returned (.string ⟨tx.toArray⟩) ∧ Below w.heap.size w w' := clone_any ⟨tx.toArray⟩ w (Nat.le_trans h (by decide))
theorem lit_atS (tx : List UInt8) (w : World) (h : tx.length ≤ 1000000) : Calls Tryd.prog 38 #[.string ⟨tx.toArray⟩] w fun e w' => e = .returned (.string ⟨(litB tx).toArray⟩) ∧ Below w.heap.size w w' := lit_any ⟨tx.toArray⟩ w h
theorem class_atS (p0 p1 p2 p3 : Nat) (h : p0 < 18446744073709551616 ∧ p1 < 18446744073709551616 ∧ p2 < 18446744073709551616 ∧ p3 < 18446744073709551616) (w : World) (ht : DbTab w) : Calls Tryd.prog 39 #[.agg #[.int .u64 (p0 : Int), .int .u64 (p1 : Int), .int .u64 (p2 : Int), .int .u64 (p3 : Int)]] w fun e w' => e = .returned (.string ⟨(classF (hasW [p0, p1, p2, p3])).toArray⟩) ∧ Below w.heap.size w w' := qclass_any p0 p1 p2 p3 h.1 h.2.1 h.2.2.1 h.2.2.2 w ht
set_option maxRecDepth 100000 in
set_option maxHeartbeats 1600000 in
theorem show_1 (fr ti : Int) (tx : List UInt8) (p0 p1 p2 p3 : Nat) (lo hi : Int) (w : World) (hm : mayS ⟨1, 0, 0, tx, p0, p1, p2, p3, lo, hi⟩) (hs : small ⟨1, 0, 0, tx, p0, p1, p2, p3, lo, hi⟩) (ht : LexTabs w) : Calls Tryd.prog 13 #[wdZ ⟨1, 0, 0, tx, p0, p1, p2, p3, lo, hi⟩ fr ti] w (TextPost (showW ⟨1, 0, 0, tx, p0, p1, p2, p3, lo, hi⟩) w) := by
  have HT := Lib.hid ht
  have HB0 := Lib.hid (bx1 w (.cells #[.int .u8 (1 : Int), .int .i64 (fr : Int), .int .i64 (ti : Int), .string ⟨tx.toArray⟩, .int .u64 (p0 : Int), .int .u64 (p1 : Int), .int .u64 (p2 : Int), .int .u64 (p3 : Int), .int .i64 lo, .int .i64 hi] 32))
  have HK0 := Lib.hid (bx_new w (.cells #[.int .u8 (1 : Int), .int .i64 (fr : Int), .int .i64 (ti : Int), .string ⟨tx.toArray⟩, .int .u64 (p0 : Int), .int .u64 (p1 : Int), .int .u64 (p2 : Int), .int .u64 (p3 : Int), .int .i64 lo, .int .i64 hi] 32))
  have HMY := Lib.hid (show ∀ w, Calls Tryd.prog 9 #[.agg #[.int .u8 1, .int .i64 (fr : Int), .int .i64 (ti : Int), .string ⟨tx.toArray⟩, .int .u64 (p0 : Int), .int .u64 (p1 : Int), .int .u64 (p2 : Int), .int .u64 (p3 : Int), .int .i64 lo, .int .i64 hi]] w fun e w' => e = .returned (.bool true) ∧ Below w.heap.size w w' from fun w => lmay_atS 1 fr ti tx p0 p1 p2 p3 lo hi true w (may_textS hm) ⟨fun _ => hm, fun _ => rfl⟩)
  have HTX := may_textS hm
  simp only at HTX
  have HRES := Lib.hid (show showW ⟨1, 0, 0, tx, p0, p1, p2, p3, lo, hi⟩ = tx from rfl)
  clear hm ht
  unfold TextPost
  rw [HRES.out]
  clear HRES
  go_enter Tryd.func13, Tryd.ntmps13
  go_wp2_with (first
    | (go_at_call 9; (with_reducible refine (HMY.out _).mono ?_); rintro e w1 ⟨rfl, hb⟩; have HB1 := Lib.hid (Below.step HB0.out hb); have HK1 := Lib.hid (bx_kept hb HK0.out); obtain ⟨t0, t1, t2, t3, t4, t5, t6, t7, t8, t9, _⟩ := blk10 HK1.out; clear hb)
    | (go_at_call 36; (with_reducible refine (clone_atS tx HTX _).mono ?_); rintro e w2 ⟨rfl, hb⟩; have HB2 := Lib.hid (Below.step HB1.out hb); clear hb)
    | fail)
  all_goals exact bodyPost_ret (v := .string ⟨tx.toArray⟩) (by simp [results, Tryd.results13, go_sem] <;> first | rfl | exact str_ext (by simp)) rfl ⟨rfl, HB2.out⟩
set_option maxRecDepth 100000 in
set_option maxHeartbeats 1600000 in
theorem show_2 (fr ti : Int) (tx : List UInt8) (p0 p1 p2 p3 : Nat) (lo hi : Int) (w : World) (hm : mayS ⟨2, 0, 0, tx, p0, p1, p2, p3, lo, hi⟩) (hs : small ⟨2, 0, 0, tx, p0, p1, p2, p3, lo, hi⟩) (ht : LexTabs w) : Calls Tryd.prog 13 #[wdZ ⟨2, 0, 0, tx, p0, p1, p2, p3, lo, hi⟩ fr ti] w (TextPost (showW ⟨2, 0, 0, tx, p0, p1, p2, p3, lo, hi⟩) w) := by
  have HT := Lib.hid ht
  have HB0 := Lib.hid (bx1 w (.cells #[.int .u8 (2 : Int), .int .i64 (fr : Int), .int .i64 (ti : Int), .string ⟨tx.toArray⟩, .int .u64 (p0 : Int), .int .u64 (p1 : Int), .int .u64 (p2 : Int), .int .u64 (p3 : Int), .int .i64 lo, .int .i64 hi] 32))
  have HK0 := Lib.hid (bx_new w (.cells #[.int .u8 (2 : Int), .int .i64 (fr : Int), .int .i64 (ti : Int), .string ⟨tx.toArray⟩, .int .u64 (p0 : Int), .int .u64 (p1 : Int), .int .u64 (p2 : Int), .int .u64 (p3 : Int), .int .i64 lo, .int .i64 hi] 32))
  have HMY := Lib.hid (show ∀ w, Calls Tryd.prog 9 #[.agg #[.int .u8 2, .int .i64 (fr : Int), .int .i64 (ti : Int), .string ⟨tx.toArray⟩, .int .u64 (p0 : Int), .int .u64 (p1 : Int), .int .u64 (p2 : Int), .int .u64 (p3 : Int), .int .i64 lo, .int .i64 hi]] w fun e w' => e = .returned (.bool true) ∧ Below w.heap.size w w' from fun w => lmay_atS 2 fr ti tx p0 p1 p2 p3 lo hi true w (may_textS hm) ⟨fun _ => hm, fun _ => rfl⟩)
  have HTX := may_textS hm
  simp only at HTX
  have HRES := Lib.hid (show showW ⟨2, 0, 0, tx, p0, p1, p2, p3, lo, hi⟩ = [60, 45] from rfl)
  clear hm ht
  unfold TextPost
  rw [HRES.out]
  clear HRES
  go_enter Tryd.func13, Tryd.ntmps13
  go_wp2_with (first
    | (go_at_call 9; (with_reducible refine (HMY.out _).mono ?_); rintro e w1 ⟨rfl, hb⟩; have HB1 := Lib.hid (Below.step HB0.out hb); have HK1 := Lib.hid (bx_kept hb HK0.out); obtain ⟨t0, t1, t2, t3, t4, t5, t6, t7, t8, t9, _⟩ := blk10 HK1.out; clear hb)
    | fail)
  all_goals exact bodyPost_ret (v := .string ⟨#[60, 45]⟩) (by simp [results, Tryd.results13, go_sem] <;> first | rfl | exact str_ext (by simp)) rfl ⟨rfl, HB1.out⟩
set_option maxRecDepth 100000 in
set_option maxHeartbeats 1600000 in
theorem show_14 (fr ti : Int) (tx : List UInt8) (p0 p1 p2 p3 : Nat) (lo hi : Int) (w : World) (hm : mayS ⟨14, 0, 0, tx, p0, p1, p2, p3, lo, hi⟩) (hs : small ⟨14, 0, 0, tx, p0, p1, p2, p3, lo, hi⟩) (ht : LexTabs w) : Calls Tryd.prog 13 #[wdZ ⟨14, 0, 0, tx, p0, p1, p2, p3, lo, hi⟩ fr ti] w (TextPost (showW ⟨14, 0, 0, tx, p0, p1, p2, p3, lo, hi⟩) w) := by
  have HT := Lib.hid ht
  have HB0 := Lib.hid (bx1 w (.cells #[.int .u8 (14 : Int), .int .i64 (fr : Int), .int .i64 (ti : Int), .string ⟨tx.toArray⟩, .int .u64 (p0 : Int), .int .u64 (p1 : Int), .int .u64 (p2 : Int), .int .u64 (p3 : Int), .int .i64 lo, .int .i64 hi] 32))
  have HK0 := Lib.hid (bx_new w (.cells #[.int .u8 (14 : Int), .int .i64 (fr : Int), .int .i64 (ti : Int), .string ⟨tx.toArray⟩, .int .u64 (p0 : Int), .int .u64 (p1 : Int), .int .u64 (p2 : Int), .int .u64 (p3 : Int), .int .i64 lo, .int .i64 hi] 32))
  have HMY := Lib.hid (show ∀ w, Calls Tryd.prog 9 #[.agg #[.int .u8 14, .int .i64 (fr : Int), .int .i64 (ti : Int), .string ⟨tx.toArray⟩, .int .u64 (p0 : Int), .int .u64 (p1 : Int), .int .u64 (p2 : Int), .int .u64 (p3 : Int), .int .i64 lo, .int .i64 hi]] w fun e w' => e = .returned (.bool true) ∧ Below w.heap.size w w' from fun w => lmay_atS 14 fr ti tx p0 p1 p2 p3 lo hi true w (may_textS hm) ⟨fun _ => hm, fun _ => rfl⟩)
  have HRES := Lib.hid (show showW ⟨14, 0, 0, tx, p0, p1, p2, p3, lo, hi⟩ = cntB lo hi from rfl)
  have hr14 := hm.2.2.1 rfl
  simp only at hr14
  obtain ⟨q0, q1, q2⟩ := hr14
  have hl1 := Lib.itoa_length_le lo (by omega) (by omega)
  have hl2 := Lib.itoa_length_le hi (by omega) (by omega)
  have z1 : ¬ 9223372036854775807 < 1 + (Lib.itoa lo).length := by omega
  have z2 : ¬ 9223372036854775807 < 1 + (Lib.itoa lo).length + 1 := by omega
  have z3 : ¬ 9223372036854775807 < 1 + (Lib.itoa lo).length + 2 := by omega
  have z4 : ¬ 9223372036854775807 < 1 + (Lib.itoa lo).length + 1 + (Lib.itoa hi).length := by omega
  have z5 : ¬ 9223372036854775807 < 1 + (Lib.itoa lo).length + 1 + (Lib.itoa hi).length + 1 := by omega
  clear hm ht
  unfold TextPost
  rw [HRES.out]
  clear HRES
  by_cases c1 : hi = lo
  · have HC := Lib.hid (show cntB lo hi = [123] ++ Lib.itoa lo ++ [125] from by unfold cntB; rw [if_pos c1])
    rw [HC.out]
    have d1 : (hi == lo) = true := by simp [c1]
    clear c1
    go_enter Tryd.func13, Tryd.ntmps13
    go_wp2_with (first
      | (go_at_call 9; (with_reducible refine (HMY.out _).mono ?_); rintro e w1 ⟨rfl, hb⟩; have HB1 := Lib.hid (Below.step HB0.out hb); have HK1 := Lib.hid (bx_kept hb HK0.out); obtain ⟨t0, t1, t2, t3, t4, t5, t6, t7, t8, t9, _⟩ := blk10 HK1.out; clear hb)
      | (go_at_call 37; (with_reducible refine (show_any lo _ (by omega) (by omega) (HT.out.below HB1.out).tab).mono ?_); rintro e w2 ⟨rfl, hb⟩; have HB2 := Lib.hid (Below.step HB1.out hb); have HK2 := Lib.hid (bx_kept hb HK1.out); clear t0 t1 t2 t3 t4 t5 t6 t7 t8 t9; obtain ⟨t0, t1, t2, t3, t4, t5, t6, t7, t8, t9, _⟩ := blk10 HK2.out; clear hb)
      | fail)
    all_goals exact bodyPost_ret (v := .string ⟨([123] ++ Lib.itoa lo ++ [125]).toArray⟩) (by simp [results, Tryd.results13, go_sem] <;> first | rfl | exact str_ext (by simp)) rfl ⟨rfl, HB2.out⟩
  have d1 : (hi == lo) = false := by simpa using c1
  by_cases c2 : hi = -1
  · have HC := Lib.hid (show cntB lo hi = [123] ++ Lib.itoa lo ++ [44, 125] from by unfold cntB; rw [if_neg c1, if_pos c2])
    rw [HC.out]
    have d2 : (hi == -1) = true := by simp [c2]
    clear c1 c2
    go_enter Tryd.func13, Tryd.ntmps13
    go_wp2_with (first
      | (go_at_call 9; (with_reducible refine (HMY.out _).mono ?_); rintro e w1 ⟨rfl, hb⟩; have HB1 := Lib.hid (Below.step HB0.out hb); have HK1 := Lib.hid (bx_kept hb HK0.out); obtain ⟨t0, t1, t2, t3, t4, t5, t6, t7, t8, t9, _⟩ := blk10 HK1.out; clear hb)
      | (go_at_call 37; (with_reducible refine (show_any lo _ (by omega) (by omega) (HT.out.below HB1.out).tab).mono ?_); rintro e w2 ⟨rfl, hb⟩; have HB2 := Lib.hid (Below.step HB1.out hb); have HK2 := Lib.hid (bx_kept hb HK1.out); clear t0 t1 t2 t3 t4 t5 t6 t7 t8 t9; obtain ⟨t0, t1, t2, t3, t4, t5, t6, t7, t8, t9, _⟩ := blk10 HK2.out; clear hb)
      | fail)
    all_goals exact bodyPost_ret (v := .string ⟨([123] ++ Lib.itoa lo ++ [44, 125]).toArray⟩) (by simp [results, Tryd.results13, go_sem] <;> first | rfl | exact str_ext (by simp)) rfl ⟨rfl, HB2.out⟩
  have d2 : (hi == -1) = false := by simpa using c2
  have HC := Lib.hid (show cntB lo hi = [123] ++ Lib.itoa lo ++ [44] ++ Lib.itoa hi ++ [125] from by unfold cntB; rw [if_neg c1, if_neg c2])
  rw [HC.out]
  clear c1 c2
  go_enter Tryd.func13, Tryd.ntmps13
  go_upto_region 14 with (first
      | (go_at_call 9; (with_reducible refine (HMY.out _).mono ?_); rintro e w1 ⟨rfl, hb⟩; have HB1 := Lib.hid (Below.step HB0.out hb); have HK1 := Lib.hid (bx_kept hb HK0.out); obtain ⟨t0, t1, t2, t3, t4, t5, t6, t7, t8, t9, _⟩ := blk10 HK1.out; clear hb)
      | fail)
  have HSC := Lib.hid (show ∀ w', Below w1.heap.size w1 w' → w'.cell? ⟨w.heap.size, 8, none⟩ = some (.int .i64 lo) ∧ w'.cell? ⟨w.heap.size, 9, none⟩ = some (.int .i64 hi) from fun w' hb => by
    obtain ⟨_, _, _, _, _, _, _, _, a8, a9, _⟩ := blk10 (bx_kept hb HK1.out); exact ⟨a8, a9⟩)
  have HBD := Lib.hid (Below.refl w1.heap.size w1).drew
  go_region_held3 (fun w' => w'.cell? ⟨w.heap.size, 8, none⟩ = some (.int .i64 lo) ∧ w'.cell? ⟨w.heap.size, 9, none⟩ = some (.int .i64 hi)) (first | exact HSC.out _ (Below.refl _ _) | exact HSC.out _ HBD.out | exact HSC.out _ HB2.out | exact HSC.out _ HB3.out | fail) (first
    | (go_at_call 37; (with_reducible refine (show_any lo _ (by omega) (by omega) ((HT.out.below HB1.out).below HBD.out).tab).mono ?_); rintro e w2 ⟨rfl, hb⟩; have HB2 := Lib.hid (show Below w1.heap.size w1 w2 from Below.step HBD.out hb); clear hb)
    | (go_at_call 37; (with_reducible refine (show_any hi _ (by omega) (by omega) ((HT.out.below HB1.out).below HB2.out).tab).mono ?_); rintro e w3 ⟨rfl, hb⟩; have HB3 := Lib.hid (show Below w1.heap.size w1 w3 from Below.step HB2.out hb); clear hb)
    | fail)
  go_wp2_with fail
  all_goals exact bodyPost_ret (v := .string ⟨([123] ++ Lib.itoa lo ++ [44] ++ Lib.itoa hi ++ [125]).toArray⟩) (by simp [results, Tryd.results13, go_sem] <;> first | rfl | exact str_ext (by simp)) rfl ⟨rfl, Below.step HB1.out HB3.out⟩
set_option maxRecDepth 100000 in
set_option maxHeartbeats 1600000 in
theorem show_15 (fr ti : Int) (tx : List UInt8) (p0 p1 p2 p3 : Nat) (lo hi : Int) (w : World) (hm : mayS ⟨15, 0, 0, tx, p0, p1, p2, p3, lo, hi⟩) (hs : small ⟨15, 0, 0, tx, p0, p1, p2, p3, lo, hi⟩) (ht : LexTabs w) : Calls Tryd.prog 13 #[wdZ ⟨15, 0, 0, tx, p0, p1, p2, p3, lo, hi⟩ fr ti] w (TextPost (showW ⟨15, 0, 0, tx, p0, p1, p2, p3, lo, hi⟩) w) := by
  have HT := Lib.hid ht
  have HB0 := Lib.hid (bx1 w (.cells #[.int .u8 (15 : Int), .int .i64 (fr : Int), .int .i64 (ti : Int), .string ⟨tx.toArray⟩, .int .u64 (p0 : Int), .int .u64 (p1 : Int), .int .u64 (p2 : Int), .int .u64 (p3 : Int), .int .i64 lo, .int .i64 hi] 32))
  have HK0 := Lib.hid (bx_new w (.cells #[.int .u8 (15 : Int), .int .i64 (fr : Int), .int .i64 (ti : Int), .string ⟨tx.toArray⟩, .int .u64 (p0 : Int), .int .u64 (p1 : Int), .int .u64 (p2 : Int), .int .u64 (p3 : Int), .int .i64 lo, .int .i64 hi] 32))
  have HMY := Lib.hid (show ∀ w, Calls Tryd.prog 9 #[.agg #[.int .u8 15, .int .i64 (fr : Int), .int .i64 (ti : Int), .string ⟨tx.toArray⟩, .int .u64 (p0 : Int), .int .u64 (p1 : Int), .int .u64 (p2 : Int), .int .u64 (p3 : Int), .int .i64 lo, .int .i64 hi]] w fun e w' => e = .returned (.bool true) ∧ Below w.heap.size w w' from fun w => lmay_atS 15 fr ti tx p0 p1 p2 p3 lo hi true w (may_textS hm) ⟨fun _ => hm, fun _ => rfl⟩)
  have HTX := may_textS hm
  simp only at HTX
  have HRES := Lib.hid (show showW ⟨15, 0, 0, tx, p0, p1, p2, p3, lo, hi⟩ = litB tx from rfl)
  clear hm ht
  unfold TextPost
  rw [HRES.out]
  clear HRES
  go_enter Tryd.func13, Tryd.ntmps13
  go_wp2_with (first
    | (go_at_call 9; (with_reducible refine (HMY.out _).mono ?_); rintro e w1 ⟨rfl, hb⟩; have HB1 := Lib.hid (Below.step HB0.out hb); have HK1 := Lib.hid (bx_kept hb HK0.out); obtain ⟨t0, t1, t2, t3, t4, t5, t6, t7, t8, t9, _⟩ := blk10 HK1.out; clear hb)
    | (go_at_call 38; (with_reducible refine (lit_atS tx _ (by omega)).mono ?_); rintro e w2 ⟨rfl, hb⟩; have HB2 := Lib.hid (Below.step HB1.out hb); clear hb)
    | fail)
  all_goals exact bodyPost_ret (v := .string ⟨(litB tx).toArray⟩) (by simp [results, Tryd.results13, go_sem] <;> first | rfl | exact str_ext (by simp)) rfl ⟨rfl, HB2.out⟩
set_option maxRecDepth 100000 in
set_option maxHeartbeats 1600000 in
theorem show_16 (fr ti : Int) (tx : List UInt8) (p0 p1 p2 p3 : Nat) (lo hi : Int) (w : World) (hm : mayS ⟨16, 0, 0, tx, p0, p1, p2, p3, lo, hi⟩) (hs : small ⟨16, 0, 0, tx, p0, p1, p2, p3, lo, hi⟩) (ht : LexTabs w) : Calls Tryd.prog 13 #[wdZ ⟨16, 0, 0, tx, p0, p1, p2, p3, lo, hi⟩ fr ti] w (TextPost (showW ⟨16, 0, 0, tx, p0, p1, p2, p3, lo, hi⟩) w) := by
  have HT := Lib.hid ht
  have HB0 := Lib.hid (bx1 w (.cells #[.int .u8 (16 : Int), .int .i64 (fr : Int), .int .i64 (ti : Int), .string ⟨tx.toArray⟩, .int .u64 (p0 : Int), .int .u64 (p1 : Int), .int .u64 (p2 : Int), .int .u64 (p3 : Int), .int .i64 lo, .int .i64 hi] 32))
  have HK0 := Lib.hid (bx_new w (.cells #[.int .u8 (16 : Int), .int .i64 (fr : Int), .int .i64 (ti : Int), .string ⟨tx.toArray⟩, .int .u64 (p0 : Int), .int .u64 (p1 : Int), .int .u64 (p2 : Int), .int .u64 (p3 : Int), .int .i64 lo, .int .i64 hi] 32))
  have HMY := Lib.hid (show ∀ w, Calls Tryd.prog 9 #[.agg #[.int .u8 16, .int .i64 (fr : Int), .int .i64 (ti : Int), .string ⟨tx.toArray⟩, .int .u64 (p0 : Int), .int .u64 (p1 : Int), .int .u64 (p2 : Int), .int .u64 (p3 : Int), .int .i64 lo, .int .i64 hi]] w fun e w' => e = .returned (.bool true) ∧ Below w.heap.size w w' from fun w => lmay_atS 16 fr ti tx p0 p1 p2 p3 lo hi true w (may_textS hm) ⟨fun _ => hm, fun _ => rfl⟩)
  have HTX := may_textS hm
  simp only at HTX
  have HRES := Lib.hid (show showW ⟨16, 0, 0, tx, p0, p1, p2, p3, lo, hi⟩ = classF (hasW [p0, p1, p2, p3]) from rfl)
  have HSM := Lib.hid (show p0 < 18446744073709551616 ∧ p1 < 18446744073709551616 ∧ p2 < 18446744073709551616 ∧ p3 < 18446744073709551616 from hs)
  clear hm ht
  unfold TextPost
  rw [HRES.out]
  clear HRES
  go_enter Tryd.func13, Tryd.ntmps13
  go_wp2_with (first
    | (go_at_call 9; (with_reducible refine (HMY.out _).mono ?_); rintro e w1 ⟨rfl, hb⟩; have HB1 := Lib.hid (Below.step HB0.out hb); have HK1 := Lib.hid (bx_kept hb HK0.out); obtain ⟨t0, t1, t2, t3, t4, t5, t6, t7, t8, t9, _⟩ := blk10 HK1.out; clear hb)
    | (go_at_call 39; (with_reducible refine (class_atS p0 p1 p2 p3 HSM.out _ (HT.out.below HB1.out).db).mono ?_); rintro e w2 ⟨rfl, hb⟩; have HB2 := Lib.hid (Below.step HB1.out hb); clear hb)
    | fail)
  all_goals exact bodyPost_ret (v := .string ⟨(classF (hasW [p0, p1, p2, p3])).toArray⟩) (by simp [results, Tryd.results13, go_sem] <;> first | rfl | exact str_ext (by simp)) rfl ⟨rfl, HB2.out⟩
set_option maxRecDepth 100000 in
set_option maxHeartbeats 1600000 in
theorem show_3 (fr ti : Int) (tx : List UInt8) (p0 p1 p2 p3 : Nat) (lo hi : Int) (w : World) (hm : mayS ⟨3, 0, 0, tx, p0, p1, p2, p3, lo, hi⟩) (hs : small ⟨3, 0, 0, tx, p0, p1, p2, p3, lo, hi⟩) (ht : LexTabs w) : Calls Tryd.prog 13 #[wdZ ⟨3, 0, 0, tx, p0, p1, p2, p3, lo, hi⟩ fr ti] w (TextPost (showW ⟨3, 0, 0, tx, p0, p1, p2, p3, lo, hi⟩) w) := by
  have HT := Lib.hid ht
  have HB0 := Lib.hid (bx1 w (.cells #[.int .u8 (3 : Int), .int .i64 (fr : Int), .int .i64 (ti : Int), .string ⟨tx.toArray⟩, .int .u64 (p0 : Int), .int .u64 (p1 : Int), .int .u64 (p2 : Int), .int .u64 (p3 : Int), .int .i64 lo, .int .i64 hi] 32))
  have HK0 := Lib.hid (bx_new w (.cells #[.int .u8 (3 : Int), .int .i64 (fr : Int), .int .i64 (ti : Int), .string ⟨tx.toArray⟩, .int .u64 (p0 : Int), .int .u64 (p1 : Int), .int .u64 (p2 : Int), .int .u64 (p3 : Int), .int .i64 lo, .int .i64 hi] 32))
  have HMY := Lib.hid (show ∀ w, Calls Tryd.prog 9 #[.agg #[.int .u8 3, .int .i64 (fr : Int), .int .i64 (ti : Int), .string ⟨tx.toArray⟩, .int .u64 (p0 : Int), .int .u64 (p1 : Int), .int .u64 (p2 : Int), .int .u64 (p3 : Int), .int .i64 lo, .int .i64 hi]] w fun e w' => e = .returned (.bool true) ∧ Below w.heap.size w w' from fun w => lmay_atS 3 fr ti tx p0 p1 p2 p3 lo hi true w (may_textS hm) ⟨fun _ => hm, fun _ => rfl⟩)
  have HTX := may_textS hm
  simp only at HTX
  have HRES := Lib.hid (show showW ⟨3, 0, 0, tx, p0, p1, p2, p3, lo, hi⟩ = [47] from rfl)
  clear hm ht
  unfold TextPost
  rw [HRES.out]
  clear HRES
  go_enter Tryd.func13, Tryd.ntmps13
  go_wp2_with (first
    | (go_at_call 9; (with_reducible refine (HMY.out _).mono ?_); rintro e w1 ⟨rfl, hb⟩; have HB1 := Lib.hid (Below.step HB0.out hb); have HK1 := Lib.hid (bx_kept hb HK0.out); obtain ⟨t0, t1, t2, t3, t4, t5, t6, t7, t8, t9, _⟩ := blk10 HK1.out; clear hb)
    | fail)
  all_goals exact bodyPost_ret (v := .string ⟨#[47]⟩) (by simp [results, Tryd.results13, go_sem] <;> first | rfl | exact str_ext (by simp)) rfl ⟨rfl, HB1.out⟩
set_option maxRecDepth 100000 in
set_option maxHeartbeats 1600000 in
theorem show_4 (fr ti : Int) (tx : List UInt8) (p0 p1 p2 p3 : Nat) (lo hi : Int) (w : World) (hm : mayS ⟨4, 0, 0, tx, p0, p1, p2, p3, lo, hi⟩) (hs : small ⟨4, 0, 0, tx, p0, p1, p2, p3, lo, hi⟩) (ht : LexTabs w) : Calls Tryd.prog 13 #[wdZ ⟨4, 0, 0, tx, p0, p1, p2, p3, lo, hi⟩ fr ti] w (TextPost (showW ⟨4, 0, 0, tx, p0, p1, p2, p3, lo, hi⟩) w) := by
  have HT := Lib.hid ht
  have HB0 := Lib.hid (bx1 w (.cells #[.int .u8 (4 : Int), .int .i64 (fr : Int), .int .i64 (ti : Int), .string ⟨tx.toArray⟩, .int .u64 (p0 : Int), .int .u64 (p1 : Int), .int .u64 (p2 : Int), .int .u64 (p3 : Int), .int .i64 lo, .int .i64 hi] 32))
  have HK0 := Lib.hid (bx_new w (.cells #[.int .u8 (4 : Int), .int .i64 (fr : Int), .int .i64 (ti : Int), .string ⟨tx.toArray⟩, .int .u64 (p0 : Int), .int .u64 (p1 : Int), .int .u64 (p2 : Int), .int .u64 (p3 : Int), .int .i64 lo, .int .i64 hi] 32))
  have HMY := Lib.hid (show ∀ w, Calls Tryd.prog 9 #[.agg #[.int .u8 4, .int .i64 (fr : Int), .int .i64 (ti : Int), .string ⟨tx.toArray⟩, .int .u64 (p0 : Int), .int .u64 (p1 : Int), .int .u64 (p2 : Int), .int .u64 (p3 : Int), .int .i64 lo, .int .i64 hi]] w fun e w' => e = .returned (.bool true) ∧ Below w.heap.size w w' from fun w => lmay_atS 4 fr ti tx p0 p1 p2 p3 lo hi true w (may_textS hm) ⟨fun _ => hm, fun _ => rfl⟩)
  have HTX := may_textS hm
  simp only at HTX
  have HRES := Lib.hid (show showW ⟨4, 0, 0, tx, p0, p1, p2, p3, lo, hi⟩ = [38] from rfl)
  clear hm ht
  unfold TextPost
  rw [HRES.out]
  clear HRES
  go_enter Tryd.func13, Tryd.ntmps13
  go_wp2_with (first
    | (go_at_call 9; (with_reducible refine (HMY.out _).mono ?_); rintro e w1 ⟨rfl, hb⟩; have HB1 := Lib.hid (Below.step HB0.out hb); have HK1 := Lib.hid (bx_kept hb HK0.out); obtain ⟨t0, t1, t2, t3, t4, t5, t6, t7, t8, t9, _⟩ := blk10 HK1.out; clear hb)
    | fail)
  all_goals exact bodyPost_ret (v := .string ⟨#[38]⟩) (by simp [results, Tryd.results13, go_sem] <;> first | rfl | exact str_ext (by simp)) rfl ⟨rfl, HB1.out⟩
set_option maxRecDepth 100000 in
set_option maxHeartbeats 1600000 in
theorem show_5 (fr ti : Int) (tx : List UInt8) (p0 p1 p2 p3 : Nat) (lo hi : Int) (w : World) (hm : mayS ⟨5, 0, 0, tx, p0, p1, p2, p3, lo, hi⟩) (hs : small ⟨5, 0, 0, tx, p0, p1, p2, p3, lo, hi⟩) (ht : LexTabs w) : Calls Tryd.prog 13 #[wdZ ⟨5, 0, 0, tx, p0, p1, p2, p3, lo, hi⟩ fr ti] w (TextPost (showW ⟨5, 0, 0, tx, p0, p1, p2, p3, lo, hi⟩) w) := by
  have HT := Lib.hid ht
  have HB0 := Lib.hid (bx1 w (.cells #[.int .u8 (5 : Int), .int .i64 (fr : Int), .int .i64 (ti : Int), .string ⟨tx.toArray⟩, .int .u64 (p0 : Int), .int .u64 (p1 : Int), .int .u64 (p2 : Int), .int .u64 (p3 : Int), .int .i64 lo, .int .i64 hi] 32))
  have HK0 := Lib.hid (bx_new w (.cells #[.int .u8 (5 : Int), .int .i64 (fr : Int), .int .i64 (ti : Int), .string ⟨tx.toArray⟩, .int .u64 (p0 : Int), .int .u64 (p1 : Int), .int .u64 (p2 : Int), .int .u64 (p3 : Int), .int .i64 lo, .int .i64 hi] 32))
  have HMY := Lib.hid (show ∀ w, Calls Tryd.prog 9 #[.agg #[.int .u8 5, .int .i64 (fr : Int), .int .i64 (ti : Int), .string ⟨tx.toArray⟩, .int .u64 (p0 : Int), .int .u64 (p1 : Int), .int .u64 (p2 : Int), .int .u64 (p3 : Int), .int .i64 lo, .int .i64 hi]] w fun e w' => e = .returned (.bool true) ∧ Below w.heap.size w w' from fun w => lmay_atS 5 fr ti tx p0 p1 p2 p3 lo hi true w (may_textS hm) ⟨fun _ => hm, fun _ => rfl⟩)
  have HTX := may_textS hm
  simp only at HTX
  have HRES := Lib.hid (show showW ⟨5, 0, 0, tx, p0, p1, p2, p3, lo, hi⟩ = [33] from rfl)
  clear hm ht
  unfold TextPost
  rw [HRES.out]
  clear HRES
  go_enter Tryd.func13, Tryd.ntmps13
  go_wp2_with (first
    | (go_at_call 9; (with_reducible refine (HMY.out _).mono ?_); rintro e w1 ⟨rfl, hb⟩; have HB1 := Lib.hid (Below.step HB0.out hb); have HK1 := Lib.hid (bx_kept hb HK0.out); obtain ⟨t0, t1, t2, t3, t4, t5, t6, t7, t8, t9, _⟩ := blk10 HK1.out; clear hb)
    | fail)
  all_goals exact bodyPost_ret (v := .string ⟨#[33]⟩) (by simp [results, Tryd.results13, go_sem] <;> first | rfl | exact str_ext (by simp)) rfl ⟨rfl, HB1.out⟩
set_option maxRecDepth 100000 in
set_option maxHeartbeats 1600000 in
theorem show_6 (fr ti : Int) (tx : List UInt8) (p0 p1 p2 p3 : Nat) (lo hi : Int) (w : World) (hm : mayS ⟨6, 0, 0, tx, p0, p1, p2, p3, lo, hi⟩) (hs : small ⟨6, 0, 0, tx, p0, p1, p2, p3, lo, hi⟩) (ht : LexTabs w) : Calls Tryd.prog 13 #[wdZ ⟨6, 0, 0, tx, p0, p1, p2, p3, lo, hi⟩ fr ti] w (TextPost (showW ⟨6, 0, 0, tx, p0, p1, p2, p3, lo, hi⟩) w) := by
  have HT := Lib.hid ht
  have HB0 := Lib.hid (bx1 w (.cells #[.int .u8 (6 : Int), .int .i64 (fr : Int), .int .i64 (ti : Int), .string ⟨tx.toArray⟩, .int .u64 (p0 : Int), .int .u64 (p1 : Int), .int .u64 (p2 : Int), .int .u64 (p3 : Int), .int .i64 lo, .int .i64 hi] 32))
  have HK0 := Lib.hid (bx_new w (.cells #[.int .u8 (6 : Int), .int .i64 (fr : Int), .int .i64 (ti : Int), .string ⟨tx.toArray⟩, .int .u64 (p0 : Int), .int .u64 (p1 : Int), .int .u64 (p2 : Int), .int .u64 (p3 : Int), .int .i64 lo, .int .i64 hi] 32))
  have HMY := Lib.hid (show ∀ w, Calls Tryd.prog 9 #[.agg #[.int .u8 6, .int .i64 (fr : Int), .int .i64 (ti : Int), .string ⟨tx.toArray⟩, .int .u64 (p0 : Int), .int .u64 (p1 : Int), .int .u64 (p2 : Int), .int .u64 (p3 : Int), .int .i64 lo, .int .i64 hi]] w fun e w' => e = .returned (.bool true) ∧ Below w.heap.size w w' from fun w => lmay_atS 6 fr ti tx p0 p1 p2 p3 lo hi true w (may_textS hm) ⟨fun _ => hm, fun _ => rfl⟩)
  have HTX := may_textS hm
  simp only at HTX
  have HRES := Lib.hid (show showW ⟨6, 0, 0, tx, p0, p1, p2, p3, lo, hi⟩ = [63] from rfl)
  clear hm ht
  unfold TextPost
  rw [HRES.out]
  clear HRES
  go_enter Tryd.func13, Tryd.ntmps13
  go_wp2_with (first
    | (go_at_call 9; (with_reducible refine (HMY.out _).mono ?_); rintro e w1 ⟨rfl, hb⟩; have HB1 := Lib.hid (Below.step HB0.out hb); have HK1 := Lib.hid (bx_kept hb HK0.out); obtain ⟨t0, t1, t2, t3, t4, t5, t6, t7, t8, t9, _⟩ := blk10 HK1.out; clear hb)
    | fail)
  all_goals exact bodyPost_ret (v := .string ⟨#[63]⟩) (by simp [results, Tryd.results13, go_sem] <;> first | rfl | exact str_ext (by simp)) rfl ⟨rfl, HB1.out⟩
set_option maxRecDepth 100000 in
set_option maxHeartbeats 1600000 in
theorem show_7 (fr ti : Int) (tx : List UInt8) (p0 p1 p2 p3 : Nat) (lo hi : Int) (w : World) (hm : mayS ⟨7, 0, 0, tx, p0, p1, p2, p3, lo, hi⟩) (hs : small ⟨7, 0, 0, tx, p0, p1, p2, p3, lo, hi⟩) (ht : LexTabs w) : Calls Tryd.prog 13 #[wdZ ⟨7, 0, 0, tx, p0, p1, p2, p3, lo, hi⟩ fr ti] w (TextPost (showW ⟨7, 0, 0, tx, p0, p1, p2, p3, lo, hi⟩) w) := by
  have HT := Lib.hid ht
  have HB0 := Lib.hid (bx1 w (.cells #[.int .u8 (7 : Int), .int .i64 (fr : Int), .int .i64 (ti : Int), .string ⟨tx.toArray⟩, .int .u64 (p0 : Int), .int .u64 (p1 : Int), .int .u64 (p2 : Int), .int .u64 (p3 : Int), .int .i64 lo, .int .i64 hi] 32))
  have HK0 := Lib.hid (bx_new w (.cells #[.int .u8 (7 : Int), .int .i64 (fr : Int), .int .i64 (ti : Int), .string ⟨tx.toArray⟩, .int .u64 (p0 : Int), .int .u64 (p1 : Int), .int .u64 (p2 : Int), .int .u64 (p3 : Int), .int .i64 lo, .int .i64 hi] 32))
  have HMY := Lib.hid (show ∀ w, Calls Tryd.prog 9 #[.agg #[.int .u8 7, .int .i64 (fr : Int), .int .i64 (ti : Int), .string ⟨tx.toArray⟩, .int .u64 (p0 : Int), .int .u64 (p1 : Int), .int .u64 (p2 : Int), .int .u64 (p3 : Int), .int .i64 lo, .int .i64 hi]] w fun e w' => e = .returned (.bool true) ∧ Below w.heap.size w w' from fun w => lmay_atS 7 fr ti tx p0 p1 p2 p3 lo hi true w (may_textS hm) ⟨fun _ => hm, fun _ => rfl⟩)
  have HTX := may_textS hm
  simp only at HTX
  have HRES := Lib.hid (show showW ⟨7, 0, 0, tx, p0, p1, p2, p3, lo, hi⟩ = [42] from rfl)
  clear hm ht
  unfold TextPost
  rw [HRES.out]
  clear HRES
  go_enter Tryd.func13, Tryd.ntmps13
  go_wp2_with (first
    | (go_at_call 9; (with_reducible refine (HMY.out _).mono ?_); rintro e w1 ⟨rfl, hb⟩; have HB1 := Lib.hid (Below.step HB0.out hb); have HK1 := Lib.hid (bx_kept hb HK0.out); obtain ⟨t0, t1, t2, t3, t4, t5, t6, t7, t8, t9, _⟩ := blk10 HK1.out; clear hb)
    | fail)
  all_goals exact bodyPost_ret (v := .string ⟨#[42]⟩) (by simp [results, Tryd.results13, go_sem] <;> first | rfl | exact str_ext (by simp)) rfl ⟨rfl, HB1.out⟩
set_option maxRecDepth 100000 in
set_option maxHeartbeats 1600000 in
theorem show_8 (fr ti : Int) (tx : List UInt8) (p0 p1 p2 p3 : Nat) (lo hi : Int) (w : World) (hm : mayS ⟨8, 0, 0, tx, p0, p1, p2, p3, lo, hi⟩) (hs : small ⟨8, 0, 0, tx, p0, p1, p2, p3, lo, hi⟩) (ht : LexTabs w) : Calls Tryd.prog 13 #[wdZ ⟨8, 0, 0, tx, p0, p1, p2, p3, lo, hi⟩ fr ti] w (TextPost (showW ⟨8, 0, 0, tx, p0, p1, p2, p3, lo, hi⟩) w) := by
  have HT := Lib.hid ht
  have HB0 := Lib.hid (bx1 w (.cells #[.int .u8 (8 : Int), .int .i64 (fr : Int), .int .i64 (ti : Int), .string ⟨tx.toArray⟩, .int .u64 (p0 : Int), .int .u64 (p1 : Int), .int .u64 (p2 : Int), .int .u64 (p3 : Int), .int .i64 lo, .int .i64 hi] 32))
  have HK0 := Lib.hid (bx_new w (.cells #[.int .u8 (8 : Int), .int .i64 (fr : Int), .int .i64 (ti : Int), .string ⟨tx.toArray⟩, .int .u64 (p0 : Int), .int .u64 (p1 : Int), .int .u64 (p2 : Int), .int .u64 (p3 : Int), .int .i64 lo, .int .i64 hi] 32))
  have HMY := Lib.hid (show ∀ w, Calls Tryd.prog 9 #[.agg #[.int .u8 8, .int .i64 (fr : Int), .int .i64 (ti : Int), .string ⟨tx.toArray⟩, .int .u64 (p0 : Int), .int .u64 (p1 : Int), .int .u64 (p2 : Int), .int .u64 (p3 : Int), .int .i64 lo, .int .i64 hi]] w fun e w' => e = .returned (.bool true) ∧ Below w.heap.size w w' from fun w => lmay_atS 8 fr ti tx p0 p1 p2 p3 lo hi true w (may_textS hm) ⟨fun _ => hm, fun _ => rfl⟩)
  have HTX := may_textS hm
  simp only at HTX
  have HRES := Lib.hid (show showW ⟨8, 0, 0, tx, p0, p1, p2, p3, lo, hi⟩ = [43] from rfl)
  clear hm ht
  unfold TextPost
  rw [HRES.out]
  clear HRES
  go_enter Tryd.func13, Tryd.ntmps13
  go_wp2_with (first
    | (go_at_call 9; (with_reducible refine (HMY.out _).mono ?_); rintro e w1 ⟨rfl, hb⟩; have HB1 := Lib.hid (Below.step HB0.out hb); have HK1 := Lib.hid (bx_kept hb HK0.out); obtain ⟨t0, t1, t2, t3, t4, t5, t6, t7, t8, t9, _⟩ := blk10 HK1.out; clear hb)
    | fail)
  all_goals exact bodyPost_ret (v := .string ⟨#[43]⟩) (by simp [results, Tryd.results13, go_sem] <;> first | rfl | exact str_ext (by simp)) rfl ⟨rfl, HB1.out⟩
set_option maxRecDepth 100000 in
set_option maxHeartbeats 1600000 in
theorem show_9 (fr ti : Int) (tx : List UInt8) (p0 p1 p2 p3 : Nat) (lo hi : Int) (w : World) (hm : mayS ⟨9, 0, 0, tx, p0, p1, p2, p3, lo, hi⟩) (hs : small ⟨9, 0, 0, tx, p0, p1, p2, p3, lo, hi⟩) (ht : LexTabs w) : Calls Tryd.prog 13 #[wdZ ⟨9, 0, 0, tx, p0, p1, p2, p3, lo, hi⟩ fr ti] w (TextPost (showW ⟨9, 0, 0, tx, p0, p1, p2, p3, lo, hi⟩) w) := by
  have HT := Lib.hid ht
  have HB0 := Lib.hid (bx1 w (.cells #[.int .u8 (9 : Int), .int .i64 (fr : Int), .int .i64 (ti : Int), .string ⟨tx.toArray⟩, .int .u64 (p0 : Int), .int .u64 (p1 : Int), .int .u64 (p2 : Int), .int .u64 (p3 : Int), .int .i64 lo, .int .i64 hi] 32))
  have HK0 := Lib.hid (bx_new w (.cells #[.int .u8 (9 : Int), .int .i64 (fr : Int), .int .i64 (ti : Int), .string ⟨tx.toArray⟩, .int .u64 (p0 : Int), .int .u64 (p1 : Int), .int .u64 (p2 : Int), .int .u64 (p3 : Int), .int .i64 lo, .int .i64 hi] 32))
  have HMY := Lib.hid (show ∀ w, Calls Tryd.prog 9 #[.agg #[.int .u8 9, .int .i64 (fr : Int), .int .i64 (ti : Int), .string ⟨tx.toArray⟩, .int .u64 (p0 : Int), .int .u64 (p1 : Int), .int .u64 (p2 : Int), .int .u64 (p3 : Int), .int .i64 lo, .int .i64 hi]] w fun e w' => e = .returned (.bool true) ∧ Below w.heap.size w w' from fun w => lmay_atS 9 fr ti tx p0 p1 p2 p3 lo hi true w (may_textS hm) ⟨fun _ => hm, fun _ => rfl⟩)
  have HTX := may_textS hm
  simp only at HTX
  have HRES := Lib.hid (show showW ⟨9, 0, 0, tx, p0, p1, p2, p3, lo, hi⟩ = [40] from rfl)
  clear hm ht
  unfold TextPost
  rw [HRES.out]
  clear HRES
  go_enter Tryd.func13, Tryd.ntmps13
  go_wp2_with (first
    | (go_at_call 9; (with_reducible refine (HMY.out _).mono ?_); rintro e w1 ⟨rfl, hb⟩; have HB1 := Lib.hid (Below.step HB0.out hb); have HK1 := Lib.hid (bx_kept hb HK0.out); obtain ⟨t0, t1, t2, t3, t4, t5, t6, t7, t8, t9, _⟩ := blk10 HK1.out; clear hb)
    | fail)
  all_goals exact bodyPost_ret (v := .string ⟨#[40]⟩) (by simp [results, Tryd.results13, go_sem] <;> first | rfl | exact str_ext (by simp)) rfl ⟨rfl, HB1.out⟩
set_option maxRecDepth 100000 in
set_option maxHeartbeats 1600000 in
theorem show_10 (fr ti : Int) (tx : List UInt8) (p0 p1 p2 p3 : Nat) (lo hi : Int) (w : World) (hm : mayS ⟨10, 0, 0, tx, p0, p1, p2, p3, lo, hi⟩) (hs : small ⟨10, 0, 0, tx, p0, p1, p2, p3, lo, hi⟩) (ht : LexTabs w) : Calls Tryd.prog 13 #[wdZ ⟨10, 0, 0, tx, p0, p1, p2, p3, lo, hi⟩ fr ti] w (TextPost (showW ⟨10, 0, 0, tx, p0, p1, p2, p3, lo, hi⟩) w) := by
  have HT := Lib.hid ht
  have HB0 := Lib.hid (bx1 w (.cells #[.int .u8 (10 : Int), .int .i64 (fr : Int), .int .i64 (ti : Int), .string ⟨tx.toArray⟩, .int .u64 (p0 : Int), .int .u64 (p1 : Int), .int .u64 (p2 : Int), .int .u64 (p3 : Int), .int .i64 lo, .int .i64 hi] 32))
  have HK0 := Lib.hid (bx_new w (.cells #[.int .u8 (10 : Int), .int .i64 (fr : Int), .int .i64 (ti : Int), .string ⟨tx.toArray⟩, .int .u64 (p0 : Int), .int .u64 (p1 : Int), .int .u64 (p2 : Int), .int .u64 (p3 : Int), .int .i64 lo, .int .i64 hi] 32))
  have HMY := Lib.hid (show ∀ w, Calls Tryd.prog 9 #[.agg #[.int .u8 10, .int .i64 (fr : Int), .int .i64 (ti : Int), .string ⟨tx.toArray⟩, .int .u64 (p0 : Int), .int .u64 (p1 : Int), .int .u64 (p2 : Int), .int .u64 (p3 : Int), .int .i64 lo, .int .i64 hi]] w fun e w' => e = .returned (.bool true) ∧ Below w.heap.size w w' from fun w => lmay_atS 10 fr ti tx p0 p1 p2 p3 lo hi true w (may_textS hm) ⟨fun _ => hm, fun _ => rfl⟩)
  have HTX := may_textS hm
  simp only at HTX
  have HRES := Lib.hid (show showW ⟨10, 0, 0, tx, p0, p1, p2, p3, lo, hi⟩ = [41] from rfl)
  clear hm ht
  unfold TextPost
  rw [HRES.out]
  clear HRES
  go_enter Tryd.func13, Tryd.ntmps13
  go_wp2_with (first
    | (go_at_call 9; (with_reducible refine (HMY.out _).mono ?_); rintro e w1 ⟨rfl, hb⟩; have HB1 := Lib.hid (Below.step HB0.out hb); have HK1 := Lib.hid (bx_kept hb HK0.out); obtain ⟨t0, t1, t2, t3, t4, t5, t6, t7, t8, t9, _⟩ := blk10 HK1.out; clear hb)
    | fail)
  all_goals exact bodyPost_ret (v := .string ⟨#[41]⟩) (by simp [results, Tryd.results13, go_sem] <;> first | rfl | exact str_ext (by simp)) rfl ⟨rfl, HB1.out⟩
set_option maxRecDepth 100000 in
set_option maxHeartbeats 1600000 in
theorem show_11 (fr ti : Int) (tx : List UInt8) (p0 p1 p2 p3 : Nat) (lo hi : Int) (w : World) (hm : mayS ⟨11, 0, 0, tx, p0, p1, p2, p3, lo, hi⟩) (hs : small ⟨11, 0, 0, tx, p0, p1, p2, p3, lo, hi⟩) (ht : LexTabs w) : Calls Tryd.prog 13 #[wdZ ⟨11, 0, 0, tx, p0, p1, p2, p3, lo, hi⟩ fr ti] w (TextPost (showW ⟨11, 0, 0, tx, p0, p1, p2, p3, lo, hi⟩) w) := by
  have HT := Lib.hid ht
  have HB0 := Lib.hid (bx1 w (.cells #[.int .u8 (11 : Int), .int .i64 (fr : Int), .int .i64 (ti : Int), .string ⟨tx.toArray⟩, .int .u64 (p0 : Int), .int .u64 (p1 : Int), .int .u64 (p2 : Int), .int .u64 (p3 : Int), .int .i64 lo, .int .i64 hi] 32))
  have HK0 := Lib.hid (bx_new w (.cells #[.int .u8 (11 : Int), .int .i64 (fr : Int), .int .i64 (ti : Int), .string ⟨tx.toArray⟩, .int .u64 (p0 : Int), .int .u64 (p1 : Int), .int .u64 (p2 : Int), .int .u64 (p3 : Int), .int .i64 lo, .int .i64 hi] 32))
  have HMY := Lib.hid (show ∀ w, Calls Tryd.prog 9 #[.agg #[.int .u8 11, .int .i64 (fr : Int), .int .i64 (ti : Int), .string ⟨tx.toArray⟩, .int .u64 (p0 : Int), .int .u64 (p1 : Int), .int .u64 (p2 : Int), .int .u64 (p3 : Int), .int .i64 lo, .int .i64 hi]] w fun e w' => e = .returned (.bool true) ∧ Below w.heap.size w w' from fun w => lmay_atS 11 fr ti tx p0 p1 p2 p3 lo hi true w (may_textS hm) ⟨fun _ => hm, fun _ => rfl⟩)
  have HTX := may_textS hm
  simp only at HTX
  have HRES := Lib.hid (show showW ⟨11, 0, 0, tx, p0, p1, p2, p3, lo, hi⟩ = [60] from rfl)
  clear hm ht
  unfold TextPost
  rw [HRES.out]
  clear HRES
  go_enter Tryd.func13, Tryd.ntmps13
  go_wp2_with (first
    | (go_at_call 9; (with_reducible refine (HMY.out _).mono ?_); rintro e w1 ⟨rfl, hb⟩; have HB1 := Lib.hid (Below.step HB0.out hb); have HK1 := Lib.hid (bx_kept hb HK0.out); obtain ⟨t0, t1, t2, t3, t4, t5, t6, t7, t8, t9, _⟩ := blk10 HK1.out; clear hb)
    | fail)
  all_goals exact bodyPost_ret (v := .string ⟨#[60]⟩) (by simp [results, Tryd.results13, go_sem] <;> first | rfl | exact str_ext (by simp)) rfl ⟨rfl, HB1.out⟩
set_option maxRecDepth 100000 in
set_option maxHeartbeats 1600000 in
theorem show_12 (fr ti : Int) (tx : List UInt8) (p0 p1 p2 p3 : Nat) (lo hi : Int) (w : World) (hm : mayS ⟨12, 0, 0, tx, p0, p1, p2, p3, lo, hi⟩) (hs : small ⟨12, 0, 0, tx, p0, p1, p2, p3, lo, hi⟩) (ht : LexTabs w) : Calls Tryd.prog 13 #[wdZ ⟨12, 0, 0, tx, p0, p1, p2, p3, lo, hi⟩ fr ti] w (TextPost (showW ⟨12, 0, 0, tx, p0, p1, p2, p3, lo, hi⟩) w) := by
  have HT := Lib.hid ht
  have HB0 := Lib.hid (bx1 w (.cells #[.int .u8 (12 : Int), .int .i64 (fr : Int), .int .i64 (ti : Int), .string ⟨tx.toArray⟩, .int .u64 (p0 : Int), .int .u64 (p1 : Int), .int .u64 (p2 : Int), .int .u64 (p3 : Int), .int .i64 lo, .int .i64 hi] 32))
  have HK0 := Lib.hid (bx_new w (.cells #[.int .u8 (12 : Int), .int .i64 (fr : Int), .int .i64 (ti : Int), .string ⟨tx.toArray⟩, .int .u64 (p0 : Int), .int .u64 (p1 : Int), .int .u64 (p2 : Int), .int .u64 (p3 : Int), .int .i64 lo, .int .i64 hi] 32))
  have HMY := Lib.hid (show ∀ w, Calls Tryd.prog 9 #[.agg #[.int .u8 12, .int .i64 (fr : Int), .int .i64 (ti : Int), .string ⟨tx.toArray⟩, .int .u64 (p0 : Int), .int .u64 (p1 : Int), .int .u64 (p2 : Int), .int .u64 (p3 : Int), .int .i64 lo, .int .i64 hi]] w fun e w' => e = .returned (.bool true) ∧ Below w.heap.size w w' from fun w => lmay_atS 12 fr ti tx p0 p1 p2 p3 lo hi true w (may_textS hm) ⟨fun _ => hm, fun _ => rfl⟩)
  have HTX := may_textS hm
  simp only at HTX
  have HRES := Lib.hid (show showW ⟨12, 0, 0, tx, p0, p1, p2, p3, lo, hi⟩ = [62] from rfl)
  clear hm ht
  unfold TextPost
  rw [HRES.out]
  clear HRES
  go_enter Tryd.func13, Tryd.ntmps13
  go_wp2_with (first
    | (go_at_call 9; (with_reducible refine (HMY.out _).mono ?_); rintro e w1 ⟨rfl, hb⟩; have HB1 := Lib.hid (Below.step HB0.out hb); have HK1 := Lib.hid (bx_kept hb HK0.out); obtain ⟨t0, t1, t2, t3, t4, t5, t6, t7, t8, t9, _⟩ := blk10 HK1.out; clear hb)
    | fail)
  all_goals exact bodyPost_ret (v := .string ⟨#[62]⟩) (by simp [results, Tryd.results13, go_sem] <;> first | rfl | exact str_ext (by simp)) rfl ⟨rfl, HB1.out⟩
set_option maxRecDepth 100000 in
set_option maxHeartbeats 1600000 in
theorem show_13 (fr ti : Int) (tx : List UInt8) (p0 p1 p2 p3 : Nat) (lo hi : Int) (w : World) (hm : mayS ⟨13, 0, 0, tx, p0, p1, p2, p3, lo, hi⟩) (hs : small ⟨13, 0, 0, tx, p0, p1, p2, p3, lo, hi⟩) (ht : LexTabs w) : Calls Tryd.prog 13 #[wdZ ⟨13, 0, 0, tx, p0, p1, p2, p3, lo, hi⟩ fr ti] w (TextPost (showW ⟨13, 0, 0, tx, p0, p1, p2, p3, lo, hi⟩) w) := by
  have HT := Lib.hid ht
  have HB0 := Lib.hid (bx1 w (.cells #[.int .u8 (13 : Int), .int .i64 (fr : Int), .int .i64 (ti : Int), .string ⟨tx.toArray⟩, .int .u64 (p0 : Int), .int .u64 (p1 : Int), .int .u64 (p2 : Int), .int .u64 (p3 : Int), .int .i64 lo, .int .i64 hi] 32))
  have HK0 := Lib.hid (bx_new w (.cells #[.int .u8 (13 : Int), .int .i64 (fr : Int), .int .i64 (ti : Int), .string ⟨tx.toArray⟩, .int .u64 (p0 : Int), .int .u64 (p1 : Int), .int .u64 (p2 : Int), .int .u64 (p3 : Int), .int .i64 lo, .int .i64 hi] 32))
  have HMY := Lib.hid (show ∀ w, Calls Tryd.prog 9 #[.agg #[.int .u8 13, .int .i64 (fr : Int), .int .i64 (ti : Int), .string ⟨tx.toArray⟩, .int .u64 (p0 : Int), .int .u64 (p1 : Int), .int .u64 (p2 : Int), .int .u64 (p3 : Int), .int .i64 lo, .int .i64 hi]] w fun e w' => e = .returned (.bool true) ∧ Below w.heap.size w w' from fun w => lmay_atS 13 fr ti tx p0 p1 p2 p3 lo hi true w (may_textS hm) ⟨fun _ => hm, fun _ => rfl⟩)
  have HTX := may_textS hm
  simp only at HTX
  have HRES := Lib.hid (show showW ⟨13, 0, 0, tx, p0, p1, p2, p3, lo, hi⟩ = [58] from rfl)
  clear hm ht
  unfold TextPost
  rw [HRES.out]
  clear HRES
  go_enter Tryd.func13, Tryd.ntmps13
  go_wp2_with (first
    | (go_at_call 9; (with_reducible refine (HMY.out _).mono ?_); rintro e w1 ⟨rfl, hb⟩; have HB1 := Lib.hid (Below.step HB0.out hb); have HK1 := Lib.hid (bx_kept hb HK0.out); obtain ⟨t0, t1, t2, t3, t4, t5, t6, t7, t8, t9, _⟩ := blk10 HK1.out; clear hb)
    | fail)
  all_goals exact bodyPost_ret (v := .string ⟨#[58]⟩) (by simp [results, Tryd.results13, go_sem] <;> first | rfl | exact str_ext (by simp)) rfl ⟨rfl, HB1.out⟩
theorem lshow_yesZ (x : Wd) (fr ti : Int) (w : World) (hm : mayS x) (hs : small x) (ht : LexTabs w) : Calls Tryd.prog 13 #[wdZ x fr ti] w (TextPost (showW x) w) := by
  obtain ⟨kd, fr0, ti0, tx, p0, p1, p2, p3, lo, hi⟩ := x
  have h1 := hm.2.2.2.1
  have h2 := hm.2.2.2.2.1
  simp only at h1 h2
  obtain rfl | rfl | rfl | rfl | rfl | rfl | rfl | rfl | rfl | rfl | rfl | rfl | rfl | rfl | rfl | rfl : kd = 1 ∨ kd = 2 ∨ kd = 3 ∨ kd = 4 ∨ kd = 5 ∨ kd = 6 ∨ kd = 7 ∨ kd = 8 ∨ kd = 9 ∨ kd = 10 ∨ kd = 11 ∨ kd = 12 ∨ kd = 13 ∨ kd = 14 ∨ kd = 15 ∨ kd = 16 := by omega
  · exact show_1 fr ti tx p0 p1 p2 p3 lo hi w hm hs ht
  · exact show_2 fr ti tx p0 p1 p2 p3 lo hi w hm hs ht
  · exact show_3 fr ti tx p0 p1 p2 p3 lo hi w hm hs ht
  · exact show_4 fr ti tx p0 p1 p2 p3 lo hi w hm hs ht
  · exact show_5 fr ti tx p0 p1 p2 p3 lo hi w hm hs ht
  · exact show_6 fr ti tx p0 p1 p2 p3 lo hi w hm hs ht
  · exact show_7 fr ti tx p0 p1 p2 p3 lo hi w hm hs ht
  · exact show_8 fr ti tx p0 p1 p2 p3 lo hi w hm hs ht
  · exact show_9 fr ti tx p0 p1 p2 p3 lo hi w hm hs ht
  · exact show_10 fr ti tx p0 p1 p2 p3 lo hi w hm hs ht
  · exact show_11 fr ti tx p0 p1 p2 p3 lo hi w hm hs ht
  · exact show_12 fr ti tx p0 p1 p2 p3 lo hi w hm hs ht
  · exact show_13 fr ti tx p0 p1 p2 p3 lo hi w hm hs ht
  · exact show_14 fr ti tx p0 p1 p2 p3 lo hi w hm hs ht
  · exact show_15 fr ti tx p0 p1 p2 p3 lo hi w hm hs ht
  · exact show_16 fr ti tx p0 p1 p2 p3 lo hi w hm hs ht
set_option maxRecDepth 100000 in
set_option maxHeartbeats 1600000 in
theorem lshow_noZ (x : Wd) (fr ti : Int) (w : World) (hm : ¬ mayS x) (hl : x.text.length ≤ 1000000) : Calls Tryd.prog 13 #[wdZ x fr ti] w (TextPost [] w) := by
  obtain ⟨kd, fr0, ti0, tx, p0, p1, p2, p3, lo, hi⟩ := x
  simp only at hl
  have HB0 := Lib.hid (bx1 w (.cells #[.int .u8 (kd : Int), .int .i64 (fr : Int), .int .i64 (ti : Int), .string ⟨tx.toArray⟩, .int .u64 (p0 : Int), .int .u64 (p1 : Int), .int .u64 (p2 : Int), .int .u64 (p3 : Int), .int .i64 lo, .int .i64 hi] 32))
  have HMY := Lib.hid (fun w => lmay_atS kd fr ti tx p0 p1 p2 p3 lo hi false w hl ⟨(fun h => by cases h), (fun h => absurd h hm)⟩)
  unfold TextPost
  clear hm
  go_enter Tryd.func13, Tryd.ntmps13
  go_wp2_with (first | (go_at_call 9; (with_reducible refine (HMY.out _).mono ?_); rintro e w1 ⟨rfl, hb⟩; have HB1 := Lib.hid (Below.step HB0.out hb); clear hb) | fail)
  exact bodyPost_ret (v := .string ⟨#[]⟩) (by simp [results, Tryd.results13, go_sem]) rfl ⟨rfl, HB1.out⟩
theorem lshow_yes (x : Wd) (w : World) (hm : mayS x) (hs : small x) (ht : LexTabs w) : Calls Tryd.prog 13 #[wdV x] w (TextPost (showW x) w) := lshow_yesZ x x.frm x.til w hm hs ht
theorem lshow_no (x : Wd) (w : World) (hm : ¬ mayS x) (hl : x.text.length ≤ 1000000) : Calls Tryd.prog 13 #[wdV x] w (TextPost [] w) := lshow_noZ x x.frm x.til w hm hl
end Go.Proofs.YtabncmckojlllaaDoor
