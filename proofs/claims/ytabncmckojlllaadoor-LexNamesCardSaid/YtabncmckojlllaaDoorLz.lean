/- The contracts of lex.bare, Same, May. -/
import Derived.Test.YtabncmckojlllaaDoorLu
import Derived.Test.YtabncmckojlllaaDoorKa
import Derived.Test.YtabncmckojlllaaDoorKb
import Derived.Deep.DeepCutAuto
import Derived.Deep.Cut
import Derived.Deep.CutRange
namespace Go.Proofs.YtabncmckojlllaaDoor
open Go.RowKit Go.Shelf
set_option linter.unusedSimpArgs false
set_option linter.unusedVariables false

/-- A word without its place. -/
def bareW (x : Wd) : Wd := { x with frm := 0, til := 0 }
/-- A word's value with any numbers as its place. -/
abbrev wdZ (x : Wd) (fr ti : Int) : Value := .agg #[.int .u8 (x.kind : Int), .int .i64 fr, .int .i64 ti, .string ⟨x.text.toArray⟩, .int .u64 (x.s0 : Int), .int .u64 (x.s1 : Int), .int .u64 (x.s2 : Int), .int .u64 (x.s3 : Int), .int .i64 x.low, .int .i64 x.high]
set_option maxHeartbeats 1000000 in
theorem bare_at (k : Nat) (fr ti : Int) (tx : List UInt8) (s0 s1 s2 s3 : Nat) (lo hi : Int) (w : World) : Calls Tryd.prog 31 #[.agg #[.int .u8 (k : Int), .int .i64 fr, .int .i64 ti, .string ⟨tx.toArray⟩, .int .u64 (s0 : Int), .int .u64 (s1 : Int), .int .u64 (s2 : Int), .int .u64 (s3 : Int), .int .i64 lo, .int .i64 hi]] w
    fun e w' => e = .returned (.agg #[.int .u8 (k : Int), .int .i64 0, .int .i64 0, .string ⟨tx.toArray⟩, .int .u64 (s0 : Int), .int .u64 (s1 : Int), .int .u64 (s2 : Int), .int .u64 (s3 : Int), .int .i64 lo, .int .i64 hi]) ∧ Below w.heap.size w w' := by
  go_enter Tryd.func31, Tryd.ntmps31
  go_wp2_with fail
  have e0 := bx_new (w.alloc (.cells #[.int .u8 (k : Int), .int .i64 0, .int .i64 0, .string ⟨tx.toArray⟩, .int .u64 (s0 : Int), .int .u64 (s1 : Int), .int .u64 (s2 : Int), .int .u64 (s3 : Int), .int .i64 lo, .int .i64 hi] 32)) (.cells #[.int .u8 (k : Int), .int .i64 0, .int .i64 0, .string ⟨tx.toArray⟩, .int .u64 (s0 : Int), .int .u64 (s1 : Int), .int .u64 (s2 : Int), .int .u64 (s3 : Int), .int .i64 lo, .int .i64 hi] 32)
  rw [World.size_alloc] at e0
  obtain ⟨t0, t1, t2, t3, t4, t5, t6, t7, t8, t9, _⟩ := blk10 e0
  refine bodyPost_ret (v := .agg #[.int .u8 (k : Int), .int .i64 0, .int .i64 0, .string ⟨tx.toArray⟩, .int .u64 (s0 : Int), .int .u64 (s1 : Int), .int .u64 (s2 : Int), .int .u64 (s3 : Int), .int .i64 lo, .int .i64 hi]) (by simp [results, Tryd.results31, go_sem, t0, t1, t2, t3, t4, t5, t6, t7, t8, t9]) rfl ?_
  exact ⟨rfl, ((Below.refl _ w).alloc (Nat.le_refl _) _).alloc (by simp) _⟩
theorem bare_any (x : Wd) (w : World) : Calls Tryd.prog 31 #[wdV x] w fun e w' => e = .returned (wdV (bareW x)) ∧ Below w.heap.size w w' := bare_at x.kind x.frm x.til x.text x.s0 x.s1 x.s2 x.s3 x.low x.high w
def MayPost (x : Wd) (w : World) (e : Ending) (w' : World) : Prop := (∃ b, e = .returned (.bool b) ∧ (b = true ↔ mayS x)) ∧ Below w.heap.size w w'
set_option maxRecDepth 100000 in
set_option maxHeartbeats 2000000 in
theorem lmay_16 (x : Wd) (fr ti : Int) (w : World) (h1 : x.text.length ≤ 1000000) (hk : x.kind = 16) : Calls Tryd.prog 9 #[wdZ x fr ti] w (MayPost x w) := by
  obtain ⟨k, fr0, ti0, tx, s0, s1, s2, s3, lo, hi⟩ := x
  simp only at hk h1
  subst hk
  go_enter Tryd.func9, Tryd.ntmps9
  go_upto_region 2 with (first | (go_at_call 31; refine (bare_at 16 fr ti tx s0 s1 s2 s3 lo hi _).mono ?_; rintro e w1 ⟨rfl, hb1⟩; have HB1 := Lib.hid hb1; have HK1 := Lib.hid (bx_kept hb1 (bx_new w _)); obtain ⟨t0, t1, t2, t3, t4, t5, t6, t7, t8, t9, tf⟩ := blk10 HK1.out; have f0 := tf 0; have f1 := tf 1; have f2 := tf 2; have f3 := tf 3; have f4 := tf 4; have f5 := tf 5; have f6 := tf 6; have f7 := tf 7; have f8 := tf 8; have f9 := tf 9; clear tf hb1) | fail)
  have HK2 := Lib.hid (putW_blk HK1.out (.int .u8 (16 : Int)) (.int .i64 0) (.int .i64 0) (.string ⟨tx.toArray⟩) (.int .u64 (s0 : Int)) (.int .u64 (s1 : Int)) (.int .u64 (s2 : Int)) (.int .u64 (s3 : Int)) (.int .i64 lo) (.int .i64 hi))
  have HB2 := Lib.hid (putW_below ((bx1 w (.cells #[.int .u8 (16 : Int), .int .i64 fr, .int .i64 ti, .string ⟨tx.toArray⟩, .int .u64 (s0 : Int), .int .u64 (s1 : Int), .int .u64 (s2 : Int), .int .u64 (s3 : Int), .int .i64 lo, .int .i64 hi] 32)).trans (HB1.out.mono (by simp))) (Nat.le_refl _) (.int .u8 (16 : Int)) (.int .i64 0) (.int .i64 0) (.string ⟨tx.toArray⟩) (.int .u64 (s0 : Int)) (.int .u64 (s1 : Int)) (.int .u64 (s2 : Int)) (.int .u64 (s3 : Int)) (.int .i64 lo) (.int .i64 hi))
  unfold putW at HK2 HB2
  clear t0 t1 t2 t3 t4 t5 t6 t7 t8 t9 f0 f1 f2 f3 f4 f5 f6 f7 f8 f9 HB1 HK1
  generalize ((((((((((w1.setCell ⟨w.heap.size, 0, none⟩ (.int .u8 (16 : Int))).setCell ⟨w.heap.size, 1, none⟩ (.int .i64 0)).setCell ⟨w.heap.size, 2, none⟩ (.int .i64 0)).setCell ⟨w.heap.size, 3, none⟩ (.string ⟨tx.toArray⟩)).setCell ⟨w.heap.size, 4, none⟩ (.int .u64 (s0 : Int))).setCell ⟨w.heap.size, 5, none⟩ (.int .u64 (s1 : Int))).setCell ⟨w.heap.size, 6, none⟩ (.int .u64 (s2 : Int))).setCell ⟨w.heap.size, 7, none⟩ (.int .u64 (s3 : Int))).setCell ⟨w.heap.size, 8, none⟩ (.int .i64 lo)).setCell ⟨w.heap.size, 9, none⟩ (.int .i64 hi)) = w2 at *
  obtain ⟨t0, t1, t2, t3, t4, t5, t6, t7, t8, t9, tf⟩ := blk10 HK2.out
  clear tf
  go_upto_region 3 with fail
  have HK3 := Lib.hid (bx_kept (bx1 w2 (.cells #[.int .u8 (16 : Int), .int .i64 0, .int .i64 0, .string ⟨#[]⟩, .int .u64 0, .int .u64 0, .int .u64 0, .int .u64 0, .int .i64 0, .int .i64 0] 32)) HK2.out)
  have HO3 := Lib.hid (bx_new w2 (.cells #[.int .u8 (16 : Int), .int .i64 0, .int .i64 0, .string ⟨#[]⟩, .int .u64 0, .int .u64 0, .int .u64 0, .int .u64 0, .int .i64 0, .int .i64 0] 32))
  have HB3 := Lib.hid (HB2.out.trans ((bx1 w2 (.cells #[.int .u8 (16 : Int), .int .i64 0, .int .i64 0, .string ⟨#[]⟩, .int .u64 0, .int .u64 0, .int .u64 0, .int .u64 0, .int .i64 0, .int .i64 0] 32)).mono HB2.out.size))
  have hzz : w.heap.size < w2.heap.size := (Array.getElem?_eq_some_iff.1 HK2.out).1
  clear t0 t1 t2 t3 t4 t5 t6 t7 t8 t9 HB2 HK2
  generalize w2.heap.size = q at *
  generalize (w2.alloc (.cells #[.int .u8 (16 : Int), .int .i64 0, .int .i64 0, .string ⟨#[]⟩, .int .u64 0, .int .u64 0, .int .u64 0, .int .u64 0, .int .i64 0, .int .i64 0] 32)) = w3 at *
  obtain ⟨t0, t1, t2, t3, t4, t5, t6, t7, t8, t9, tf⟩ := blk10 HK3.out
  obtain ⟨o0, o1, o2, o3, o4, o5, o6, o7, o8, o9, of⟩ := blk10 HO3.out
  have g3 := of 3; have g4 := of 4; have g5 := of 5; have g6 := of 6; have g7 := of 7; have g8 := of 8; have g9 := of 9
  clear tf of
  go_upto_region 18 with fail
  have HO4 := Lib.hid (show ((((w3.setCell ⟨q, 4, none⟩ (.int .u64 (s0 : Int))).setCell ⟨q, 5, none⟩ (.int .u64 (s1 : Int))).setCell ⟨q, 6, none⟩ (.int .u64 (s2 : Int))).setCell ⟨q, 7, none⟩ (.int .u64 (s3 : Int))).heap[q]? = some (.cells #[.int .u8 (16 : Int), .int .i64 0, .int .i64 0, .string ⟨#[]⟩, .int .u64 (s0 : Int), .int .u64 (s1 : Int), .int .u64 (s2 : Int), .int .u64 (s3 : Int), .int .i64 0, .int .i64 0] 32 (0, 0)) from by
    have e1 : (w3.setCell ⟨q, 4, none⟩ (.int .u64 (s0 : Int))).heap[q]? = some (.cells #[.int .u8 (16 : Int), .int .i64 0, .int .i64 0, .string ⟨#[]⟩, .int .u64 (s0 : Int), .int .u64 0, .int .u64 0, .int .u64 0, .int .i64 0, .int .i64 0] 32 (0, 0)) := heap_setCell_same _ q 4 _ _ _ HO3.out
    have e2 : ((w3.setCell ⟨q, 4, none⟩ (.int .u64 (s0 : Int))).setCell ⟨q, 5, none⟩ (.int .u64 (s1 : Int))).heap[q]? = some (.cells #[.int .u8 (16 : Int), .int .i64 0, .int .i64 0, .string ⟨#[]⟩, .int .u64 (s0 : Int), .int .u64 (s1 : Int), .int .u64 0, .int .u64 0, .int .i64 0, .int .i64 0] 32 (0, 0)) := heap_setCell_same _ q 5 _ _ _ e1
    have e3 : (((w3.setCell ⟨q, 4, none⟩ (.int .u64 (s0 : Int))).setCell ⟨q, 5, none⟩ (.int .u64 (s1 : Int))).setCell ⟨q, 6, none⟩ (.int .u64 (s2 : Int))).heap[q]? = some (.cells #[.int .u8 (16 : Int), .int .i64 0, .int .i64 0, .string ⟨#[]⟩, .int .u64 (s0 : Int), .int .u64 (s1 : Int), .int .u64 (s2 : Int), .int .u64 0, .int .i64 0, .int .i64 0] 32 (0, 0)) := heap_setCell_same _ q 6 _ _ _ e2
    have e4 : ((((w3.setCell ⟨q, 4, none⟩ (.int .u64 (s0 : Int))).setCell ⟨q, 5, none⟩ (.int .u64 (s1 : Int))).setCell ⟨q, 6, none⟩ (.int .u64 (s2 : Int))).setCell ⟨q, 7, none⟩ (.int .u64 (s3 : Int))).heap[q]? = some (.cells #[.int .u8 (16 : Int), .int .i64 0, .int .i64 0, .string ⟨#[]⟩, .int .u64 (s0 : Int), .int .u64 (s1 : Int), .int .u64 (s2 : Int), .int .u64 (s3 : Int), .int .i64 0, .int .i64 0] 32 (0, 0)) := heap_setCell_same _ q 7 _ _ _ e3
    exact e4)
  have HK4 := Lib.hid (show ((((w3.setCell ⟨q, 4, none⟩ (.int .u64 (s0 : Int))).setCell ⟨q, 5, none⟩ (.int .u64 (s1 : Int))).setCell ⟨q, 6, none⟩ (.int .u64 (s2 : Int))).setCell ⟨q, 7, none⟩ (.int .u64 (s3 : Int))).heap[w.heap.size]? = some (.cells #[.int .u8 (16 : Int), .int .i64 0, .int .i64 0, .string ⟨tx.toArray⟩, .int .u64 (s0 : Int), .int .u64 (s1 : Int), .int .u64 (s2 : Int), .int .u64 (s3 : Int), .int .i64 lo, .int .i64 hi] 32 (0, 0)) from by
    rw [Below.heap_setCell _ _ _ _ (by simp; omega), Below.heap_setCell _ _ _ _ (by simp; omega), Below.heap_setCell _ _ _ _ (by simp; omega), Below.heap_setCell _ _ _ _ (by simp; omega)]; exact HK3.out)
  have HB4 := Lib.hid ((((HB3.out.setCell (p := ⟨q, 4, none⟩) (by simp; omega) (.int .u64 (s0 : Int))).setCell (p := ⟨q, 5, none⟩) (by simp; omega) (.int .u64 (s1 : Int))).setCell (p := ⟨q, 6, none⟩) (by simp; omega) (.int .u64 (s2 : Int))).setCell (p := ⟨q, 7, none⟩) (by simp; omega) (.int .u64 (s3 : Int)))
  clear t0 t1 t2 t3 t4 t5 t6 t7 t8 t9 o0 o1 o2 o3 o4 o5 o6 o7 o8 o9 g3 g4 g5 g6 g7 g8 g9 HK3 HO3 HB3
  generalize ((((w3.setCell ⟨q, 4, none⟩ (.int .u64 (s0 : Int))).setCell ⟨q, 5, none⟩ (.int .u64 (s1 : Int))).setCell ⟨q, 6, none⟩ (.int .u64 (s2 : Int))).setCell ⟨q, 7, none⟩ (.int .u64 (s3 : Int))) = w4 at *
  obtain ⟨t0, t1, t2, t3, t4, t5, t6, t7, t8, t9, _⟩ := blk10 HK4.out
  obtain ⟨o0, o1, o2, o3, o4, o5, o6, o7, o8, o9, _⟩ := blk10 HO4.out
  have heq : ∀ w, (Op.equalIn 9999 30 (.agg #[.int .u64 (s0 : Int), .int .u64 (s1 : Int), .int .u64 (s2 : Int), .int .u64 (s3 : Int)]) (.agg #[.int .u64 (s0 : Int), .int .u64 (s1 : Int), .int .u64 (s2 : Int), .int .u64 (s3 : Int)])).run Tryd.prog w = .ok true w := fun w => by rw [equal_sets, decide_eq_true (by simp)]
  go_wp2_with fail
  all_goals exact bodyPost_ret (v := .bool (decide (tx = [] ∧ lo = 0 ∧ hi = 0))) (by simp [results, Tryd.results9, go_sem, *] ) rfl ⟨⟨_, rfl, by simp [mayS, *]⟩, HB4.out⟩
set_option maxRecDepth 100000 in
set_option maxHeartbeats 2000000 in
theorem lmay_15 (x : Wd) (fr ti : Int) (w : World) (h1 : x.text.length ≤ 1000000) (hk : x.kind = 15) : Calls Tryd.prog 9 #[wdZ x fr ti] w (MayPost x w) := by
  obtain ⟨k, fr0, ti0, tx, s0, s1, s2, s3, lo, hi⟩ := x
  simp only at hk h1
  subst hk
  go_enter Tryd.func9, Tryd.ntmps9
  go_upto_region 2 with (first | (go_at_call 31; refine (bare_at 15 fr ti tx s0 s1 s2 s3 lo hi _).mono ?_; rintro e w1 ⟨rfl, hb1⟩; have HB1 := Lib.hid hb1; have HK1 := Lib.hid (bx_kept hb1 (bx_new w _)); obtain ⟨t0, t1, t2, t3, t4, t5, t6, t7, t8, t9, tf⟩ := blk10 HK1.out; have f0 := tf 0; have f1 := tf 1; have f2 := tf 2; have f3 := tf 3; have f4 := tf 4; have f5 := tf 5; have f6 := tf 6; have f7 := tf 7; have f8 := tf 8; have f9 := tf 9; clear tf hb1) | fail)
  have HK2 := Lib.hid (putW_blk HK1.out (.int .u8 (15 : Int)) (.int .i64 0) (.int .i64 0) (.string ⟨tx.toArray⟩) (.int .u64 (s0 : Int)) (.int .u64 (s1 : Int)) (.int .u64 (s2 : Int)) (.int .u64 (s3 : Int)) (.int .i64 lo) (.int .i64 hi))
  have HB2 := Lib.hid (putW_below ((bx1 w (.cells #[.int .u8 (15 : Int), .int .i64 fr, .int .i64 ti, .string ⟨tx.toArray⟩, .int .u64 (s0 : Int), .int .u64 (s1 : Int), .int .u64 (s2 : Int), .int .u64 (s3 : Int), .int .i64 lo, .int .i64 hi] 32)).trans (HB1.out.mono (by simp))) (Nat.le_refl _) (.int .u8 (15 : Int)) (.int .i64 0) (.int .i64 0) (.string ⟨tx.toArray⟩) (.int .u64 (s0 : Int)) (.int .u64 (s1 : Int)) (.int .u64 (s2 : Int)) (.int .u64 (s3 : Int)) (.int .i64 lo) (.int .i64 hi))
  unfold putW at HK2 HB2
  clear t0 t1 t2 t3 t4 t5 t6 t7 t8 t9 f0 f1 f2 f3 f4 f5 f6 f7 f8 f9 HB1 HK1
  generalize ((((((((((w1.setCell ⟨w.heap.size, 0, none⟩ (.int .u8 (15 : Int))).setCell ⟨w.heap.size, 1, none⟩ (.int .i64 0)).setCell ⟨w.heap.size, 2, none⟩ (.int .i64 0)).setCell ⟨w.heap.size, 3, none⟩ (.string ⟨tx.toArray⟩)).setCell ⟨w.heap.size, 4, none⟩ (.int .u64 (s0 : Int))).setCell ⟨w.heap.size, 5, none⟩ (.int .u64 (s1 : Int))).setCell ⟨w.heap.size, 6, none⟩ (.int .u64 (s2 : Int))).setCell ⟨w.heap.size, 7, none⟩ (.int .u64 (s3 : Int))).setCell ⟨w.heap.size, 8, none⟩ (.int .i64 lo)).setCell ⟨w.heap.size, 9, none⟩ (.int .i64 hi)) = w2 at *
  obtain ⟨t0, t1, t2, t3, t4, t5, t6, t7, t8, t9, tf⟩ := blk10 HK2.out
  clear tf
  go_upto_region 3 with fail
  have HK3 := Lib.hid (bx_kept (bx1 w2 (.cells #[.int .u8 (15 : Int), .int .i64 0, .int .i64 0, .string ⟨#[]⟩, .int .u64 0, .int .u64 0, .int .u64 0, .int .u64 0, .int .i64 0, .int .i64 0] 32)) HK2.out)
  have HO3 := Lib.hid (bx_new w2 (.cells #[.int .u8 (15 : Int), .int .i64 0, .int .i64 0, .string ⟨#[]⟩, .int .u64 0, .int .u64 0, .int .u64 0, .int .u64 0, .int .i64 0, .int .i64 0] 32))
  have HB3 := Lib.hid (HB2.out.trans ((bx1 w2 (.cells #[.int .u8 (15 : Int), .int .i64 0, .int .i64 0, .string ⟨#[]⟩, .int .u64 0, .int .u64 0, .int .u64 0, .int .u64 0, .int .i64 0, .int .i64 0] 32)).mono HB2.out.size))
  have hzz : w.heap.size < w2.heap.size := (Array.getElem?_eq_some_iff.1 HK2.out).1
  clear t0 t1 t2 t3 t4 t5 t6 t7 t8 t9 HB2 HK2
  generalize w2.heap.size = q at *
  generalize (w2.alloc (.cells #[.int .u8 (15 : Int), .int .i64 0, .int .i64 0, .string ⟨#[]⟩, .int .u64 0, .int .u64 0, .int .u64 0, .int .u64 0, .int .i64 0, .int .i64 0] 32)) = w3 at *
  obtain ⟨t0, t1, t2, t3, t4, t5, t6, t7, t8, t9, tf⟩ := blk10 HK3.out
  obtain ⟨o0, o1, o2, o3, o4, o5, o6, o7, o8, o9, of⟩ := blk10 HO3.out
  have g3 := of 3; have g4 := of 4; have g5 := of 5; have g6 := of 6; have g7 := of 7; have g8 := of 8; have g9 := of 9
  clear tf of
  by_cases hl : 255 < tx.length
  · have i1 : (255 : Int) < (tx.length : Int) := by omega
    go_wp2_with fail
    all_goals exact bodyPost_ret (v := .bool (false)) (by simp [results, Tryd.results9, go_sem, *] ) rfl ⟨⟨_, rfl, ⟨fun h => (by cases h), fun h => absurd (h.2.1 rfl) (by simp only; omega)⟩⟩, HB3.out⟩
  have i1 : ¬ (255 : Int) < (tx.length : Int) := by omega
  go_upto_region 18 with fail
  have HO4 := Lib.hid (show (w3.setCell ⟨q, 3, none⟩ (.string ⟨tx.toArray⟩)).heap[q]? = some (.cells #[.int .u8 (15 : Int), .int .i64 0, .int .i64 0, .string ⟨tx.toArray⟩, .int .u64 0, .int .u64 0, .int .u64 0, .int .u64 0, .int .i64 0, .int .i64 0] 32 (0, 0)) from by
    have e1 : (w3.setCell ⟨q, 3, none⟩ (.string ⟨tx.toArray⟩)).heap[q]? = some (.cells #[.int .u8 (15 : Int), .int .i64 0, .int .i64 0, .string ⟨tx.toArray⟩, .int .u64 0, .int .u64 0, .int .u64 0, .int .u64 0, .int .i64 0, .int .i64 0] 32 (0, 0)) := heap_setCell_same _ q 3 _ _ _ HO3.out
    exact e1)
  have HK4 := Lib.hid (show (w3.setCell ⟨q, 3, none⟩ (.string ⟨tx.toArray⟩)).heap[w.heap.size]? = some (.cells #[.int .u8 (15 : Int), .int .i64 0, .int .i64 0, .string ⟨tx.toArray⟩, .int .u64 (s0 : Int), .int .u64 (s1 : Int), .int .u64 (s2 : Int), .int .u64 (s3 : Int), .int .i64 lo, .int .i64 hi] 32 (0, 0)) from by
    rw [Below.heap_setCell _ _ _ _ (by simp; omega)]; exact HK3.out)
  have HB4 := Lib.hid (HB3.out.setCell (p := ⟨q, 3, none⟩) (by simp; omega) (.string ⟨tx.toArray⟩))
  clear t0 t1 t2 t3 t4 t5 t6 t7 t8 t9 o0 o1 o2 o3 o4 o5 o6 o7 o8 o9 g3 g4 g5 g6 g7 g8 g9 HK3 HO3 HB3
  generalize (w3.setCell ⟨q, 3, none⟩ (.string ⟨tx.toArray⟩)) = w4 at *
  obtain ⟨t0, t1, t2, t3, t4, t5, t6, t7, t8, t9, _⟩ := blk10 HK4.out
  obtain ⟨o0, o1, o2, o3, o4, o5, o6, o7, o8, o9, _⟩ := blk10 HO4.out
  have heq : ∀ w, (Op.equalIn 9999 30 (.agg #[.int .u64 (s0 : Int), .int .u64 (s1 : Int), .int .u64 (s2 : Int), .int .u64 (s3 : Int)]) (.agg #[.int .u64 0, .int .u64 0, .int .u64 0, .int .u64 0])).run Tryd.prog w = .ok (decide ((s0 : Int) = 0 ∧ (s1 : Int) = 0 ∧ (s2 : Int) = 0 ∧ (s3 : Int) = 0)) w := fun w => equal_sets _ _ _ _ _ _ _ _ w
  go_wp2_with fail
  all_goals exact bodyPost_ret (v := .bool (decide ((s0 = 0 ∧ s1 = 0 ∧ s2 = 0 ∧ s3 = 0) ∧ lo = 0 ∧ hi = 0))) (by simp [results, Tryd.results9, go_sem, *]  <;> (intros; omega)) rfl ⟨⟨_, rfl, by simp [mayS, *] <;> (intros; omega)⟩, HB4.out⟩
set_option maxRecDepth 100000 in
set_option maxHeartbeats 2000000 in
theorem lmay_1 (x : Wd) (fr ti : Int) (w : World) (h1 : x.text.length ≤ 1000000) (hk : x.kind = 1) : Calls Tryd.prog 9 #[wdZ x fr ti] w (MayPost x w) := by
  obtain ⟨k, fr0, ti0, tx, s0, s1, s2, s3, lo, hi⟩ := x
  simp only at hk h1
  subst hk
  go_enter Tryd.func9, Tryd.ntmps9
  go_upto_region 2 with (first | (go_at_call 31; refine (bare_at 1 fr ti tx s0 s1 s2 s3 lo hi _).mono ?_; rintro e w1 ⟨rfl, hb1⟩; have HB1 := Lib.hid hb1; have HK1 := Lib.hid (bx_kept hb1 (bx_new w _)); obtain ⟨t0, t1, t2, t3, t4, t5, t6, t7, t8, t9, tf⟩ := blk10 HK1.out; have f0 := tf 0; have f1 := tf 1; have f2 := tf 2; have f3 := tf 3; have f4 := tf 4; have f5 := tf 5; have f6 := tf 6; have f7 := tf 7; have f8 := tf 8; have f9 := tf 9; clear tf hb1) | fail)
  have HK2 := Lib.hid (putW_blk HK1.out (.int .u8 (1 : Int)) (.int .i64 0) (.int .i64 0) (.string ⟨tx.toArray⟩) (.int .u64 (s0 : Int)) (.int .u64 (s1 : Int)) (.int .u64 (s2 : Int)) (.int .u64 (s3 : Int)) (.int .i64 lo) (.int .i64 hi))
  have HB2 := Lib.hid (putW_below ((bx1 w (.cells #[.int .u8 (1 : Int), .int .i64 fr, .int .i64 ti, .string ⟨tx.toArray⟩, .int .u64 (s0 : Int), .int .u64 (s1 : Int), .int .u64 (s2 : Int), .int .u64 (s3 : Int), .int .i64 lo, .int .i64 hi] 32)).trans (HB1.out.mono (by simp))) (Nat.le_refl _) (.int .u8 (1 : Int)) (.int .i64 0) (.int .i64 0) (.string ⟨tx.toArray⟩) (.int .u64 (s0 : Int)) (.int .u64 (s1 : Int)) (.int .u64 (s2 : Int)) (.int .u64 (s3 : Int)) (.int .i64 lo) (.int .i64 hi))
  unfold putW at HK2 HB2
  clear t0 t1 t2 t3 t4 t5 t6 t7 t8 t9 f0 f1 f2 f3 f4 f5 f6 f7 f8 f9 HB1 HK1
  generalize ((((((((((w1.setCell ⟨w.heap.size, 0, none⟩ (.int .u8 (1 : Int))).setCell ⟨w.heap.size, 1, none⟩ (.int .i64 0)).setCell ⟨w.heap.size, 2, none⟩ (.int .i64 0)).setCell ⟨w.heap.size, 3, none⟩ (.string ⟨tx.toArray⟩)).setCell ⟨w.heap.size, 4, none⟩ (.int .u64 (s0 : Int))).setCell ⟨w.heap.size, 5, none⟩ (.int .u64 (s1 : Int))).setCell ⟨w.heap.size, 6, none⟩ (.int .u64 (s2 : Int))).setCell ⟨w.heap.size, 7, none⟩ (.int .u64 (s3 : Int))).setCell ⟨w.heap.size, 8, none⟩ (.int .i64 lo)).setCell ⟨w.heap.size, 9, none⟩ (.int .i64 hi)) = w2 at *
  obtain ⟨t0, t1, t2, t3, t4, t5, t6, t7, t8, t9, tf⟩ := blk10 HK2.out
  clear tf
  go_upto_region 3 with fail
  have HK3 := Lib.hid (bx_kept (bx1 w2 (.cells #[.int .u8 (1 : Int), .int .i64 0, .int .i64 0, .string ⟨#[]⟩, .int .u64 0, .int .u64 0, .int .u64 0, .int .u64 0, .int .i64 0, .int .i64 0] 32)) HK2.out)
  have HO3 := Lib.hid (bx_new w2 (.cells #[.int .u8 (1 : Int), .int .i64 0, .int .i64 0, .string ⟨#[]⟩, .int .u64 0, .int .u64 0, .int .u64 0, .int .u64 0, .int .i64 0, .int .i64 0] 32))
  have HB3 := Lib.hid (HB2.out.trans ((bx1 w2 (.cells #[.int .u8 (1 : Int), .int .i64 0, .int .i64 0, .string ⟨#[]⟩, .int .u64 0, .int .u64 0, .int .u64 0, .int .u64 0, .int .i64 0, .int .i64 0] 32)).mono HB2.out.size))
  have hzz : w.heap.size < w2.heap.size := (Array.getElem?_eq_some_iff.1 HK2.out).1
  clear t0 t1 t2 t3 t4 t5 t6 t7 t8 t9 HB2 HK2
  generalize w2.heap.size = q at *
  generalize (w2.alloc (.cells #[.int .u8 (1 : Int), .int .i64 0, .int .i64 0, .string ⟨#[]⟩, .int .u64 0, .int .u64 0, .int .u64 0, .int .u64 0, .int .i64 0, .int .i64 0] 32)) = w3 at *
  obtain ⟨t0, t1, t2, t3, t4, t5, t6, t7, t8, t9, tf⟩ := blk10 HK3.out
  obtain ⟨o0, o1, o2, o3, o4, o5, o6, o7, o8, o9, of⟩ := blk10 HO3.out
  have g3 := of 3; have g4 := of 4; have g5 := of 5; have g6 := of 6; have g7 := of 7; have g8 := of 8; have g9 := of 9
  clear tf of
  cases hl : mayL tx
  · have hl2 : mayL (⟨tx.toArray⟩ : ByteArray).data.toList = false := by simpa using hl
    go_wp2_with (first | (go_at_call 32; refine (may_any ⟨tx.toArray⟩ _ (by rw [← sz_data]; simp; omega)).mono ?_; rintro e w5 ⟨rfl, hb5⟩; rw [hl2]; have HK5 := Lib.hid (bx_kept hb5 HK3.out); have HO5 := Lib.hid (bx_kept hb5 HO3.out); have HB5 := Lib.hid (HB3.out.trans (hb5.mono HB3.out.size)); clear hb5 t0 t1 t2 t3 t4 t5 t6 t7 t8 t9 o0 o1 o2 o3 o4 o5 o6 o7 o8 o9 g3 g4 g5 g6 g7 g8 g9; obtain ⟨t0, t1, t2, t3, t4, t5, t6, t7, t8, t9, tf⟩ := blk10 HK5.out; obtain ⟨o0, o1, o2, o3, o4, o5, o6, o7, o8, o9, of⟩ := blk10 HO5.out; have g3 := of 3; clear tf of) | fail)
    all_goals exact bodyPost_ret (v := .bool (false)) (by simp [results, Tryd.results9, go_sem, *] ) rfl ⟨⟨_, rfl, ⟨fun h => (by cases h), fun h => (by have := h.1 rfl; simp only at this; rw [hl] at this; cases this)⟩⟩, HB5.out⟩
  have hl2 : mayL (⟨tx.toArray⟩ : ByteArray).data.toList = true := by simpa using hl
  go_upto_region 18 with (first | (go_at_call 32; refine (may_any ⟨tx.toArray⟩ _ (by rw [← sz_data]; simp; omega)).mono ?_; rintro e w5 ⟨rfl, hb5⟩; rw [hl2]; have HK5 := Lib.hid (bx_kept hb5 HK3.out); have HO5 := Lib.hid (bx_kept hb5 HO3.out); have HB5 := Lib.hid (HB3.out.trans (hb5.mono HB3.out.size)); clear hb5 t0 t1 t2 t3 t4 t5 t6 t7 t8 t9 o0 o1 o2 o3 o4 o5 o6 o7 o8 o9 g3 g4 g5 g6 g7 g8 g9; obtain ⟨t0, t1, t2, t3, t4, t5, t6, t7, t8, t9, tf⟩ := blk10 HK5.out; obtain ⟨o0, o1, o2, o3, o4, o5, o6, o7, o8, o9, of⟩ := blk10 HO5.out; have g3 := of 3; clear tf of) | fail)
  have HO4 := Lib.hid (show (w5.setCell ⟨q, 3, none⟩ (.string ⟨tx.toArray⟩)).heap[q]? = some (.cells #[.int .u8 (1 : Int), .int .i64 0, .int .i64 0, .string ⟨tx.toArray⟩, .int .u64 0, .int .u64 0, .int .u64 0, .int .u64 0, .int .i64 0, .int .i64 0] 32 (0, 0)) from by
    have e1 : (w5.setCell ⟨q, 3, none⟩ (.string ⟨tx.toArray⟩)).heap[q]? = some (.cells #[.int .u8 (1 : Int), .int .i64 0, .int .i64 0, .string ⟨tx.toArray⟩, .int .u64 0, .int .u64 0, .int .u64 0, .int .u64 0, .int .i64 0, .int .i64 0] 32 (0, 0)) := heap_setCell_same _ q 3 _ _ _ HO5.out
    exact e1)
  have HK4 := Lib.hid (show (w5.setCell ⟨q, 3, none⟩ (.string ⟨tx.toArray⟩)).heap[w.heap.size]? = some (.cells #[.int .u8 (1 : Int), .int .i64 0, .int .i64 0, .string ⟨tx.toArray⟩, .int .u64 (s0 : Int), .int .u64 (s1 : Int), .int .u64 (s2 : Int), .int .u64 (s3 : Int), .int .i64 lo, .int .i64 hi] 32 (0, 0)) from by
    rw [Below.heap_setCell _ _ _ _ (by simp; omega)]; exact HK5.out)
  have HB4 := Lib.hid (HB5.out.setCell (p := ⟨q, 3, none⟩) (by simp; omega) (.string ⟨tx.toArray⟩))
  clear t0 t1 t2 t3 t4 t5 t6 t7 t8 t9 o0 o1 o2 o3 o4 o5 o6 o7 o8 o9 g3 HK5 HO5 HB5
  generalize (w5.setCell ⟨q, 3, none⟩ (.string ⟨tx.toArray⟩)) = w4 at *
  obtain ⟨t0, t1, t2, t3, t4, t5, t6, t7, t8, t9, _⟩ := blk10 HK4.out
  obtain ⟨o0, o1, o2, o3, o4, o5, o6, o7, o8, o9, _⟩ := blk10 HO4.out
  have heq : ∀ w, (Op.equalIn 9999 30 (.agg #[.int .u64 (s0 : Int), .int .u64 (s1 : Int), .int .u64 (s2 : Int), .int .u64 (s3 : Int)]) (.agg #[.int .u64 0, .int .u64 0, .int .u64 0, .int .u64 0])).run Tryd.prog w = .ok (decide ((s0 : Int) = 0 ∧ (s1 : Int) = 0 ∧ (s2 : Int) = 0 ∧ (s3 : Int) = 0)) w := fun w => equal_sets _ _ _ _ _ _ _ _ w
  go_wp2_with fail
  all_goals exact bodyPost_ret (v := .bool (decide ((s0 = 0 ∧ s1 = 0 ∧ s2 = 0 ∧ s3 = 0) ∧ lo = 0 ∧ hi = 0))) (by simp [results, Tryd.results9, go_sem, *]  <;> (intros; omega)) rfl ⟨⟨_, rfl, by simp [mayS, *] <;> (intros; omega)⟩, HB4.out⟩
set_option maxRecDepth 100000 in
set_option maxHeartbeats 2000000 in
theorem lmay_0 (x : Wd) (fr ti : Int) (w : World) (h1 : x.text.length ≤ 1000000) (hk : x.kind ≠ 1 ∧ x.kind ≠ 14 ∧ x.kind ≠ 15 ∧ x.kind ≠ 16) : Calls Tryd.prog 9 #[wdZ x fr ti] w (MayPost x w) := by
  obtain ⟨k, fr0, ti0, tx, s0, s1, s2, s3, lo, hi⟩ := x
  simp only at hk h1
  obtain ⟨k1, k14, k15, k16⟩ := hk
  have n1 : ((k : Int) == 1) = false := by simp; omega
  have n14 : ((k : Int) == 14) = false := by simp; omega
  have n15 : ((k : Int) == 15) = false := by simp; omega
  have n16 : ((k : Int) == 16) = false := by simp; omega
  have m1 : ¬ (k : Int) = 1 := by omega
  have m14 : ¬ (k : Int) = 14 := by omega
  have m15 : ¬ (k : Int) = 15 := by omega
  have m16 : ¬ (k : Int) = 16 := by omega
  go_enter Tryd.func9, Tryd.ntmps9
  go_upto_region 2 with (first | (go_at_call 31; refine (bare_at k fr ti tx s0 s1 s2 s3 lo hi _).mono ?_; rintro e w1 ⟨rfl, hb1⟩; have HB1 := Lib.hid hb1; have HK1 := Lib.hid (bx_kept hb1 (bx_new w _)); obtain ⟨t0, t1, t2, t3, t4, t5, t6, t7, t8, t9, tf⟩ := blk10 HK1.out; have f0 := tf 0; have f1 := tf 1; have f2 := tf 2; have f3 := tf 3; have f4 := tf 4; have f5 := tf 5; have f6 := tf 6; have f7 := tf 7; have f8 := tf 8; have f9 := tf 9; clear tf hb1) | fail)
  have HK2 := Lib.hid (putW_blk HK1.out (.int .u8 (k : Int)) (.int .i64 0) (.int .i64 0) (.string ⟨tx.toArray⟩) (.int .u64 (s0 : Int)) (.int .u64 (s1 : Int)) (.int .u64 (s2 : Int)) (.int .u64 (s3 : Int)) (.int .i64 lo) (.int .i64 hi))
  have HB2 := Lib.hid (putW_below ((bx1 w (.cells #[.int .u8 (k : Int), .int .i64 fr, .int .i64 ti, .string ⟨tx.toArray⟩, .int .u64 (s0 : Int), .int .u64 (s1 : Int), .int .u64 (s2 : Int), .int .u64 (s3 : Int), .int .i64 lo, .int .i64 hi] 32)).trans (HB1.out.mono (by simp))) (Nat.le_refl _) (.int .u8 (k : Int)) (.int .i64 0) (.int .i64 0) (.string ⟨tx.toArray⟩) (.int .u64 (s0 : Int)) (.int .u64 (s1 : Int)) (.int .u64 (s2 : Int)) (.int .u64 (s3 : Int)) (.int .i64 lo) (.int .i64 hi))
  unfold putW at HK2 HB2
  clear t0 t1 t2 t3 t4 t5 t6 t7 t8 t9 f0 f1 f2 f3 f4 f5 f6 f7 f8 f9 HB1 HK1
  generalize ((((((((((w1.setCell ⟨w.heap.size, 0, none⟩ (.int .u8 (k : Int))).setCell ⟨w.heap.size, 1, none⟩ (.int .i64 0)).setCell ⟨w.heap.size, 2, none⟩ (.int .i64 0)).setCell ⟨w.heap.size, 3, none⟩ (.string ⟨tx.toArray⟩)).setCell ⟨w.heap.size, 4, none⟩ (.int .u64 (s0 : Int))).setCell ⟨w.heap.size, 5, none⟩ (.int .u64 (s1 : Int))).setCell ⟨w.heap.size, 6, none⟩ (.int .u64 (s2 : Int))).setCell ⟨w.heap.size, 7, none⟩ (.int .u64 (s3 : Int))).setCell ⟨w.heap.size, 8, none⟩ (.int .i64 lo)).setCell ⟨w.heap.size, 9, none⟩ (.int .i64 hi)) = w2 at *
  obtain ⟨t0, t1, t2, t3, t4, t5, t6, t7, t8, t9, tf⟩ := blk10 HK2.out
  clear tf
  go_upto_region 3 with fail
  have HK3 := Lib.hid (bx_kept (bx1 w2 (.cells #[.int .u8 (k : Int), .int .i64 0, .int .i64 0, .string ⟨#[]⟩, .int .u64 0, .int .u64 0, .int .u64 0, .int .u64 0, .int .i64 0, .int .i64 0] 32)) HK2.out)
  have HO3 := Lib.hid (bx_new w2 (.cells #[.int .u8 (k : Int), .int .i64 0, .int .i64 0, .string ⟨#[]⟩, .int .u64 0, .int .u64 0, .int .u64 0, .int .u64 0, .int .i64 0, .int .i64 0] 32))
  have HB3 := Lib.hid (HB2.out.trans ((bx1 w2 (.cells #[.int .u8 (k : Int), .int .i64 0, .int .i64 0, .string ⟨#[]⟩, .int .u64 0, .int .u64 0, .int .u64 0, .int .u64 0, .int .i64 0, .int .i64 0] 32)).mono HB2.out.size))
  have hzz : w.heap.size < w2.heap.size := (Array.getElem?_eq_some_iff.1 HK2.out).1
  clear t0 t1 t2 t3 t4 t5 t6 t7 t8 t9 HB2 HK2
  generalize w2.heap.size = q at *
  generalize (w2.alloc (.cells #[.int .u8 (k : Int), .int .i64 0, .int .i64 0, .string ⟨#[]⟩, .int .u64 0, .int .u64 0, .int .u64 0, .int .u64 0, .int .i64 0, .int .i64 0] 32)) = w3 at *
  obtain ⟨t0, t1, t2, t3, t4, t5, t6, t7, t8, t9, tf⟩ := blk10 HK3.out
  obtain ⟨o0, o1, o2, o3, o4, o5, o6, o7, o8, o9, of⟩ := blk10 HO3.out
  have g3 := of 3; have g4 := of 4; have g5 := of 5; have g6 := of 6; have g7 := of 7; have g8 := of 8; have g9 := of 9
  clear tf of
  go_upto_region 18 with fail
  have HB4 := HB3
  have heq : ∀ w, (Op.equalIn 9999 30 (.agg #[.int .u64 (s0 : Int), .int .u64 (s1 : Int), .int .u64 (s2 : Int), .int .u64 (s3 : Int)]) (.agg #[.int .u64 0, .int .u64 0, .int .u64 0, .int .u64 0])).run Tryd.prog w = .ok (decide ((s0 : Int) = 0 ∧ (s1 : Int) = 0 ∧ (s2 : Int) = 0 ∧ (s3 : Int) = 0)) w := fun w => equal_sets _ _ _ _ _ _ _ _ w
  go_wp2_with fail
  all_goals exact bodyPost_ret (v := .bool (decide ((1 ≤ k ∧ k ≤ 16) ∧ tx = [] ∧ (s0 = 0 ∧ s1 = 0 ∧ s2 = 0 ∧ s3 = 0) ∧ lo = 0 ∧ hi = 0))) (by simp [results, Tryd.results9, go_sem, *]  <;> (intros; omega)) rfl ⟨⟨_, rfl, by simp [mayS, *] <;> (intros; omega)⟩, HB4.out⟩
set_option maxRecDepth 100000 in
set_option maxHeartbeats 2000000 in
theorem lmay_14 (x : Wd) (fr ti : Int) (w : World) (h1 : x.text.length ≤ 1000000) (hk : x.kind = 14) : Calls Tryd.prog 9 #[wdZ x fr ti] w (MayPost x w) := by
  obtain ⟨k, fr0, ti0, tx, s0, s1, s2, s3, lo, hi⟩ := x
  simp only at hk h1
  subst hk
  go_enter Tryd.func9, Tryd.ntmps9
  go_upto_region 2 with (first | (go_at_call 31; refine (bare_at 14 fr ti tx s0 s1 s2 s3 lo hi _).mono ?_; rintro e w1 ⟨rfl, hb1⟩; have HB1 := Lib.hid hb1; have HK1 := Lib.hid (bx_kept hb1 (bx_new w _)); obtain ⟨t0, t1, t2, t3, t4, t5, t6, t7, t8, t9, tf⟩ := blk10 HK1.out; have f0 := tf 0; have f1 := tf 1; have f2 := tf 2; have f3 := tf 3; have f4 := tf 4; have f5 := tf 5; have f6 := tf 6; have f7 := tf 7; have f8 := tf 8; have f9 := tf 9; clear tf hb1) | fail)
  have HK2 := Lib.hid (putW_blk HK1.out (.int .u8 (14 : Int)) (.int .i64 0) (.int .i64 0) (.string ⟨tx.toArray⟩) (.int .u64 (s0 : Int)) (.int .u64 (s1 : Int)) (.int .u64 (s2 : Int)) (.int .u64 (s3 : Int)) (.int .i64 lo) (.int .i64 hi))
  have HB2 := Lib.hid (putW_below ((bx1 w (.cells #[.int .u8 (14 : Int), .int .i64 fr, .int .i64 ti, .string ⟨tx.toArray⟩, .int .u64 (s0 : Int), .int .u64 (s1 : Int), .int .u64 (s2 : Int), .int .u64 (s3 : Int), .int .i64 lo, .int .i64 hi] 32)).trans (HB1.out.mono (by simp))) (Nat.le_refl _) (.int .u8 (14 : Int)) (.int .i64 0) (.int .i64 0) (.string ⟨tx.toArray⟩) (.int .u64 (s0 : Int)) (.int .u64 (s1 : Int)) (.int .u64 (s2 : Int)) (.int .u64 (s3 : Int)) (.int .i64 lo) (.int .i64 hi))
  unfold putW at HK2 HB2
  clear t0 t1 t2 t3 t4 t5 t6 t7 t8 t9 f0 f1 f2 f3 f4 f5 f6 f7 f8 f9 HB1 HK1
  generalize ((((((((((w1.setCell ⟨w.heap.size, 0, none⟩ (.int .u8 (14 : Int))).setCell ⟨w.heap.size, 1, none⟩ (.int .i64 0)).setCell ⟨w.heap.size, 2, none⟩ (.int .i64 0)).setCell ⟨w.heap.size, 3, none⟩ (.string ⟨tx.toArray⟩)).setCell ⟨w.heap.size, 4, none⟩ (.int .u64 (s0 : Int))).setCell ⟨w.heap.size, 5, none⟩ (.int .u64 (s1 : Int))).setCell ⟨w.heap.size, 6, none⟩ (.int .u64 (s2 : Int))).setCell ⟨w.heap.size, 7, none⟩ (.int .u64 (s3 : Int))).setCell ⟨w.heap.size, 8, none⟩ (.int .i64 lo)).setCell ⟨w.heap.size, 9, none⟩ (.int .i64 hi)) = w2 at *
  obtain ⟨t0, t1, t2, t3, t4, t5, t6, t7, t8, t9, tf⟩ := blk10 HK2.out
  clear tf
  go_upto_region 3 with fail
  have HK3 := Lib.hid (bx_kept (bx1 w2 (.cells #[.int .u8 (14 : Int), .int .i64 0, .int .i64 0, .string ⟨#[]⟩, .int .u64 0, .int .u64 0, .int .u64 0, .int .u64 0, .int .i64 0, .int .i64 0] 32)) HK2.out)
  have HO3 := Lib.hid (bx_new w2 (.cells #[.int .u8 (14 : Int), .int .i64 0, .int .i64 0, .string ⟨#[]⟩, .int .u64 0, .int .u64 0, .int .u64 0, .int .u64 0, .int .i64 0, .int .i64 0] 32))
  have HB3 := Lib.hid (HB2.out.trans ((bx1 w2 (.cells #[.int .u8 (14 : Int), .int .i64 0, .int .i64 0, .string ⟨#[]⟩, .int .u64 0, .int .u64 0, .int .u64 0, .int .u64 0, .int .i64 0, .int .i64 0] 32)).mono HB2.out.size))
  have hzz : w.heap.size < w2.heap.size := (Array.getElem?_eq_some_iff.1 HK2.out).1
  clear t0 t1 t2 t3 t4 t5 t6 t7 t8 t9 HB2 HK2
  generalize w2.heap.size = q at *
  generalize (w2.alloc (.cells #[.int .u8 (14 : Int), .int .i64 0, .int .i64 0, .string ⟨#[]⟩, .int .u64 0, .int .u64 0, .int .u64 0, .int .u64 0, .int .i64 0, .int .i64 0] 32)) = w3 at *
  obtain ⟨t0, t1, t2, t3, t4, t5, t6, t7, t8, t9, tf⟩ := blk10 HK3.out
  obtain ⟨o0, o1, o2, o3, o4, o5, o6, o7, o8, o9, of⟩ := blk10 HO3.out
  have g3 := of 3; have g4 := of 4; have g5 := of 5; have g6 := of 6; have g7 := of 7; have g8 := of 8; have g9 := of 9
  clear tf of
  by_cases c1 : lo < 0
  · have c2 : ¬ 0 ≤ lo := by omega
    go_wp2_with fail
    all_goals exact bodyPost_ret (v := .bool (false)) (by simp [results, Tryd.results9, go_sem, *] ) rfl ⟨⟨_, rfl, ⟨fun h => (by cases h), fun h => (by have := h.2.2.1 rfl; simp only at this; omega)⟩⟩, HB3.out⟩
  by_cases c3 : 99 < lo
  · have c2 : 0 ≤ lo := by omega
    go_wp2_with fail
    all_goals exact bodyPost_ret (v := .bool (false)) (by simp [results, Tryd.results9, go_sem, *] ) rfl ⟨⟨_, rfl, ⟨fun h => (by cases h), fun h => (by have := h.2.2.1 rfl; simp only at this; omega)⟩⟩, HB3.out⟩
  have d1 : 0 ≤ lo := by omega
  have d2 : lo ≤ 99 := by omega
  by_cases c4 : hi = -1
  · have c5 : (hi != -1) = false := by simp [c4]
    have c6 : (hi == -1) = true := by simp [c4]
    subst c4
    go_upto_region 17 with fail
    go_region
    have HO4 := Lib.hid (show ((w3.setCell ⟨q, 8, none⟩ (.int .i64 lo)).setCell ⟨q, 9, none⟩ (.int .i64 (-1))).heap[q]? = some (.cells #[.int .u8 (14 : Int), .int .i64 0, .int .i64 0, .string ⟨#[]⟩, .int .u64 0, .int .u64 0, .int .u64 0, .int .u64 0, .int .i64 lo, .int .i64 (-1)] 32 (0, 0)) from by
      have e1 : (w3.setCell ⟨q, 8, none⟩ (.int .i64 lo)).heap[q]? = some (.cells #[.int .u8 (14 : Int), .int .i64 0, .int .i64 0, .string ⟨#[]⟩, .int .u64 0, .int .u64 0, .int .u64 0, .int .u64 0, .int .i64 lo, .int .i64 0] 32 (0, 0)) := heap_setCell_same _ q 8 _ _ _ HO3.out
      have e2 : ((w3.setCell ⟨q, 8, none⟩ (.int .i64 lo)).setCell ⟨q, 9, none⟩ (.int .i64 (-1))).heap[q]? = some (.cells #[.int .u8 (14 : Int), .int .i64 0, .int .i64 0, .string ⟨#[]⟩, .int .u64 0, .int .u64 0, .int .u64 0, .int .u64 0, .int .i64 lo, .int .i64 (-1)] 32 (0, 0)) := heap_setCell_same _ q 9 _ _ _ e1
      exact e2)
    have HK4 := Lib.hid (show ((w3.setCell ⟨q, 8, none⟩ (.int .i64 lo)).setCell ⟨q, 9, none⟩ (.int .i64 (-1))).heap[w.heap.size]? = some (.cells #[.int .u8 (14 : Int), .int .i64 0, .int .i64 0, .string ⟨tx.toArray⟩, .int .u64 (s0 : Int), .int .u64 (s1 : Int), .int .u64 (s2 : Int), .int .u64 (s3 : Int), .int .i64 lo, .int .i64 (-1)] 32 (0, 0)) from by
      rw [Below.heap_setCell _ _ _ _ (by simp; omega), Below.heap_setCell _ _ _ _ (by simp; omega)]; exact HK3.out)
    have HB4 := Lib.hid ((HB3.out.setCell (p := ⟨q, 8, none⟩) (by simp; omega) (.int .i64 lo)).setCell (p := ⟨q, 9, none⟩) (by simp; omega) (.int .i64 (-1)))
    have HO4 := Lib.hid (show (((w3.setCell ⟨q, 8, none⟩ (.int .i64 lo)).setCell ⟨q, 9, none⟩ (.int .i64 (-1))).drew).heap[q]? = _ from HO4.out)
    have HK4 := Lib.hid (show (((w3.setCell ⟨q, 8, none⟩ (.int .i64 lo)).setCell ⟨q, 9, none⟩ (.int .i64 (-1))).drew).heap[w.heap.size]? = _ from HK4.out)
    have HB4 := Lib.hid HB4.out.drew
    clear t0 t1 t2 t3 t4 t5 t6 t7 t8 t9 o0 o1 o2 o3 o4 o5 o6 o7 o8 o9 g3 g4 g5 g6 g7 g8 g9 HK3 HO3 HB3
    generalize (((w3.setCell ⟨q, 8, none⟩ (.int .i64 lo)).setCell ⟨q, 9, none⟩ (.int .i64 (-1))).drew) = w4 at *
    obtain ⟨t0, t1, t2, t3, t4, t5, t6, t7, t8, t9, _⟩ := blk10 HK4.out
    obtain ⟨o0, o1, o2, o3, o4, o5, o6, o7, o8, o9, _⟩ := blk10 HO4.out
    have heq : ∀ w, (Op.equalIn 9999 30 (.agg #[.int .u64 (s0 : Int), .int .u64 (s1 : Int), .int .u64 (s2 : Int), .int .u64 (s3 : Int)]) (.agg #[.int .u64 0, .int .u64 0, .int .u64 0, .int .u64 0])).run Tryd.prog w = .ok (decide ((s0 : Int) = 0 ∧ (s1 : Int) = 0 ∧ (s2 : Int) = 0 ∧ (s3 : Int) = 0)) w := fun w => equal_sets _ _ _ _ _ _ _ _ w
    go_wp2_with fail
    all_goals exact bodyPost_ret (v := .bool (decide (tx = [] ∧ (s0 = 0 ∧ s1 = 0 ∧ s2 = 0 ∧ s3 = 0)))) (by simp [results, Tryd.results9, go_sem, *]  <;> (intros; omega)) rfl ⟨⟨_, rfl, by simp [mayS, *] <;> (intros; omega)⟩, HB4.out⟩
  by_cases c7 : hi < lo
  · have c5 : (hi != -1) = true := by simp [c4]
    have c6 : (hi == -1) = false := by simp [c4]
    go_wp2_with fail
    all_goals exact bodyPost_ret (v := .bool (false)) (by simp [results, Tryd.results9, go_sem, *] ) rfl ⟨⟨_, rfl, ⟨fun h => (by cases h), fun h => (by have := h.2.2.1 rfl; simp only at this; omega)⟩⟩, HB3.out⟩
  by_cases c8 : 99 < hi
  · have c5 : (hi != -1) = true := by simp [c4]
    have c6 : (hi == -1) = false := by simp [c4]
    go_wp2_with fail
    all_goals exact bodyPost_ret (v := .bool (false)) (by simp [results, Tryd.results9, go_sem, *] ) rfl ⟨⟨_, rfl, ⟨fun h => (by cases h), fun h => (by have := h.2.2.1 rfl; simp only at this; omega)⟩⟩, HB3.out⟩
  have c5 : (hi != -1) = true := by simp [c4]
  have c6 : (hi == -1) = false := by simp [c4]
  go_upto_region 17 with fail
  go_region
  have HO4 := Lib.hid (show ((w3.setCell ⟨q, 8, none⟩ (.int .i64 lo)).setCell ⟨q, 9, none⟩ (.int .i64 hi)).heap[q]? = some (.cells #[.int .u8 (14 : Int), .int .i64 0, .int .i64 0, .string ⟨#[]⟩, .int .u64 0, .int .u64 0, .int .u64 0, .int .u64 0, .int .i64 lo, .int .i64 hi] 32 (0, 0)) from by
    have e1 : (w3.setCell ⟨q, 8, none⟩ (.int .i64 lo)).heap[q]? = some (.cells #[.int .u8 (14 : Int), .int .i64 0, .int .i64 0, .string ⟨#[]⟩, .int .u64 0, .int .u64 0, .int .u64 0, .int .u64 0, .int .i64 lo, .int .i64 0] 32 (0, 0)) := heap_setCell_same _ q 8 _ _ _ HO3.out
    have e2 : ((w3.setCell ⟨q, 8, none⟩ (.int .i64 lo)).setCell ⟨q, 9, none⟩ (.int .i64 hi)).heap[q]? = some (.cells #[.int .u8 (14 : Int), .int .i64 0, .int .i64 0, .string ⟨#[]⟩, .int .u64 0, .int .u64 0, .int .u64 0, .int .u64 0, .int .i64 lo, .int .i64 hi] 32 (0, 0)) := heap_setCell_same _ q 9 _ _ _ e1
    exact e2)
  have HK4 := Lib.hid (show ((w3.setCell ⟨q, 8, none⟩ (.int .i64 lo)).setCell ⟨q, 9, none⟩ (.int .i64 hi)).heap[w.heap.size]? = some (.cells #[.int .u8 (14 : Int), .int .i64 0, .int .i64 0, .string ⟨tx.toArray⟩, .int .u64 (s0 : Int), .int .u64 (s1 : Int), .int .u64 (s2 : Int), .int .u64 (s3 : Int), .int .i64 lo, .int .i64 hi] 32 (0, 0)) from by
    rw [Below.heap_setCell _ _ _ _ (by simp; omega), Below.heap_setCell _ _ _ _ (by simp; omega)]; exact HK3.out)
  have HB4 := Lib.hid ((HB3.out.setCell (p := ⟨q, 8, none⟩) (by simp; omega) (.int .i64 lo)).setCell (p := ⟨q, 9, none⟩) (by simp; omega) (.int .i64 hi))
  have HO4 := Lib.hid (show (((w3.setCell ⟨q, 8, none⟩ (.int .i64 lo)).setCell ⟨q, 9, none⟩ (.int .i64 hi)).drew).heap[q]? = _ from HO4.out)
  have HK4 := Lib.hid (show (((w3.setCell ⟨q, 8, none⟩ (.int .i64 lo)).setCell ⟨q, 9, none⟩ (.int .i64 hi)).drew).heap[w.heap.size]? = _ from HK4.out)
  have HB4 := Lib.hid HB4.out.drew
  clear t0 t1 t2 t3 t4 t5 t6 t7 t8 t9 o0 o1 o2 o3 o4 o5 o6 o7 o8 o9 g3 g4 g5 g6 g7 g8 g9 HK3 HO3 HB3
  generalize (((w3.setCell ⟨q, 8, none⟩ (.int .i64 lo)).setCell ⟨q, 9, none⟩ (.int .i64 hi)).drew) = w4 at *
  obtain ⟨t0, t1, t2, t3, t4, t5, t6, t7, t8, t9, _⟩ := blk10 HK4.out
  obtain ⟨o0, o1, o2, o3, o4, o5, o6, o7, o8, o9, _⟩ := blk10 HO4.out
  have heq : ∀ w, (Op.equalIn 9999 30 (.agg #[.int .u64 (s0 : Int), .int .u64 (s1 : Int), .int .u64 (s2 : Int), .int .u64 (s3 : Int)]) (.agg #[.int .u64 0, .int .u64 0, .int .u64 0, .int .u64 0])).run Tryd.prog w = .ok (decide ((s0 : Int) = 0 ∧ (s1 : Int) = 0 ∧ (s2 : Int) = 0 ∧ (s3 : Int) = 0)) w := fun w => equal_sets _ _ _ _ _ _ _ _ w
  go_wp2_with fail
  all_goals exact bodyPost_ret (v := .bool (decide (tx = [] ∧ (s0 = 0 ∧ s1 = 0 ∧ s2 = 0 ∧ s3 = 0)))) (by simp [results, Tryd.results9, go_sem, *]  <;> (intros; omega)) rfl ⟨⟨_, rfl, by simp [mayS, *] <;> (intros; omega)⟩, HB4.out⟩
theorem lmay_z (x : Wd) (fr ti : Int) (w : World) (h1 : x.text.length ≤ 1000000) : Calls Tryd.prog 9 #[wdZ x fr ti] w (MayPost x w) := by
  by_cases h16 : x.kind = 16
  · exact lmay_16 x fr ti w h1 h16
  by_cases h15 : x.kind = 15
  · exact lmay_15 x fr ti w h1 h15
  by_cases h14 : x.kind = 14
  · exact lmay_14 x fr ti w h1 h14
  by_cases h11 : x.kind = 1
  · exact lmay_1 x fr ti w h1 h11
  exact lmay_0 x fr ti w h1 ⟨h11, h14, h15, h16⟩
theorem lmay_any (x : Wd) (w : World) (h1 : x.text.length ≤ 1000000) : Calls Tryd.prog 9 #[wdV x] w (MayPost x w) := lmay_z x x.frm x.til w h1
end Go.Proofs.YtabncmckojlllaaDoor
