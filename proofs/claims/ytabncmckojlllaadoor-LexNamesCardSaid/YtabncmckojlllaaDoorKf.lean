/- The contract of the law's own works. -/
import Derived.Test.YtabncmckojlllaaDoorKe
namespace Go.Proofs.YtabncmckojlllaaDoor
open Go.RowKit Go.Shelf
set_option linter.unusedSimpArgs false
set_option linter.unusedVariables false

/-- The cells of a told word. -/
theorem word_cells {w : World} {b g n c : Nat} {l : List Wd} (h : w.ownsRow b 32 10 (.slice (some ⟨g, 0, none⟩) n c) n (wdL l)) (i : Nat) (x : Wd) (hx : l[i]? = some x) (j : Nat) (hj : j < 10) :
    w.cell? ⟨g, i * 10 + j, none⟩ = (wdC x)[j]? := by
  have hl : (wdL l)[i * 10 + j]? = (wdC x)[j]? := by
    clear h
    induction l generalizing i with
    | nil => cases hx
    | cons y l ih =>
      have hy : (wdC y).toList.length = 10 := rfl
      have e : wdL (y :: l) = (wdC y).toList ++ wdL l := by simp [wdL]
      rw [e]
      cases i with
      | zero =>
        simp at hx; subst hx
        rw [List.getElem?_append_left (by omega), Nat.zero_mul, Nat.zero_add, Array.getElem?_toList]
      | succ i =>
        rw [List.getElem?_append_right (by omega), hy, show (i + 1) * 10 + j - 10 = i * 10 + j by omega]
        exact ih i (by simpa using hx)
  have hlen : i * 10 + j < (wdL l).length := by
    rw [wdL_len]
    have := (List.getElem?_eq_some_iff.1 hx).1
    omega
  have := World.ownsRow.cellAt h (i * 10 + j) (by rw [← h.1]; exact hlen)
  rw [this, ← hl]
/-- The ten cells of a told word, and of the words behind it. -/
theorem word_ten {w : World} {b g n c : Nat} {l : List Wd} (h : w.ownsRow b 32 10 (.slice (some ⟨g, 0, none⟩) n c) n (wdL l)) (i o : Nat) (ho : o = i * 10) (x : Wd) (hx : l[i]? = some x) :
    w.cell? ⟨g, o, none⟩ = some (.int .u8 (x.kind : Int)) ∧ w.cell? ⟨g, o + 1, none⟩ = some (.int .i64 (x.frm : Int)) ∧ w.cell? ⟨g, o + 2, none⟩ = some (.int .i64 (x.til : Int)) ∧ w.cell? ⟨g, o + 3, none⟩ = some (.string ⟨x.text.toArray⟩) ∧
    w.cell? ⟨g, o + 4, none⟩ = some (.int .u64 (x.s0 : Int)) ∧ w.cell? ⟨g, o + 5, none⟩ = some (.int .u64 (x.s1 : Int)) ∧ w.cell? ⟨g, o + 6, none⟩ = some (.int .u64 (x.s2 : Int)) ∧ w.cell? ⟨g, o + 7, none⟩ = some (.int .u64 (x.s3 : Int)) ∧
    w.cell? ⟨g, o + 8, none⟩ = some (.int .i64 x.low) ∧ w.cell? ⟨g, o + 9, none⟩ = some (.int .i64 x.high) := by
  subst ho
  exact ⟨word_cells h i x hx 0 (by decide), word_cells h i x hx 1 (by decide), word_cells h i x hx 2 (by decide), word_cells h i x hx 3 (by decide), word_cells h i x hx 4 (by decide), word_cells h i x hx 5 (by decide), word_cells h i x hx 6 (by decide), word_cells h i x hx 7 (by decide), word_cells h i x hx 8 (by decide), word_cells h i x hx 9 (by decide)⟩
def WorksPost (w : World) (e : Ending) (w' : World) : Prop := e = .returned (.bool true) ∧ Below w.heap.size w w'
theorem is_ex0 (w : World) : Calls Tryd.prog 29 #[.agg #[.int .u8 1, .int .i64 0, .int .i64 1, .string ⟨#[97]⟩, .int .u64 0, .int .u64 0, .int .u64 0, .int .u64 0, .int .i64 0, .int .i64 0], .int .u8 1, .int .i64 0, .int .i64 1, .string ⟨#[97]⟩] w (WorksPost w) :=
  (show Calls Tryd.prog 29 _ w _ from is_any ⟨1, 0, 1, [97], 0, 0, 0, 0, 0, 0⟩ 1 0 1 [97] w).mono fun e w' h => ⟨h.1.trans (by rw [decide_eq_true (by decide)]), h.2⟩
theorem is_ex1 (w : World) : Calls Tryd.prog 29 #[.agg #[.int .u8 2, .int .i64 1, .int .i64 3, .string ⟨#[]⟩, .int .u64 0, .int .u64 0, .int .u64 0, .int .u64 0, .int .i64 0, .int .i64 0], .int .u8 2, .int .i64 1, .int .i64 3, .string ⟨#[]⟩] w (WorksPost w) :=
  (show Calls Tryd.prog 29 _ w _ from is_any ⟨2, 1, 3, [], 0, 0, 0, 0, 0, 0⟩ 2 1 3 [] w).mono fun e w' h => ⟨h.1.trans (by rw [decide_eq_true (by decide)]), h.2⟩
theorem is_ex2 (w : World) : Calls Tryd.prog 29 #[.agg #[.int .u8 1, .int .i64 3, .int .i64 4, .string ⟨#[98]⟩, .int .u64 0, .int .u64 0, .int .u64 0, .int .u64 0, .int .i64 0, .int .i64 0], .int .u8 1, .int .i64 3, .int .i64 4, .string ⟨#[98]⟩] w (WorksPost w) :=
  (show Calls Tryd.prog 29 _ w _ from is_any ⟨1, 3, 4, [98], 0, 0, 0, 0, 0, 0⟩ 1 3 4 [98] w).mono fun e w' h => ⟨h.1.trans (by rw [decide_eq_true (by decide)]), h.2⟩
theorem is_ex3 (w : World) : Calls Tryd.prog 29 #[.agg #[.int .u8 3, .int .i64 7, .int .i64 8, .string ⟨#[]⟩, .int .u64 0, .int .u64 0, .int .u64 0, .int .u64 0, .int .i64 0, .int .i64 0], .int .u8 3, .int .i64 7, .int .i64 8, .string ⟨#[]⟩] w (WorksPost w) :=
  (show Calls Tryd.prog 29 _ w _ from is_any ⟨3, 7, 8, [], 0, 0, 0, 0, 0, 0⟩ 3 7 8 [] w).mono fun e w' h => ⟨h.1.trans (by rw [decide_eq_true (by decide)]), h.2⟩
theorem is_ex4 (w : World) : Calls Tryd.prog 29 #[.agg #[.int .u8 14, .int .i64 8, .int .i64 12, .string ⟨#[]⟩, .int .u64 0, .int .u64 0, .int .u64 0, .int .u64 0, .int .i64 2, .int .i64 (-1)], .int .u8 14, .int .i64 8, .int .i64 12, .string ⟨#[]⟩] w (WorksPost w) :=
  (show Calls Tryd.prog 29 _ w _ from is_any ⟨14, 8, 12, [], 0, 0, 0, 0, 2, (-1)⟩ 14 8 12 [] w).mono fun e w' h => ⟨h.1.trans (by rw [decide_eq_true (by decide)]), h.2⟩
set_option maxRecDepth 100000 in
set_option maxHeartbeats 2000000 in
theorem works_any (w : World) : Calls Tryd.prog 7 #[] w (WorksPost w) := by
  go_enter Tryd.func7, Tryd.ntmps7
  go_wp2_with (first | (go_at_call 8; refine (words_any ⟨#[97, 60, 45, 98, 35, 99, 10, 47, 123, 50, 44, 125]⟩ _ (by decide)).mono ?_; rintro e w1 ⟨A, c, rfl, hr, hb⟩; rw [show wordsL (⟨#[97, 60, 45, 98, 35, 99, 10, 47, 123, 50, 44, 125]⟩ : ByteArray).data.toList = _ from exA_words] at hr ⊢; obtain ⟨g, rfl, _, _⟩ := own_some hr (by decide); have HR := Lib.hid hr; have HB := Lib.hid hb; obtain ⟨t0, t1, t2, t3, t4, t5, t6, t7, t8, t9⟩ := word_ten hr 0 0 rfl _ rfl; clear hb hr; simp only [List.length_cons, List.length_nil]) | (go_at_call 29; (with_reducible refine (is_ex0 _).mono ?_); rintro e w' ⟨rfl, hb⟩; have hr := HR.out.kept (grown_none hb) (.inr (by simp [Value.ownBlock])); have hb1 := HB.out.trans (hb.mono HB.out.size); clear t0 t1 t2 t3 t4 t5 t6 t7 t8 t9 HR HB; obtain ⟨t0, t1, t2, t3, t4, t5, t6, t7, t8, t9⟩ := word_ten hr 1 10 rfl _ rfl; have HR := Lib.hid hr; have HB := Lib.hid hb1; clear hr hb hb1) | (go_at_call 29; (with_reducible refine (is_ex1 _).mono ?_); rintro e w' ⟨rfl, hb⟩; have hr := HR.out.kept (grown_none hb) (.inr (by simp [Value.ownBlock])); have hb1 := HB.out.trans (hb.mono HB.out.size); clear t0 t1 t2 t3 t4 t5 t6 t7 t8 t9 HR HB; obtain ⟨t0, t1, t2, t3, t4, t5, t6, t7, t8, t9⟩ := word_ten hr 2 20 rfl _ rfl; have HR := Lib.hid hr; have HB := Lib.hid hb1; clear hr hb hb1) | (go_at_call 29; (with_reducible refine (is_ex2 _).mono ?_); rintro e w' ⟨rfl, hb⟩; have hr := HR.out.kept (grown_none hb) (.inr (by simp [Value.ownBlock])); have hb1 := HB.out.trans (hb.mono HB.out.size); clear t0 t1 t2 t3 t4 t5 t6 t7 t8 t9 HR HB; obtain ⟨t0, t1, t2, t3, t4, t5, t6, t7, t8, t9⟩ := word_ten hr 3 30 rfl _ rfl; have HR := Lib.hid hr; have HB := Lib.hid hb1; clear hr hb hb1) | (go_at_call 29; (with_reducible refine (is_ex3 _).mono ?_); rintro e w' ⟨rfl, hb⟩; have hr := HR.out.kept (grown_none hb) (.inr (by simp [Value.ownBlock])); have hb1 := HB.out.trans (hb.mono HB.out.size); clear t0 t1 t2 t3 t4 t5 t6 t7 t8 t9 HR HB; obtain ⟨t0, t1, t2, t3, t4, t5, t6, t7, t8, t9⟩ := word_ten hr 4 40 rfl _ rfl; have HR := Lib.hid hr; have HB := Lib.hid hb1; clear hr hb hb1) | (go_at_call 29; (with_reducible refine (is_ex4 _).mono ?_); rintro e w' ⟨rfl, hb⟩; have hr := HR.out.kept (grown_none hb) (.inr (by simp [Value.ownBlock])); have hb1 := HB.out.trans (hb.mono HB.out.size); clear t0 t1 t2 t3 t4 t5 t6 t7 t8 t9 HR HB; obtain ⟨t0, t1, t2, t3, t4, t5, t6, t7, t8, t9⟩ := word_ten hr 4 40 rfl _ rfl; have HR := Lib.hid hr; have HB := Lib.hid hb1; clear hr hb hb1) | (go_at_call 11; (with_reducible refine (wrong_any ⟨#[60, 32, 45]⟩ _ (by decide)).mono ?_); rintro e w' ⟨rfl, hb⟩; rw [show wrongL (⟨#[60, 32, 45]⟩ : ByteArray).data.toList = _ from exB_wrong]; have hb1 := HB.out.trans (hb.mono HB.out.size); clear HB; have HB := Lib.hid hb1; clear hb hb1) | (go_at_call 11; (with_reducible refine (wrong_any ⟨#[123, 50, 44, 49, 125]⟩ _ (by decide)).mono ?_); rintro e w' ⟨rfl, hb⟩; rw [show wrongL (⟨#[123, 50, 44, 49, 125]⟩ : ByteArray).data.toList = _ from exC_wrong]; have hb1 := HB.out.trans (hb.mono HB.out.size); clear HB; have HB := Lib.hid hb1; clear hb hb1) | (go_at_call 11; (with_reducible refine (wrong_any ⟨#[120, 32, 34, 97, 98]⟩ _ (by decide)).mono ?_); rintro e w' ⟨rfl, hb⟩; rw [show wrongL (⟨#[120, 32, 34, 97, 98]⟩ : ByteArray).data.toList = _ from exD_wrong]; have hb1 := HB.out.trans (hb.mono HB.out.size); clear HB; have HB := Lib.hid hb1; clear hb hb1) | (go_at_call 11; (with_reducible refine (wrong_any ⟨#[]⟩ _ (by decide)).mono ?_); rintro e w' ⟨rfl, hb⟩; rw [show wrongL (⟨#[]⟩ : ByteArray).data.toList = _ from exE_wrong]; have hb1 := HB.out.trans (hb.mono HB.out.size); clear HB; have HB := Lib.hid hb1; clear hb hb1) | fail)
  exact bodyPost_ret (v := .bool true) (by simp [results, Tryd.results7, go_sem]) rfl ⟨rfl, HB.out⟩
end Go.Proofs.YtabncmckojlllaaDoor
