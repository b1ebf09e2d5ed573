/- The small functions of the laws of layer 14: spoil, copied, first, texts, some. -/
import Derived.Test.YtogmkekbdfckpaaDoorSn
import Derived.Test.YtogmkekbdfckpaaDoorSl
namespace Go.Proofs.YtogmkekbdfckpaaDoor
open Go.RowKit
set_option linter.unusedSimpArgs false
set_option linter.unusedVariables false

set_option maxRecDepth 100000 in
set_option maxHeartbeats 1600000 in
theorem spoil_any (o : Outc) (A : Option Addr) (c B : Nat) (w : World) (hown : OwnCaps w B (.slice A o.caps.length c) o.caps) (hB : B ≤ w.heap.size) (hl : o.caps.length ≤ 281474976710656) :
    Calls Tryd.prog 30 #[outV A c o] w fun e w' => e = .returned (.tuple #[]) ∧ Below B w w' := by
  obtain ⟨ok, to, l⟩ := o
  simp only at hown hl
  go_enter Tryd.func30, Tryd.ntmps30
  have HO := Lib.hid (show (w.alloc (.cells #[.bool ok, .int .i64 to, .slice A l.length c] 24)).ownsRow B 33 3 (.slice A l.length c) l.length (cellsOf l) from World.ownsRow.alloc hown _)
  have HK := Lib.hid (heap_alloc_new w (.cells #[.bool ok, .int .i64 to, .slice A l.length c] 24))
  have HB := Lib.hid ((Below.refl B w).alloc hB (.cells #[.bool ok, .int .i64 to, .slice A l.length c] 24))
  clear hown
  go_wp2_with fail
  go_loopw [2] (fun i wr => ∃ (k : Nat) (xs : List Value), k ≤ l.length ∧ i = .int .i64 k ∧ wr.ownsRow B 33 3 (.slice A l.length c) l.length xs ∧ wr.heap[w.heap.size]? = some (.cells #[.bool ok, .int .i64 to, .slice A l.length c] 24 (0, 0)) ∧ Below B w wr) (fun i _ => l.length - (intOf i).toNat)
  case atStart => exact ⟨0, _, by omega, rfl, HO.out, HK.out, HB.out⟩
  case round =>
    clear HO HK HB
    obtain ⟨k, xs, hk, rfl, hown, hbox, hb⟩ := hrel
    have HO := Lib.hid hown; clear hown
    obtain ⟨b1, b2, b3, _, _, _⟩ := blk3 hbox
    have HK := Lib.hid hbox; clear hbox
    have HB := Lib.hid hb; clear hb
    by_cases hlt : k < l.length
    · have hxl := HO.out.1
      obtain ⟨g, hg1, hg2, hgne, rfl⟩ : ∃ g, B ≤ g ∧ g < wr.heap.size ∧ g ≠ w.heap.size ∧ A = some ⟨g, 0, none⟩ := by
        rcases HO.out.2 with ⟨hv, h0⟩ | ⟨g, cap, cur, hv, hg, hh, _⟩
        · omega
        · injection hv with hA
          refine ⟨g, hg, heap_lt hh, fun e => ?_, hA⟩
          subst e; rw [HK.out] at hh; injection hh with hh; injection hh with _ hT; exact absurd hT (by decide)
      have x1 := (World.ownsRow.cellAt HO.out (k * 3 + 1) (by omega)).trans (List.getElem?_eq_getElem (by rw [hxl]; omega))
      have y1 := World.ownsRow.frozenAt HO.out (k * 3 + 1)
      go_wp2_with fail
      exact ⟨⟨k + 1, _, by omega, by go_num, (World.ownsRow.stored HO.out _ _).1, (Below.heap_setCell _ _ _ _ (fun e => hgne e.symm)).trans HK.out, HB.out.setCell (p := ⟨g, k * 3 + 1, none⟩) hg1 _⟩, by simp [intOf]; omega⟩
    · go_wp2_with fail
      go_end0
      exact ⟨rfl, HB.out⟩

set_option maxRecDepth 100000 in
set_option maxHeartbeats 1600000 in
theorem copied_any (o : Outc) (A : Option Addr) (c : Nat) (w : World) (hA : RowAt w A (cellsOf o.caps)) (hl : o.caps.length ≤ 4294967296) :
    Calls Tryd.prog 19 #[outV A c o] w fun e w' => ∃ v, e = .returned v ∧ OutOwn w' w.heap.size v o ∧ Below w.heap.size w w' := by
  obtain ⟨ok, to, l⟩ := o
  simp only at hA hl
  obtain ⟨i0, hi, hz0, hz1, hz2⟩ := info_parts infoCap
  have hzc : (Value.agg #[.string ByteArray.empty, .int .i64 0, .int .i64 0]).cells.size = 3 := rfl
  go_enter Tryd.func19, Tryd.ntmps19
  have HO1 := Lib.hid (show (((w.alloc (.cells #[.bool ok, .int .i64 to, .slice A l.length c] 24)).alloc (.cells #[.bool false, .int .i64 0, .slice none 0 0] 24)).alloc (.cells #[] 33)).ownsRow (w.heap.size + 2) 33 3 (.slice (some ⟨w.heap.size + 1 + 1, 0, none⟩) 0 0) 0 [] from
    ⟨rfl, .inr ⟨w.heap.size + 1 + 1, 0, #[], rfl, by omega, by have h := heap_alloc_new ((w.alloc (.cells #[.bool ok, .int .i64 to, .slice A l.length c] 24)).alloc (.cells #[.bool false, .int .i64 0, .slice none 0 0] 24)) (.cells #[] 33); simpa using h, Nat.le_refl _, by unfold maxLen; omega, rfl, rfl⟩⟩)
  go_wp2_with (first | (at_builtin; refine wpList_append_row _ rfl (.tmp 3) (.tmp 5) _ rfl (w.heap.size + 2) 33 i0 _ 3 32 Tryd.underlying22 hi hz0 hz1 hz2 hzc (by decide) _ _ _ rfl HO1.out A l.length c (cellsOf l) rfl (cellsOf_length l) (hA.below (box3 _ _ _ _)) (cellsOf_one _) ?_ ?_ ?_ ?_))
  · unfold maxLen; omega
  · omega
  · simp
  intro v2 w2 hown2 hgrow2
  have HB2 := Lib.hid (((Below.refl (w.heap.size + 2) (((w.alloc (.cells #[.bool ok, .int .i64 to, .slice A l.length c] 24)).alloc (.cells #[.bool false, .int .i64 0, .slice none 0 0] 24)).alloc (.cells #[] 33)))).grown hgrow2 (by simp) (fun k e => by have := (World.ownsRow.lt HO1.out k e).1; omega))
  obtain ⟨C2, c2, rfl⟩ := ownsRow_slice hown2
  have HO2 := Lib.hid hown2
  have hz2w := HB2.out.size
  obtain ⟨k1, k2⟩ : w2.heap[w.heap.size]? = some (.cells #[.bool ok, .int .i64 to, .slice A l.length c] 24 (0, 0)) ∧ w2.heap[w.heap.size + 1]? = some (.cells #[.bool false, .int .i64 0, .slice none 0 0] 24 (0, 0)) :=
    ⟨(HB2.out.block _ (by omega)).trans (heap_alloc_old (heap_alloc_old (heap_alloc_new _ _))), (HB2.out.block _ (by omega)).trans (heap_alloc_old (by have h := heap_alloc_new (w.alloc (.cells #[.bool ok, .int .i64 to, .slice A l.length c] 24)) (.cells #[.bool false, .int .i64 0, .slice none 0 0] 24); simpa using h))⟩
  obtain ⟨a1, a2, a3, a4, a5, a6⟩ := blk3 k1
  obtain ⟨c1, c2', c3, c4, c5, c6⟩ := blk3 k2
  clear k1 k2 hown2 hgrow2
  go_wp2_with fail
  exact bodyPost_ret (v := outV C2 c2 ⟨ok, to, l⟩) (by simp [results, Tryd.results19, go_sem, c1, c2', c3, a1, a2, a3]) rfl ⟨_, rfl, ⟨C2, c2, rfl, set3' (OwnCaps.set (show OwnCaps w2 (w.heap.size + 2) (.slice C2 l.length c2) l from HO2.out) (a := ⟨w.heap.size, 2, none⟩) (by simp) _) (by omega) (by omega)⟩, set3b ((((box2 w _ _).alloc (by simp; omega) _).trans (HB2.out.mono (by omega))).setCell (p := ⟨w.heap.size, 2, none⟩) (Nat.le_refl _) _) (by omega)⟩

set_option maxHeartbeats 800000 in
theorem first_any (o : Outc) (A : Option Addr) (c : Nat) (w : World) (hA : RowAt w A (cellsOf o.caps)) (hl : o.caps.length ≤ 4294967296) :
    Calls Tryd.prog 14 #[outV A c o] w fun e w' => e = .returned (.int .i64 ((o.caps.head?.map Cap.frm).getD o.to)) ∧ Below w.heap.size w w' := by
  obtain ⟨ok, to, l⟩ := o
  simp only at hA hl
  cases l with
  | nil =>
    go_enter Tryd.func14, Tryd.ntmps14
    go_wp2_with fail
    go_ret
    exact ⟨rfl, box1 _ _⟩
  | cons d r =>
    obtain ⟨ab, ao, hAe, x1, x2, x3⟩ := (hA.below (box1 w (.cells #[.bool ok, .int .i64 to, .slice A (d :: r).length c] 24))).caps 0 (by simp)
    subst hAe
    simp only [List.getElem_cons_zero, Nat.zero_mul, Nat.add_zero, List.length_cons] at x1 x2 x3
    have hlen : ((d :: r).length : Int) = (r.length : Int) + 1 := by simp
    have HA := Lib.hid hA
    go_enter Tryd.func14, Tryd.ntmps14
    go_wp2_with fail
    go_ret
    exact ⟨rfl, box1 _ _⟩

theorem strs_caps {w : World} {A : Option Addr} {ss : List ByteArray} (h : RowAt w A (ss.map Value.string)) (k : Nat) (hk : k < ss.length) : ∃ b o, A = some ⟨b, o, none⟩ ∧ w.cell? ⟨b, o + k, none⟩ = some (.string ss[k]) := by
  obtain ⟨ad, e, hc⟩ := h k (.string ss[k]) (by simp [List.getElem?_eq_getElem hk])
  obtain ⟨ad0, e0, hc0⟩ := h 0 (.string ss[0]) (by simp [List.getElem?_eq_getElem (show 0 < ss.length by omega)])
  rw [e] at e0; cases e0
  obtain ⟨b, o, sp⟩ := ad
  rw [Addr.add_zero'] at hc0
  obtain rfl := cellSpot hc0
  refine ⟨b, o, e, ?_⟩
  by_cases h0 : k = 0
  · subst h0; exact hc0
  · rw [← hc]; congr 1; unfold Addr.add; simp [h0]

set_option maxHeartbeats 800000 in
theorem ltexts_any (l m : List ByteArray) (A B : Option Addr) (c d : Nat) (w : World) (hA : RowAt w A (l.map .string)) (hB : RowAt w B (m.map .string)) (hl : l.length ≤ 281474976710656) (hm : m.length ≤ 281474976710656) :
    Calls Tryd.prog 22 #[.slice A l.length c, .slice B m.length d] w fun e w' => e = .returned (.bool (decide (l = m))) ∧ Below w.heap.size w w' := by
  go_enter Tryd.func22, Tryd.ntmps22
  by_cases h3 : l.length = m.length
  · have e3 : ((l.length : Int) != (m.length : Int)) = false := by simp [h3]
    have HL := Lib.hid h3; clear h3
    go_wp2_with fail
    clear e3
    go_loopw [5] (fun i wr => ∃ k : Nat, k ≤ l.length ∧ i = .int .i64 k ∧ l.take k = m.take k ∧ Below w.heap.size w wr) (fun i _ => l.length - (intOf i).toNat)
    case atStart => exact ⟨0, by omega, rfl, by simp, Below.refl _ _⟩
    case round =>
      obtain ⟨k, hk, rfl, hT, hb⟩ := hrel
      have HT := Lib.hid hT; clear hT
      have HB := Lib.hid hb; clear hb
      by_cases hlt : k < l.length
      · obtain ⟨ab, ao, rfl, x1⟩ := strs_caps (hA.below HB.out) k hlt
        obtain ⟨bb, bo, rfl, y1⟩ := strs_caps (hB.below HB.out) k (by have := HL.out; omega)
        have i1 : (k : Int) < (l.length : Int) := by omega
        have i2 : (k : Int) < (m.length : Int) := by have := HL.out; omega
        by_cases he : l[k] = m[k]'(by have := HL.out; omega)
        · have he2 : (l[k].toList == (m[k]'(by have := HL.out; omega)).toList) = true := by simp [he]
          have HN := Lib.hid (show l.take (k + 1) = m.take (k + 1) by rw [List.take_succ_eq_append_getElem hlt, List.take_succ_eq_append_getElem (by have := HL.out; omega), HT.out, he]); clear he
          go_wp2_with fail
          go_region
          go_wp2_with fail
          exact ⟨⟨k + 1, by omega, by go_num, HN.out, HB.out.drew⟩, by simp [intOf]; omega⟩
        · have he2 : (l[k].toList == (m[k]'(by have := HL.out; omega)).toList) = false := by simpa [toList_inj] using he
          have HN := Lib.hid (show l ≠ m from fun e => he (by subst e; rfl)); clear he
          go_wp2_with fail
          go_region
          go_wp2_with fail
          go_ret
          exact ⟨ret_bool (by simp [HN.out]), HB.out.drew⟩
      · have HE := Lib.hid (show l = m by rw [← List.take_of_length_le (l := l) (i := k) (by omega), HT.out, List.take_of_length_le (by have := HL.out; omega)])
        go_wp2_with fail
        go_ret
        exact ⟨ret_bool (by simp [HE.out]), HB.out⟩
  · have e3 : ((l.length : Int) != (m.length : Int)) = true := by simp; omega
    have HE := Lib.hid (show l ≠ m from fun e => h3 (by rw [e])); clear h3
    go_wp2_with fail
    go_ret
    exact ⟨ret_bool (by simp [HE.out]), Below.refl _ _⟩

def someO : Outc := ⟨true, 5, [⟨⟨#[110]⟩, 0, 5⟩, ⟨⟨#[109]⟩, 1, 2⟩, ⟨⟨#[109]⟩, 2, 2⟩]⟩
set_option maxHeartbeats 800000 in
theorem some_any (w : World) :
    Calls Tryd.prog 35 #[] w fun e w' => ∃ v, e = .returned v ∧ OutOwn w' w.heap.size v someO ∧ Below w.heap.size w w' := by
  go_enter Tryd.func35, Tryd.ntmps35
  go_wp2_with fail
  refine bodyPost_ret (v := outV (some ⟨w.heap.size + 1, 0, none⟩) 3 someO) (by simp [results, Tryd.results35, go_sem, someO]) rfl ⟨_, rfl, ⟨_, _, rfl, ?_⟩, box2 _ _ _⟩
  have h := heap_alloc_new (w.alloc (.cells #[.bool true, .int .i64 5, .slice (some ⟨w.heap.size + 1, 0, none⟩) 3 3] 24)) (.cells #[.string ⟨#[110]⟩, .int .i64 0, .int .i64 5, .string ⟨#[109]⟩, .int .i64 1, .int .i64 2, .string ⟨#[109]⟩, .int .i64 2, .int .i64 2] 33)
  exact ⟨rfl, .inr ⟨w.heap.size + 1, 3, _, rfl, by omega, by simpa using h, Nat.le_refl _, by unfold maxLen; omega, rfl, rfl⟩⟩
end Go.Proofs.YtogmkekbdfckpaaDoor
