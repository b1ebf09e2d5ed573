/- The contract of bonsairef14.Shift. -/
import Derived.Test.YtogmkekbdfckpaaDoorSh
import Derived.Test.YtogmkekbdfckpaaDoorSj
namespace Go.Proofs.YtogmkekbdfckpaaDoor
open Go.RowKit

theorem heap_set {w : World} {b i : Nat} {cs : Array Value} {T : TypeId} {u : Value} (h : w.heap[b]? = some (.cells cs T (0, 0))) : (w.setCell ⟨b, i, none⟩ u).heap[b]? = some (.cells (cs.setIfInBounds i u) T (0, 0)) := by
  simp [World.setCell, Array.getElem?_modify, h]
theorem heap_lt {w : World} {b : Nat} {o : Obj} (h : w.heap[b]? = some o) : b < w.heap.size := by
  rcases Nat.lt_or_ge b w.heap.size with h' | h'
  · exact h'
  · simp [Array.getElem?_eq_none h'] at h
theorem heap_alloc_old {w : World} {b : Nat} {o p : Obj} (h : w.heap[b]? = some o) : (w.alloc p).heap[b]? = some o := (Below.heap_alloc _ _ _ (heap_lt h)).trans h
theorem shiftO_may {o : Outc} {by' : Int} (h : mayO o 4096 = false) : shiftO o by' = (⟨false, 0, []⟩, false) := by simp [shiftO, h]
theorem shiftO_fail {o : Outc} {by' : Int} (h : mayO o 4096 = true) (hk : o.ok = false) : shiftO o by' = (⟨false, 0, []⟩, true) := by simp [shiftO, h, hk]
theorem shiftO_range {o : Outc} {by' : Int} (h : ¬ (-4096 ≤ by' ∧ by' ≤ 4096 ∧ 0 ≤ o.to + by' ∧ o.to + by' ≤ 4096)) (hk : o.ok = true) : shiftO o by' = (⟨false, 0, []⟩, false) := by
  unfold shiftO; split
  · rw [if_neg (by intro hh; exact h ⟨hh.1, hh.2.1, hh.2.2.1, hh.2.2.2.1⟩)]
  · rfl
theorem shiftO_neg {o : Outc} {by' : Int} (c : Cap) (hc : c ∈ o.caps) (h : c.frm + by' < 0) (hk : o.ok = true) : shiftO o by' = (⟨false, 0, []⟩, false) := by
  unfold shiftO; split
  · rw [if_neg (by intro hh; have := hh.2.2.2.2 c hc; omega)]
  · rfl
theorem shiftO_yes {o : Outc} {by' : Int} (hm : mayO o 4096 = true) (hk : o.ok = true) (h : -4096 ≤ by' ∧ by' ≤ 4096 ∧ 0 ≤ o.to + by' ∧ o.to + by' ≤ 4096) (hc : ∀ c ∈ o.caps, 0 ≤ c.frm + by') : shiftO o by' = (⟨true, o.to + by', o.caps.map (moveC by')⟩, true) := by
  unfold shiftO; rw [if_pos hm, if_pos hk, if_pos ⟨h.1, h.2.1, h.2.2.1, h.2.2.2, hc⟩]
theorem mayO_false_caps' {o : Outc} {n : Int} (h : mayO o n = true) (hk : o.ok = false) : o.caps = [] := by
  simp [mayO, hk] at h; exact h.2.2
theorem mayO_caps' {o : Outc} {n : Int} (h : mayO o n = true) : 0 ≤ o.to ∧ o.to ≤ n ∧ o.caps.length ≤ 65536 ∧ ∀ c ∈ o.caps, mayL c.name.data.toList = true ∧ 0 ≤ c.frm ∧ c.frm ≤ c.to ∧ c.to ≤ n := by
  obtain ⟨ok, to, l⟩ := o
  cases ok
  · have := mayO_false_caps' h rfl; simp only at this; subst this
    simp [mayO] at h; exact ⟨by show 0 ≤ to; omega, by show to ≤ n; omega, by simp, by simp⟩
  · simp only [mayO, Bool.and_eq_true, decide_eq_true_eq, if_true, List.all_eq_true, capOk] at h
    refine ⟨by show 0 ≤ to; omega, by show to ≤ n; omega, by show l.length ≤ _; omega, fun c hc => ?_⟩
    have := h.2.2.2.1 c hc
    exact ⟨this.1, by omega, by omega, by omega⟩

/-- What Shift leaves: an outcome and whether. -/
def ShiftPost (w : World) (r : Outc × Bool) (e : Ending) (w' : World) : Prop := ∃ v, e = .returned (.tuple #[v, .bool r.2]) ∧ OutOwn w' w.heap.size v r.1 ∧ Below w.heap.size w w'
theorem ShiftPost.no {w w' : World} {r : Outc × Bool} {b : Bool} (hr : r = (⟨false, 0, []⟩, b)) (hb : Below w.heap.size w w') : ShiftPost w r (.returned (.tuple #[outV none 0 ⟨false, 0, []⟩, .bool b])) w' := by
  subst hr; exact ⟨_, rfl, OutOwn.fail _ _, hb⟩

set_option maxRecDepth 100000 in
set_option maxHeartbeats 1600000 in
theorem rshift_any (o : Outc) (by' : Int) (A : Option Addr) (c : Nat) (w : World) (hA : RowAt w A (cellsOf o.caps)) (hs : ∀ c ∈ o.caps, c.name.size ≤ 281474976710656) (hl : o.caps.length ≤ 281474976710656) (hby : -9223372036854775808 ≤ by' ∧ by' ≤ 9223372036854775807) :
    Calls Tryd.prog 27 #[outV A c o, .int .i64 by'] w (ShiftPost w (shiftO o by')) := by
  obtain ⟨i0, hi, hz0, hz1, hz2⟩ := info_parts infoCap
  have hzc : (Value.agg #[.string ByteArray.empty, .int .i64 0, .int .i64 0]).cells.size = 3 := rfl
  obtain ⟨ok, to, l⟩ := o
  simp only at hA hs hl
  have HA := Lib.hid (hA.below (box2 w (.cells #[.bool ok, .int .i64 to, .slice A l.length c] 24) (.cells #[.bool false, .int .i64 0, .slice none 0 0] 24)))
  obtain ⟨hb1, hb2⟩ := hby
  cases hm : mayO ⟨ok, to, l⟩ 4096
  · have HM := Lib.hid hm
    have HN := Lib.hid (shiftO_may (by' := by') hm); clear hm
    go_enter Tryd.func27, Tryd.ntmps27
    go_wp2_with (first | (go_at_call 20; refine (rsmay_any ⟨ok, to, l⟩ 4096 A c _ HA.out hs hl).mono ?_; rintro e w1 ⟨he, hb⟩; rw [HM.out] at he; subst he; obtain ⟨k1, k2⟩ := kept2n hb; have f1 := blk3 k1; have f2 := blk3 k2))
    exact bodyPost_ret (v := .tuple #[outV none 0 ⟨false, 0, []⟩, .bool false]) (by simp [results, Tryd.results27, go_sem, f2]) rfl (ShiftPost.no HN.out (set3 ((box2 w _ _).trans (hb.mono (by simp; omega))) (by omega)))
  · have HC := Lib.hid (mayO_caps' hm)
    have HM := Lib.hid hm
    obtain ⟨ht0, ht1, hl0, _⟩ := HC.out
    simp only at ht0 ht1 hl0
    cases ok
    · have HN := Lib.hid (shiftO_fail (by' := by') hm rfl); clear hm
      go_enter Tryd.func27, Tryd.ntmps27
      go_wp2_with (first | (go_at_call 20; refine (rsmay_any ⟨false, to, l⟩ 4096 A c _ HA.out hs hl).mono ?_; rintro e w1 ⟨he, hb⟩; rw [HM.out] at he; subst he; obtain ⟨k1, k2⟩ := kept2n hb; have f1 := blk3 k1; have f2 := blk3 k2))
      exact bodyPost_ret (v := .tuple #[outV none 0 ⟨false, 0, []⟩, .bool true]) (by simp [results, Tryd.results27, go_sem, f2]) rfl (ShiftPost.no HN.out (set3 ((box2 w _ _).trans (hb.mono (by simp; omega))) (by omega)))
    · by_cases g : -4096 ≤ by' ∧ by' ≤ 4096 ∧ 0 ≤ to + by' ∧ to + by' ≤ 4096
      · have HG := Lib.hid g
        have HY := Lib.hid (shiftO_yes (by' := by') hm rfl g); clear hm
        obtain ⟨g1, g2, g3, g4⟩ := g
        go_enter Tryd.func27, Tryd.ntmps27
        go_wp2_with (first | (go_at_call 20; refine (rsmay_any ⟨true, to, l⟩ 4096 A c _ HA.out hs hl).mono ?_; rintro e w1 ⟨he, hb⟩; rw [HM.out] at he; subst he; obtain ⟨k1, k2⟩ := kept2n hb; have f1 := blk3 k1; have HK1 := Lib.hid k1; have HK2 := Lib.hid k2; have HB := Lib.hid ((box2 w _ _).trans (hb.mono (by simp; omega))); have hz1w : w.heap.size + 2 ≤ w1.heap.size := (by have := hb.size; simpa using this); clear k1 k2 hb))
        clear f1
        have HK6 := Lib.hid (heap_alloc_new w1 (.cells #[.bool true, .int .i64 (to + by'), .slice none 0 0] 24))
        go_loopw [7, 8] (fun i _ wr => ∃ (k : Nat) (C : Option Addr) (cp : Nat), k ≤ l.length ∧ i = .int .i64 k ∧ wr.heap[w1.heap.size]? = some (.cells #[.bool true, .int .i64 (to + by'), .slice C k cp] 24 (0, 0)) ∧ OwnCaps wr (w1.heap.size + 1) (.slice C k cp) ((l.take k).map (moveC by')) ∧ (∀ c ∈ l.take k, 0 ≤ c.frm + by') ∧ Below w1.heap.size w1 wr) (fun i _ _ => l.length - (intOf i).toNat)
        case atStart => exact ⟨0, none, 0, by omega, rfl, HK6.out, World.ownsRow_nil _ _ _ _, by simp, box1 _ _⟩
        case round =>
          clear HK6
          obtain ⟨k, C, cp, hk, rfl, hbox, hown, hall, hbb⟩ := hrel
          have HBX := Lib.hid hbox; clear hbox
          have HO := Lib.hid hown; clear hown
          have HAL := Lib.hid hall; clear hall
          have HBB := Lib.hid hbb; clear hbb
          have hzr : w1.heap.size < wr.heap.size := heap_lt HBX.out
          obtain ⟨a1, a2, a3, a4, a5, a6⟩ := blk3 ((HBB.out.block _ (by omega)).trans HK1.out)
          obtain ⟨c1, c2, c3, c4, c5, c6⟩ := blk3 ((HBB.out.block _ (by omega)).trans HK2.out)
          obtain ⟨b1, b2, b3, b4, b5, b6⟩ := blk3 HBX.out
          have hwz : w.heap.size + 1 < wr.heap.size := by omega
          by_cases hlt : k < l.length
          · obtain ⟨ab, ao, rfl, x1, x2, x3⟩ := (hA.below (HB.out.trans (HBB.out.mono (by omega)))).caps k hlt
            obtain ⟨_, m1, m2, m3⟩ := HC.out.2.2.2 _ (List.getElem_mem hlt)
            by_cases hneg : l[k].frm + by' < 0
            · have HN := Lib.hid (shiftO_neg (o := ⟨true, to, l⟩) _ (List.getElem_mem hlt) hneg rfl)
              go_wp2_with fail
              exact bodyPost_ret (v := .tuple #[outV none 0 ⟨false, 0, []⟩, .bool false]) (by simp [results, Tryd.results27, go_sem, c1, c2, c3, World.cell?_alloc_lt, hwz]) rfl (ShiftPost.no HN.out ((set3b (HB.out.trans (HBB.out.mono (by omega))) (by omega)).alloc (by simp; omega) _))
            · have hrow := row_new3 (wr.alloc (.cells #[.string l[k].name, .int .i64 l[k].frm, .int .i64 l[k].to] 33)) (.string l[k].name) (.int .i64 (l[k].frm + by')) (.int .i64 (l[k].to + by')) 33
              simp only [World.size_alloc] at hrow
              have HROW := Lib.hid (show RowAt _ _ (cellsOf [moveC by' l[k]]) from hrow); clear hrow
              have HO1 := Lib.hid (show OwnCaps wr (w1.heap.size + 1) (.slice C k cp) ((l.take k).map (moveC by')) from HO.out)
              have hlen : ((l.take k).map (moveC by')).length = k := by simp; omega
              have HO2 := Lib.hid (show wr.ownsRow (w1.heap.size + 1) 33 3 (.slice C k cp) k (cellsOf ((l.take k).map (moveC by'))) by have := HO.out; unfold OwnCaps at this; rwa [hlen] at this)
              have HLN := Lib.hid hlen; clear hlen HO1
              have hk2 : k ≤ 65536 := by omega
              go_wp2_with (first | (at_builtin; refine wpList_append_row _ rfl (.tmp 62) (.tmp 74) _ rfl (w1.heap.size + 1) 33 i0 _ 3 32 Tryd.underlying22 hi hz0 hz1 hz2 hzc (by decide) _ _ _ rfl (World.ownsRow.alloc (World.ownsRow.alloc HO2.out _) _) (some ⟨wr.heap.size + 1, 0, none⟩) 1 1 (cellsOf [moveC by' l[k]]) rfl rfl HROW.out (cellsOf_one _) ?_ ?_ ?_ ?_))
              · unfold maxLen; omega
              · omega
              · omega
              intro v2 w2 hown2 hgrow2
              have HB2 := Lib.hid (((HBB.out.alloc (by omega) _).alloc (by simp; omega) _).grown hgrow2 (by simp; omega) (fun k e => by have := (World.ownsRow.lt HO2.out k e).1; omega))
              have hbx2 : w2.heap[w1.heap.size]? = _ := (hgrow2.block _ (by simp; omega) (fun e => by have := (World.ownsRow.lt HO2.out _ e.symm).1; omega)).trans (heap_alloc_old (heap_alloc_old HBX.out))
              have HBX2 := Lib.hid hbx2
              obtain ⟨d1, d2, d3, d4, d5, d6⟩ := blk3 hbx2
              clear hbx2
              obtain ⟨C2, c2', rfl⟩ := ownsRow_slice hown2
              have HO3 := Lib.hid (show OwnCaps w2 (w1.heap.size + 1) (.slice C2 (k + 1) c2') ((l.take (k + 1)).map (moveC by')) by
                unfold OwnCaps; rw [List.take_succ_eq_append_getElem hlt, List.map_append, cellsOf_append, List.length_append, HLN.out]; rw [← List.map_take] at hown2; exact hown2)
              clear hown2 hgrow2
              go_wp2_with fail
              exact ⟨⟨k + 1, C2, c2', by omega, by go_num, heap_set HBX2.out, HO3.out.set (a := ⟨w1.heap.size, 2, none⟩) (by simp) _, fun c hc => by
                rw [List.take_succ_eq_append_getElem hlt] at hc
                rcases List.mem_append.1 hc with hc | hc
                · exact HAL.out c hc
                · simp only [List.mem_singleton] at hc; subst hc; omega, HB2.out.setCell (p := ⟨w1.heap.size, 2, none⟩) (Nat.le_refl _) _⟩, by simp [intOf]; omega⟩
          · have HY2 := Lib.hid (HY.out (fun c hc => HAL.out c (by rw [List.take_of_length_le (by omega)]; exact hc)))
            obtain rfl : k = l.length := by omega
            go_wp2_with fail
            exact bodyPost_ret (v := .tuple #[outV C cp ⟨true, to + by', l.map (moveC by')⟩, .bool true]) (by simp [results, Tryd.results27, go_sem, c1, c2, c3]) rfl (by
              unfold ShiftPost; rw [HY2.out]
              exact ⟨_, rfl, ⟨C, cp, rfl, by have h := set3' (x := .bool true) (y := .int .i64 (to + by')) (z := .slice C l.length cp) HO.out (b := w.heap.size + 1) (by omega) (B' := w.heap.size) (by omega); rw [List.take_length] at h; simpa [OwnCaps] using h⟩, set3b (HB.out.trans (HBB.out.mono (by omega))) (by omega)⟩)
      · have HN := Lib.hid (shiftO_range (o := ⟨true, to, l⟩) g rfl); clear hm
        go_enter Tryd.func27, Tryd.ntmps27
        go_wp2_with (first | (go_at_call 20; refine (rsmay_any ⟨true, to, l⟩ 4096 A c _ HA.out hs hl).mono ?_; rintro e w1 ⟨he, hb⟩; rw [HM.out] at he; subst he; obtain ⟨k1, k2⟩ := kept2n hb; have f1 := blk3 k1; have f2 := blk3 k2))
        all_goals (first | omega | exact bodyPost_ret (v := .tuple #[outV none 0 ⟨false, 0, []⟩, .bool false]) (by simp [results, Tryd.results27, go_sem, f2]) rfl (ShiftPost.no HN.out (set3 ((box2 w _ _).trans (hb.mono (by simp; omega))) (by omega))))
end Go.Proofs.YtogmkekbdfckpaaDoor
