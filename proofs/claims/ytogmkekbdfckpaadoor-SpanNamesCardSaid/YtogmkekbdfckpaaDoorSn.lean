/- The contract of span.Shift. -/
import Derived.Test.YtogmkekbdfckpaaDoorSm
import Derived.Laws.OwnMore
namespace Go.Proofs.YtogmkekbdfckpaaDoor
open Go.RowKit

theorem cells_set : (P : List Cap) → (c : Cap) → (R : List Cap) → (f t : Int) →
    ((cellsOf (P ++ c :: R)).set (P.length * 3 + 1) (.int .i64 f)).set (P.length * 3 + 2) (.int .i64 t) = cellsOf (P ++ ⟨c.name, f, t⟩ :: R)
  | [], _, _, _, _ => rfl
  | p :: P, c, R, f, t => by
    have ih := cells_set P c R f t
    have e : ∀ l, cellsOf (p :: l) = .string p.name :: .int .i64 p.frm :: .int .i64 p.to :: cellsOf l := fun _ => rfl
    rw [List.cons_append, List.cons_append, e, e, show (p :: P).length * 3 + 1 = P.length * 3 + 1 + 3 by simp; omega, show (p :: P).length * 3 + 2 = P.length * 3 + 2 + 3 by simp; omega]
    simp only [List.set_cons_succ, ih]
theorem OwnCaps.addr {w : World} {B : Nat} {A : Option Addr} {c : Nat} {l : List Cap} (h : OwnCaps w B (.slice A l.length c) l) (hn : 0 < l.length) : ∃ g, A = some ⟨g, 0, none⟩ ∧ B ≤ g ∧ g < w.heap.size := by
  rcases h.2 with ⟨_, h0⟩ | ⟨g, cap, cur, hv, hg, hh, _⟩
  · omega
  · injection hv with hA
    exact ⟨g, hA, hg, by
      rcases Nat.lt_or_ge g w.heap.size with h' | h'
      · exact h'
      · simp [Array.getElem?_eq_none h'] at hh⟩

set_option maxRecDepth 100000 in
set_option maxHeartbeats 1600000 in
theorem shift_any (o : Outc) (by' : Int) (A : Option Addr) (c : Nat) (w : World) (hA : RowAt w A (cellsOf o.caps)) (hs : ∀ c ∈ o.caps, c.name.size ≤ 281474976710656) (hl : o.caps.length ≤ 281474976710656) (hby : -9223372036854775808 ≤ by' ∧ by' ≤ 9223372036854775807) :
    Calls Tryd.prog 17 #[outV A c o, .int .i64 by'] w (ShiftPost w (shiftO o by')) := by
  obtain ⟨ok, to, l⟩ := o
  simp only at hA hs hl
  have HA := Lib.hid (hA.below (box2 w (.cells #[.bool ok, .int .i64 to, .slice A l.length c] 24) (.cells #[.bool false, .int .i64 0, .slice none 0 0] 24)))
  obtain ⟨hb1, hb2⟩ := hby
  cases hm : mayO ⟨ok, to, l⟩ 4096
  · have HM := Lib.hid hm
    have HN := Lib.hid (shiftO_may (by' := by') hm); clear hm
    go_enter Tryd.func17, Tryd.ntmps17
    go_wp2_with (first | (go_at_call 13; refine (smay_any ⟨ok, to, l⟩ 4096 A c _ HA.out hs hl).mono ?_; rintro e w1 ⟨he, hb⟩; rw [HM.out] at he; subst he; obtain ⟨k1, k2⟩ := kept2n hb; have f1 := blk3 k1; have f2 := blk3 k2))
    exact bodyPost_ret (v := .tuple #[outV none 0 ⟨false, 0, []⟩, .bool false]) (by simp [results, Tryd.results17, go_sem, f2]) rfl (ShiftPost.no HN.out (set3 ((box2 w _ _).trans (hb.mono (by simp; omega))) (by omega)))
  · have HC := Lib.hid (mayO_caps' hm)
    have HM := Lib.hid hm
    obtain ⟨ht0, ht1, hl0, _⟩ := HC.out
    simp only at ht0 ht1 hl0
    cases ok
    · have HN := Lib.hid (shiftO_fail (by' := by') hm rfl); clear hm
      go_enter Tryd.func17, Tryd.ntmps17
      go_wp2_with (first | (go_at_call 13; refine (smay_any ⟨false, to, l⟩ 4096 A c _ HA.out hs hl).mono ?_; rintro e w1 ⟨he, hb⟩; rw [HM.out] at he; subst he; obtain ⟨k1, k2⟩ := kept2n hb; have f1 := blk3 k1; have hz1w : w.heap.size + 2 ≤ w1.heap.size := (by have := hb.size; simpa using this); have HB := Lib.hid ((box2 w _ _).trans (hb.mono (by simp; omega))); have HK2 := Lib.hid k2; clear k1 k2 hb) | (go_at_call 18; refine (fail_any _).mono ?_; rintro e w2 ⟨rfl, hb2⟩; have f2 := blk3 ((hb2.block _ (by omega)).trans HK2.out)))
      exact bodyPost_ret (v := .tuple #[outV none 0 ⟨false, 0, []⟩, .bool true]) (by simp [results, Tryd.results17, go_sem, f2]) rfl (ShiftPost.no HN.out (set3 (HB.out.trans (hb2.mono (by omega))) (by omega)))
    · by_cases g : -4096 ≤ by' ∧ by' ≤ 4096 ∧ 0 ≤ to + by' ∧ to + by' ≤ 4096
      · have HG := Lib.hid g
        have HY := Lib.hid (shiftO_yes (by' := by') hm rfl g); clear hm
        obtain ⟨g1, g2, g3, g4⟩ := g
        go_enter Tryd.func17, Tryd.ntmps17
        go_wp2_with (first | (go_at_call 13; refine (smay_any ⟨true, to, l⟩ 4096 A c _ HA.out hs hl).mono ?_; rintro e w1 ⟨he, hb⟩; rw [HM.out] at he; subst he; obtain ⟨k1, k2⟩ := kept2n hb; have f1 := blk3 k1; have HK1 := Lib.hid k1; have HK2 := Lib.hid k2; have HB := Lib.hid ((box2 w _ _).trans (hb.mono (by simp; omega))); have hz1w : w.heap.size + 2 ≤ w1.heap.size := (by have := hb.size; simpa using this); clear k1 k2 hb) | (go_at_call 26; refine (copy_any ⟨true, to, l⟩ A c _ (hA.below HB.out) (by simp only; omega)).mono ?_; rintro e w2 ⟨_, rfl, ⟨C, cp, rfl, hown⟩, hb2⟩; have HO := Lib.hid hown; have HB2 := Lib.hid hb2; have hz2 := hb2.size; clear hown hb2 f1))
        have HBX := Lib.hid (heap_alloc_new w2 (.cells #[.bool true, .int .i64 (to + by'), .slice C l.length cp] 24))
        go_loopw [48, 7, 8] (fun i _ _ wr => ∃ (k : Nat), k ≤ l.length ∧ i = .int .i64 k ∧ wr.heap[w2.heap.size]? = some (.cells #[.bool true, .int .i64 (to + by'), .slice C l.length cp] 24 (0, 0)) ∧ wr.ownsRow w1.heap.size 33 3 (.slice C l.length cp) l.length (cellsOf ((l.take k).map (moveC by') ++ l.drop k)) ∧ (∀ c ∈ l.take k, 0 ≤ c.frm + by') ∧ Below w1.heap.size w1 wr) (fun i _ _ _ => l.length - (intOf i).toNat)
        case atStart => exact ⟨0, by omega, rfl, HBX.out, World.ownsRow.alloc HO.out _, by simp, HB2.out.alloc hz2 _⟩
        case round =>
          clear HBX HO HB2
          obtain ⟨k, hk, rfl, hbox, hown, hall, hbb⟩ := hrel
          have HBX := Lib.hid hbox; clear hbox
          have HO := Lib.hid hown; clear hown
          have HAL := Lib.hid hall; clear hall
          have HBB := Lib.hid hbb; clear hbb
          obtain ⟨c1, c2, c3, c4, c5, c6⟩ := blk3 ((HBB.out.block _ (by omega)).trans HK2.out)
          obtain ⟨b1, b2, b3, b4, b5, b6⟩ := blk3 HBX.out
          have hwz : w.heap.size + 1 < wr.heap.size := by have := HBB.out.size; omega
          by_cases hlt : k < l.length
          · have hlen2 : ((l.take k).map (moveC by') ++ l.drop k).length = l.length := by simp; omega
            obtain ⟨g, hC, hg1, hg2⟩ := OwnCaps.addr (l := (l.take k).map (moveC by') ++ l.drop k) (c := cp) (show OwnCaps wr w1.heap.size (.slice C _ cp) _ by unfold OwnCaps; rw [hlen2]; exact HO.out) (by rw [hlen2]; omega)
            subst hC
            have hgne : g ≠ w2.heap.size := fun e => by
              have h1 := HO.out
              rcases h1.2 with ⟨hv, _⟩ | ⟨g', cap, cur, hv, _, hh, _⟩
              · cases hv
              · injection hv with hv; injection hv with hv; injection hv with hv; subst hv; subst e; rw [HBX.out] at hh; injection hh with hh; injection hh with _ hT; exact absurd hT (by decide)
            have hcell := World.ownsRow.cellAt HO.out
            have hfr := World.ownsRow.frozenAt HO.out
            obtain ⟨e1, e2, e3⟩ := cellsOf_at ((l.take k).map (moveC by') ++ l.drop k) k (by rw [hlen2]; exact hlt)
            have hel : ((l.take k).map (moveC by') ++ l.drop k)[k]'(by rw [hlen2]; exact hlt) = l[k] := by
              rw [List.getElem_append_right (by simp; omega)]; simp; congr 1; omega
            rw [hel] at e1 e2 e3
            have x1 := (hcell (k * 3 + 1) (by omega)).trans e2
            have x2 := (hcell (k * 3 + 2) (by omega)).trans e3
            have y1 := hfr (k * 3 + 1)
            have y2 := hfr (k * 3 + 2)
            clear hcell hfr e1 e2 e3 hel hlen2
            obtain ⟨_, m1, m2, m3⟩ := HC.out.2.2.2 _ (List.getElem_mem hlt)
            by_cases hneg : l[k].frm + by' < 0
            · have HN := Lib.hid (shiftO_neg (o := ⟨true, to, l⟩) _ (List.getElem_mem hlt) hneg rfl)
              go_wp2_with fail
              exact bodyPost_ret (v := .tuple #[outV none 0 ⟨false, 0, []⟩, .bool false]) (by simp [results, Tryd.results17, go_sem, c1, c2, c3]) rfl (ShiftPost.no HN.out (set3b (HB.out.trans (HBB.out.mono (by omega))) (by omega)))
            · have hcs := cells_set ((l.take k).map (moveC by')) l[k] (l.drop (k + 1)) (l[k].frm + by') (l[k].to + by')
              rw [show ((l.take k).map (moveC by')).length = k by simp; omega] at hcs
              have HS := Lib.hid (show ((cellsOf ((l.take k).map (moveC by') ++ l.drop k)).set (k * 3 + 1) (.int .i64 (l[k].frm + by'))).set (k * 3 + 2) (.int .i64 (l[k].to + by')) = cellsOf ((l.take (k + 1)).map (moveC by') ++ l.drop (k + 1)) by
                rw [List.drop_eq_getElem_cons hlt, hcs, List.take_succ_eq_append_getElem hlt, List.map_append, List.append_assoc]; rfl)
              clear hcs
              go_wp2_with fail
              exact ⟨⟨k + 1, by omega, by go_num, (Below.heap_setCell _ _ _ _ (fun e => hgne e.symm)).trans ((Below.heap_setCell _ _ _ _ (fun e => hgne e.symm)).trans HBX.out),
                by rw [← HS.out]; exact (World.ownsRow.stored (World.ownsRow.stored HO.out _ _).1 _ _).1, fun c hc => by
                rw [List.take_succ_eq_append_getElem hlt] at hc
                rcases List.mem_append.1 hc with hc | hc
                · exact HAL.out c hc
                · simp only [List.mem_singleton] at hc; subst hc; omega, (HBB.out.setCell (p := ⟨g, k * 3 + 1, none⟩) hg1 _).setCell (p := ⟨g, k * 3 + 2, none⟩) hg1 _⟩, by simp [intOf]; omega⟩
          · have HY2 := Lib.hid (HY.out (fun c hc => HAL.out c (by rw [List.take_of_length_le (by omega)]; exact hc)))
            obtain rfl : k = l.length := by omega
            go_wp2_with fail
            exact bodyPost_ret (v := .tuple #[outV C cp ⟨true, to + by', l.map (moveC by')⟩, .bool true]) (by simp [results, Tryd.results17, go_sem, c1, c2, c3]) rfl (by
              unfold ShiftPost; rw [HY2.out]
              exact ⟨_, rfl, ⟨C, cp, by simp, by have h := set3' (x := .bool true) (y := .int .i64 (to + by')) (z := .slice C l.length cp) (l := l.map (moveC by')) (B := w1.heap.size) (v := .slice C l.length cp) (w' := wr) (by have := HO.out; rw [List.take_length, List.drop_length, List.append_nil] at this; simpa [OwnCaps] using this) (b := w.heap.size + 1) (by omega) (B' := w.heap.size) (by omega); simpa [OwnCaps] using h⟩, set3b (HB.out.trans (HBB.out.mono (by omega))) (by omega)⟩)
      · have HN := Lib.hid (shiftO_range (o := ⟨true, to, l⟩) g rfl); clear hm
        go_enter Tryd.func17, Tryd.ntmps17
        go_wp2_with (first | (go_at_call 13; refine (smay_any ⟨true, to, l⟩ 4096 A c _ HA.out hs hl).mono ?_; rintro e w1 ⟨he, hb⟩; rw [HM.out] at he; subst he; obtain ⟨k1, k2⟩ := kept2n hb; have f1 := blk3 k1; have f2 := blk3 k2))
        all_goals (first | omega | exact bodyPost_ret (v := .tuple #[outV none 0 ⟨false, 0, []⟩, .bool false]) (by simp [results, Tryd.results17, go_sem, f2]) rfl (ShiftPost.no HN.out (set3 ((box2 w _ _).trans (hb.mono (by simp; omega))) (by omega))))
end Go.Proofs.YtogmkekbdfckpaaDoor
