/- The contracts of package bonsairef14: Join, Cap. -/
import Derived.Test.YtogmkekbdfckpaaDoorSi
import Derived.Deep.RegionHeld3
namespace Go.Proofs.YtogmkekbdfckpaaDoor
open Go.RowKit

theorem set3b {B : Nat} {w w' : World} {b : Nat} {x y z : Value} (hb : Below B w w') (h : B ≤ b) : Below B w (((w'.setCell ⟨b, 0, none⟩ x).setCell ⟨b, 1, none⟩ y).setCell ⟨b, 2, none⟩ z) :=
  ((hb.setCell (p := ⟨b, 0, none⟩) h x).setCell (p := ⟨b, 1, none⟩) h y).setCell (p := ⟨b, 2, none⟩) h z

set_option maxRecDepth 100000 in
set_option maxHeartbeats 1600000 in
theorem rjoin_any (a b : Outc) (A B : Option Addr) (c d : Nat) (w : World) (hA : RowAt w A (cellsOf a.caps)) (hB : RowAt w B (cellsOf b.caps)) (hl : a.caps.length + b.caps.length ≤ 4294967296) :
    Calls Tryd.prog 28 #[outV A c a, outV B d b] w fun e w' => ∃ v, e = .returned v ∧ OutOwn w' w.heap.size v (joinO a b) ∧ Below w.heap.size w w' := by
  obtain ⟨ak, at', al⟩ := a
  obtain ⟨bk, bt, bl⟩ := b
  simp only at hA hB hl
  obtain ⟨i0, hi, hz0, hz1, hz2⟩ := info_parts infoCap
  have hzc : (Value.agg #[.string ByteArray.empty, .int .i64 0, .int .i64 0]).cells.size = 3 := rfl
  cases ak
  · go_enter Tryd.func28, Tryd.ntmps28
    go_wp2_with fail
    exact bodyPost_ret (v := outV none 0 ⟨false, 0, []⟩) (by simp [results, Tryd.results28, go_sem]) rfl ⟨_, rfl, OutOwn.fail _ _, box3 w _ _ _⟩
  · cases bk
    · go_enter Tryd.func28, Tryd.ntmps28
      go_wp2_with fail
      exact bodyPost_ret (v := outV none 0 ⟨false, 0, []⟩) (by simp [results, Tryd.results28, go_sem]) rfl ⟨_, rfl, OutOwn.fail _ _, box3 w _ _ _⟩
    · go_enter Tryd.func28, Tryd.ntmps28
      go_wp2_with fail
      generalize hW : (((w.alloc _).alloc _).alloc _) = W
      have hsz : W.heap.size = w.heap.size + 3 := by rw [← hW]; simp
      have hb0 : Below w.heap.size w W := by rw [← hW]; exact box3 _ _ _ _
      obtain ⟨k1, k2, k3⟩ := kept3 (w' := W) (Below.refl _ W) (by rw [← hW])
      clear hW
      obtain ⟨p1, p2, p3, _, _, _⟩ := blk3 k1
      obtain ⟨q1, q2, q3, _, _, _⟩ := blk3 k2
      have HSB := Lib.hid (show ∀ w', Below (w.heap.size + 2) W w' → w'.cell? ⟨w.heap.size, 2, none⟩ = some (.slice A al.length c) ∧ w'.cell? ⟨w.heap.size + 1, 1, none⟩ = some (.int .i64 bt) ∧ w'.cell? ⟨w.heap.size + 1, 2, none⟩ = some (.slice B bl.length d) ∧ Below (w.heap.size + 2) W w' from
        fun w' hb => ⟨(hb.cell (by show w.heap.size < _; omega)).trans p3, (hb.cell (by show w.heap.size + 1 < _; omega)).trans q2, (hb.cell (by show w.heap.size + 1 < _; omega)).trans q3, hb⟩)
      clear p1 p2 p3 q1 q2 q3
      have HB1 := Lib.hid (show Below (w.heap.size + 2) W (W.alloc (.cells #[] 33)).drew from ((Below.refl _ W).alloc (by omega) _).drew)
      have HO1 := Lib.hid (show (W.alloc (.cells #[] 33)).drew.ownsRow (w.heap.size + 3) 33 3 (.slice (some ⟨W.heap.size, 0, none⟩) 0 0) 0 [] from ⟨rfl, .inr ⟨W.heap.size, 0, #[], rfl, by omega, heap_alloc_new W _, Nat.le_refl _, by unfold maxLen; omega, rfl, rfl⟩⟩)
      have HZ1 := Lib.hid (show w.heap.size + 3 ≤ (W.alloc (.cells #[] 33)).drew.heap.size by show _ ≤ (W.alloc _).heap.size; simp; omega)
      have HRA := Lib.hid (show ∀ w', Below (w.heap.size + 2) W w' → RowAt w' A (cellsOf al) from fun w' hb => hA.below (hb0.trans (hb.mono (by omega))))
      have HRB := Lib.hid (show ∀ w', Below (w.heap.size + 2) W w' → RowAt w' B (cellsOf bl) from fun w' hb => hB.below (hb0.trans (hb.mono (by omega))))
      have HSZ := Lib.hid hsz; clear hsz
      have HK3 := Lib.hid k3; clear k1 k2 k3
      go_region_held3 (fun w' => w'.cell? ⟨w.heap.size, 2, none⟩ = some (.slice A al.length c) ∧ w'.cell? ⟨w.heap.size + 1, 1, none⟩ = some (.int .i64 bt) ∧ w'.cell? ⟨w.heap.size + 1, 2, none⟩ = some (.slice B bl.length d) ∧ Below (w.heap.size + 2) W w')
        (first | exact HSB.out _ (Below.refl _ _).drew | exact HSB.out _ HB1.out | exact HSB.out _ HB2.out | exact HSB.out _ HB3.out | exact HSB.out _ (set3b HB3.out (by omega)))
        (first
          | (refine step_append_row (by rfl) (.tmp 16) (.tmp 18) 22 (by rfl) (w.heap.size + 3) 33 i0 (.agg #[.string ByteArray.empty, .int .i64 0, .int .i64 0]) 3 32 Tryd.underlying22 hi hz0 hz1 hz2 hzc (by decide) (.slice (some ⟨W.heap.size, 0, none⟩) 0 0) 0 [] (by rfl) HO1.out A al.length c (cellsOf al) (by rfl) (cellsOf_length al) (HRA.out _ HB1.out) (cellsOf_one al) (by unfold maxLen; omega) (by omega) HZ1.out ?_
             intro v2 w2 hown2 hgrow2
             have HB2 := Lib.hid (HB1.out.grown hgrow2 (by have := HZ1.out; omega) (fun k e => by have := (World.ownsRow.lt HO1.out k e).1; omega))
             have HZ2 := Lib.hid (show w.heap.size + 3 ≤ w2.heap.size by have := hgrow2.size; have := HZ1.out; omega)
             have HK32 := Lib.hid (show w2.heap[w.heap.size + 1 + 1]? = some (.cells #[.bool false, .int .i64 0, .slice none 0 0] 24 (0, 0)) from (hgrow2.block _ (by have := HZ1.out; omega) (fun e => by have := (World.ownsRow.lt HO1.out _ e.symm).1; omega)).trans ((Below.heap_alloc W _ _ (by have := HSZ.out; omega)).trans HK3.out))
             obtain ⟨C2, c2, rfl⟩ := ownsRow_slice hown2
             have HO2 := Lib.hid hown2
             clear hown2 hgrow2)
          | (refine step_append_row (by rfl) (.tmp 19) (.tmp 21) 22 (by rfl) (w.heap.size + 3) 33 i0 (.agg #[.string ByteArray.empty, .int .i64 0, .int .i64 0]) 3 32 Tryd.underlying22 hi hz0 hz1 hz2 hzc (by decide) (.slice C2 (0 + al.length) c2) (0 + al.length) ([] ++ cellsOf al) (by rfl) HO2.out B bl.length d (cellsOf bl) (by rfl) (cellsOf_length bl) (HRB.out _ HB2.out) (cellsOf_one bl) (by unfold maxLen; omega) (by omega) HZ2.out ?_
             intro v3 w3 hown3 hgrow3
             have HB3 := Lib.hid (HB2.out.grown hgrow3 (by have := HZ2.out; omega) (fun k e => by have := (World.ownsRow.lt HO2.out k e).1; omega))
             have hk33 := (hgrow3.block (w.heap.size + 1 + 1) (by have := HZ2.out; omega) (fun e => by have := (World.ownsRow.lt HO2.out _ e.symm).1; omega)).trans HK32.out
             obtain ⟨C3, c3, rfl⟩ := ownsRow_slice hown3
             obtain ⟨z1, z2, z3, z4, z5, z6⟩ := blk3 hk33
             clear hk33
             rw [List.nil_append, ← cellsOf_append, Nat.zero_add, ← List.length_append] at hown3
             have HO3 := Lib.hid hown3
             clear hown3 hgrow3))
      go_wp2_with fail
      exact bodyPost_ret (v := outV C3 c3 ⟨true, bt, al ++ bl⟩) (by simp [results, Tryd.results28, go_sem, z1, z2, z3]) rfl ⟨_, rfl, ⟨C3, c3, rfl, set3' HO3.out (by omega) (by omega)⟩, set3 (hb0.trans (HB3.out.mono (by omega))) (by omega)⟩
end Go.Proofs.YtogmkekbdfckpaaDoor
