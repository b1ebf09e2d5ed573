/- The contract of bonsairef14.Cap. -/
import Derived.Test.YtogmkekbdfckpaaDoorSj
namespace Go.Proofs.YtogmkekbdfckpaaDoor
open Go.RowKit

set_option maxRecDepth 100000 in
set_option maxHeartbeats 1600000 in
theorem rcap_any (s : ByteArray) (frm : Int) (o : Outc) (A : Option Addr) (c : Nat) (w : World) (hA : RowAt w A (cellsOf o.caps)) (hl : o.caps.length ≤ 4294967290) :
    Calls Tryd.prog 29 #[.string s, .int .i64 frm, outV A c o] w fun e w' => ∃ v, e = .returned v ∧ OutOwn w' w.heap.size v (capO s frm o) ∧ Below w.heap.size w w' := by
  obtain ⟨ok, to, l⟩ := o
  simp only at hA hl
  obtain ⟨i0, hi, hz0, hz1, hz2⟩ := info_parts infoCap
  have hzc : (Value.agg #[.string ByteArray.empty, .int .i64 0, .int .i64 0]).cells.size = 3 := rfl
  cases ok
  · go_enter Tryd.func29, Tryd.ntmps29
    go_wp2_with fail
    exact bodyPost_ret (v := outV none 0 ⟨false, 0, []⟩) (by simp [results, Tryd.results29, go_sem]) rfl ⟨_, rfl, OutOwn.fail _ _, box2 w _ _⟩
  · go_enter Tryd.func29, Tryd.ntmps29
    go_wp2_with fail
    generalize hW : ((w.alloc _).alloc _) = W
    have hsz : W.heap.size = w.heap.size + 2 := by rw [← hW]; simp
    have hb0 : Below w.heap.size w W := by rw [← hW]; exact box2 _ _ _
    obtain ⟨k1, k2⟩ := kept2 (w' := W) (Below.refl _ W) (by rw [← hW])
    clear hW
    obtain ⟨p1, p2, p3, _, _, _⟩ := blk3 k1
    have HSB := Lib.hid (show ∀ w', Below (w.heap.size + 1) W w' → w'.cell? ⟨w.heap.size, 1, none⟩ = some (.int .i64 to) ∧ w'.cell? ⟨w.heap.size, 2, none⟩ = some (.slice A l.length c) ∧ Below (w.heap.size + 1) W w' from
      fun w' hb => ⟨(hb.cell (by show w.heap.size < _; omega)).trans p2, (hb.cell (by show w.heap.size < _; omega)).trans p3, hb⟩)
    clear p1 p2 p3
    have HB1 := Lib.hid (show Below (w.heap.size + 1) W (W.alloc (.cells #[.string s, .int .i64 frm, .int .i64 to] 33)).drew from ((Below.refl _ W).alloc (by omega) _).drew)
    have HO1 := Lib.hid (show (W.alloc (.cells #[.string s, .int .i64 frm, .int .i64 to] 33)).drew.ownsRow (w.heap.size + 2) 33 3 (.slice (some ⟨W.heap.size, 0, none⟩) 1 1) 1 (cellsOf [⟨s, frm, to⟩]) from ⟨rfl, .inr ⟨W.heap.size, 1, #[.string s, .int .i64 frm, .int .i64 to], rfl, by omega, heap_alloc_new W _, Nat.le_refl _, by unfold maxLen; omega, rfl, rfl⟩⟩)
    have HZ1 := Lib.hid (show w.heap.size + 2 ≤ (W.alloc (.cells #[.string s, .int .i64 frm, .int .i64 to] 33)).drew.heap.size by show _ ≤ (W.alloc _).heap.size; simp; omega)
    have HRA := Lib.hid (show ∀ w', Below (w.heap.size + 1) W w' → RowAt w' A (cellsOf l) from fun w' hb => hA.below (hb0.trans (hb.mono (by omega))))
    have HSZ := Lib.hid hsz; clear hsz
    have HK3 := Lib.hid k2; clear k1 k2
    go_region_held3 (fun w' => w'.cell? ⟨w.heap.size, 1, none⟩ = some (.int .i64 to) ∧ w'.cell? ⟨w.heap.size, 2, none⟩ = some (.slice A l.length c) ∧ Below (w.heap.size + 1) W w')
      (first | exact HSB.out _ (Below.refl _ _).drew | exact HSB.out _ HB1.out | exact HSB.out _ HB2.out | exact HSB.out _ (set3b HB2.out (by omega)))
      ((
           refine step_append_row (by rfl) (.tmp 18) (.tmp 20) 22 (by rfl) (w.heap.size + 2) 33 i0 (.agg #[.string ByteArray.empty, .int .i64 0, .int .i64 0]) 3 32 Tryd.underlying22 hi hz0 hz1 hz2 hzc (by decide) (.slice (some ⟨W.heap.size, 0, none⟩) 1 1) 1 (cellsOf [⟨s, frm, to⟩]) (by rfl) HO1.out A l.length c (cellsOf l) (by rfl) (cellsOf_length l) (HRA.out _ HB1.out) (cellsOf_one l) (by unfold maxLen; omega) (by omega) HZ1.out ?_
           intro v2 w2 hown2 hgrow2
           have HB2 := Lib.hid (HB1.out.grown hgrow2 (by have := HZ1.out; omega) (fun k e => by have := (World.ownsRow.lt HO1.out k e).1; omega))
           have hk2 := (show w2.heap[w.heap.size + 1]? = some (.cells #[.bool false, .int .i64 0, .slice none 0 0] 24 (0, 0)) from (hgrow2.block _ (by have := HZ1.out; omega) (fun e => by have := (World.ownsRow.lt HO1.out _ e.symm).1; omega)).trans ((Below.heap_alloc W _ _ (by have := HSZ.out; omega)).trans HK3.out))
           obtain ⟨C2, c2, rfl⟩ := ownsRow_slice hown2
           obtain ⟨z1, z2, z3, z4, z5, z6⟩ := blk3 hk2
           clear hk2
           rw [← cellsOf_append, (show 1 + l.length = ([⟨s, frm, to⟩] ++ l : List Cap).length by simp; omega)] at hown2
           have HO2 := Lib.hid hown2
           clear hown2 hgrow2))
    go_wp2_with fail
    rw [(show 1 + l.length = (⟨s, frm, to⟩ :: l : List Cap).length by simp; omega)]
    exact bodyPost_ret (v := outV C2 c2 ⟨true, to, ⟨s, frm, to⟩ :: l⟩) (by simp [results, Tryd.results29, go_sem, z1, z2, z3, Nat.add_comm]) rfl ⟨_, rfl, ⟨C2, c2, rfl, set3' HO2.out (by omega) (by omega)⟩, set3b (hb0.trans (HB2.out.mono (by omega))) (by omega)⟩
end Go.Proofs.YtogmkekbdfckpaaDoor
