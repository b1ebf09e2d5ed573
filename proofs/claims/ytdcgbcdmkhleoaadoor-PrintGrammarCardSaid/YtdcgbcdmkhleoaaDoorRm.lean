/- The contract of bonsailaw08.bodies. -/
import Derived.Test.YtdcgbcdmkhleoaaDoorIm
namespace Go.Proofs.YtdcgbcdmkhleoaaDoor
open Go.RowKit
set_option linter.unusedSimpArgs false
set_option linter.unusedVariables false

theorem infoTree : (Tryd.prog.info? 24).map (fun i => (i.zero, i.size, i.bytes)) = some (some (.agg #[.slice none 0 0, .int .i64 0]), 2, 32) := by kernel_rfl
def BodPost (ds : List Ld) (w : World) (e : Ending) (w' : World) : Prop := ∃ (V : Option Addr) (vc : Nat) (ks : List Lt), e = .returned (.slice V ks.length vc) ∧ ks = (ds.take 3000).map Ld.t ∧ ttL.row w' (fun _ => True) V ks ∧ Below w.heap.size w w'
def BodRel (w : World) (A : Option Addr) (c : Nat) (ds : List Ld) (v3 v4 : Value) (wr : World) : Prop :=
  ∃ (k : Nat) (V : Option Addr) (vc : Nat), k ≤ ds.length ∧ k ≤ 3000 ∧ v4 = .int .i64 k ∧ v3 = .slice V k vc ∧ Hid (wr.ownsRow (w.heap.size + 1) 24 2 (.slice V k vc) k (ttL.all ((ds.take k).map Ld.t))) ∧ Hid (wr.heap[w.heap.size]? = some (.cells #[.slice A ds.length c] 50 (0, 0))) ∧ Hid (Below w.heap.size w wr) ∧ Hid (w.heap.size + 1 ≤ wr.heap.size)

set_option maxRecDepth 100000 in
set_option maxHeartbeats 6400000 in
theorem bodies_any (A : Option Addr) (c : Nat) (ds : List Ld) (S : Nat → Prop) (w : World) (hA : dfL.row w S A ds) (hl : ds.length ≤ 281474976710656) :
    Calls Tryd.prog 24 #[.agg #[.slice A ds.length c]] w (BodPost ds w) := by
  obtain ⟨j0, hj, hy0, hy1, hy2⟩ := info_parts infoTree
  have HA := Lib.hid hA; clear hA
  go_enter Tryd.func24, Tryd.ntmps24
  go_wp2_with fail
  go_loopw [3, 4] (fun v3 v4 wr => BodRel w A c ds v3 v4 wr) (fun _ v4 _ => ds.length - (intOf v4).toNat)
  case atStart => exact ⟨0, none, 0, Nat.zero_le _, by omega, rfl, rfl, Lib.hid (World.ownsRow_nil _ _ _ _), Lib.hid (bx_new w _), Lib.hid (bx1 w _), Lib.hid (by simp)⟩
  case round =>
    obtain ⟨k, V, vc, hk, hk3, rfl, rfl, HO, HK, HB, HZ⟩ := hrel
    obtain ⟨p1, p2⟩ := blk1 HK.out
    by_cases hgo : k < ds.length ∧ k < 3000
    · obtain ⟨hlt, hl3⟩ := hgo
      have i1 : (k : Int) < (ds.length : Int) := by omega
      have i2 : (0 : Int) ≤ (k : Int) := by omega
      have i3 : (k : Int) < 3000 := by omega
      obtain ⟨b, o, rfl, _, _, x0, x1, x2⟩ := dfRow (HA.out.below HB.out) k hlt
      have HTK := Lib.hid (show (ds.take (k + 1)).map Ld.t = (ds.take k).map Ld.t ++ [ds[k].t] from by rw [List.take_succ_eq_append_getElem hlt, List.map_append]; rfl)
      generalize ds[k] = d at *
      obtain ⟨nm, TA, tc, tls, tr⟩ := d
      simp only at x0 x1 x2 HTK
      have F := Lib.hid (show k + 1 ≤ maxLen ∧ (k + 1) * 32 ≤ 140737488355328 ∧ w.heap.size + 1 ≤ (wr.alloc (.cells #[.slice TA tls.length tc, .int .i64 tr] 24)).heap.size from ⟨by unfold maxLen; omega, by omega, by have := HZ.out; simp; omega⟩)
      go_wp2_with (at_builtin; refine wpList_append_at _ rfl (.tmp 16) (.tmp 23) 42 rfl (w.heap.size + 1) 24 j0 _ 2 32 Tryd.underlying42 hj hy0 hy1 hy2 rfl (by decide) V vc k (ttL.all ((ds.take k).map Ld.t)) rfl (World.ownsRow.alloc HO.out _) (some ⟨wr.heap.size, 0, none⟩) 1 1 [.slice TA tls.length tc, .int .i64 tr] rfl rfl (row_blk (bx_new wr _)) (fun u hu => by simp only [List.mem_cons, List.not_mem_nil, or_false] at hu; rcases hu with rfl | rfl <;> rfl) F.out.1 F.out.2.1 F.out.2.2 ?_; intro V' vc' w2 HO2 HG2 HA2)
      have hz := HZ.out
      have hvb : ∀ y, blkOf V = some y → w.heap.size + 1 ≤ y := fun y hy => (own_blk HO.out y hy).1
      refine ⟨⟨k + 1, V', vc', hlt, hl3, by go_num, rfl, Lib.hid ?_, Lib.hid ((HG2.out.block w.heap.size (by simp; omega) (fun e => by have := hvb _ e.symm; omega)).trans (bx_old HK.out)), Lib.hid ((HB.out.alloc HB.out.size _).grown HG2.out (by simp; omega) (fun y hy => by have := hvb y hy; omega)), Lib.hid (by have := HG2.out.size; simp at this; omega)⟩, by simp [intOf]; omega⟩
      have h := HO2.out
      rw [HTK.out, Lay.all_append, Lay.all_one]
      exact h
    · have hke : (ds.take 3000).map Ld.t = (ds.take k).map Ld.t := by
        rcases Nat.lt_or_ge k ds.length with h | h
        · have : k = 3000 := by omega
          rw [this]
        · rw [List.take_of_length_le (show ds.length ≤ k by omega), List.take_of_length_le (show ds.length ≤ 3000 by omega)]
      have HKE := Lib.hid hke; clear hke
      have HLN := Lib.hid (show ((ds.take k).map Ld.t).length = k from by rw [List.length_map, List.length_take]; omega)
      have HRW := Lib.hid (show ttL.row wr (fun _ => True) V ((ds.take k).map Ld.t) from by
        refine ⟨own_rowIn HO.out (fun _ _ => trivial), fun t ht => ?_⟩
        obtain ⟨d, hd, rfl⟩ := List.mem_map.1 ht
        have h1 := (HA.out.below HB.out).2 d (List.mem_of_mem_take hd)
        exact h1.2.mono (fun _ _ _ => trivial))
      by_cases hlt : k < ds.length
      · have i1 : (k : Int) < (ds.length : Int) := by omega
        have i3 : ¬ (k : Int) < 3000 := by omega
        go_wp2_with fail
        go_ret
        exact ⟨V, vc, (ds.take k).map Ld.t, by rw [HLN.out]; rfl, HKE.out.symm, HRW.out, HB.out⟩
      · have i1 : ¬ (k : Int) < (ds.length : Int) := by omega
        go_wp2_with fail
        go_ret
        exact ⟨V, vc, (ds.take k).map Ld.t, by rw [HLN.out]; rfl, HKE.out.symm, HRW.out, HB.out⟩
end Go.Proofs.YtdcgbcdmkhleoaaDoor
