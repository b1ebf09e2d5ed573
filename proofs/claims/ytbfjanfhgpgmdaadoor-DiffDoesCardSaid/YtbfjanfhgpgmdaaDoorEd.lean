/- The contract of the law's wide. -/
import Derived.Test.YtbfjanfhgpgmdaaDoorEb
import Derived.Test.YtbfjanfhgpgmdaaDoorDw
namespace Go.Proofs.YtbfjanfhgpgmdaaDoor
open Go.RowKit
set_option linter.unusedSimpArgs false
set_option linter.unusedVariables false

/-- Wide, or else small. -/
def WidePost (es : List Le) (w : World) (e : Ending) (w' : World) : Prop := ∃ r, e = .returned (.bool r) ∧ (r = false → es.length ≤ 500 ∧ ∀ e ∈ es, SmallD e.d) ∧ Below w.heap.size w w'
def WideRel (w : World) (H : Nat) (es : List Le) (i : Value) (wr : World) : Prop :=
  ∃ (k : Nat) (V : Option Addr) (vc : Nat), k ≤ es.length ∧ k ≤ 500 ∧ i = .int .i64 k ∧ Hid (wr.heap[H]? = some (.cells #[.slice V k vc] 24 (0, 0))) ∧
    Hid (wr.ownsRow (H + 1) 36 3 (.slice V k vc) k (dfL.all ((es.take k).map Le.d))) ∧ Hid (Below H w wr) ∧ Hid (H + 1 ≤ wr.heap.size)
set_option maxRecDepth 100000 in
set_option maxHeartbeats 6400000 in
theorem wide_any (es : List Le) (L : Option Addr) (lc : Nat) (T : Nat → Prop) (w : World) (hL : edL.row w T L es) (hl : es.length ≤ 281474976710656) :
    Calls Tryd.prog 14 #[.slice L es.length lc] w (WidePost es w) := by
  obtain ⟨j0, hj, hy0, hy1, hy2⟩ := info_parts infoDef
  have hzc : (Value.agg #[.string ByteArray.empty, .slice none 0 0, .int .i64 0]).cells.size = 3 := rfl
  have HL := Lib.hid hL; clear hL
  go_enter Tryd.func14, Tryd.ntmps14
  go_wp2_with fail
  go_loopw [4] (fun i wr => WideRel w w.heap.size es i wr) (fun i _ => 501 - (intOf i).toNat)
  case atStart => exact ⟨0, none, 0, Nat.zero_le _, by omega, rfl, Lib.hid (bx_new w _), Lib.hid (World.ownsRow_nil _ _ _ _), Lib.hid (bx1 w _), Lib.hid (by simp)⟩
  case round =>
    obtain ⟨k, V, vc, hk, hk5, rfl, HKG, HOW, HB, HZ⟩ := hrel
    by_cases hgo : k < es.length ∧ k < 500
    · obtain ⟨hk1, hk2⟩ := hgo
      have i1 : (k : Int) < (es.length : Int) := by omega
      have i2 : (0 : Int) ≤ (k : Int) := by omega
      have i3 : (k : Int) < 500 := by omega
      obtain ⟨eb, eo, rfl, _, _, x0, x1, x2, x3⟩ := edRow (HL.out.agree (below_all HB.out)) k hk1
      have HTK := Lib.hid (show (es.take (k + 1)).map Le.d = (es.take k).map Le.d ++ [es[k].d] from by rw [List.take_succ_eq_append_getElem hk1, List.map_append]; rfl)
      generalize es[k] = ee at *
      obtain ⟨kd, x⟩ := ee
      simp only at x0 x1 x2 x3 HTK
      obtain ⟨p1, p2⟩ := blk1 HKG.out
      go_upto_region 5 with (fail)
      have z1 := cellLt x0
      have HVN := Lib.hid (show ∀ y, blkOf V = some y → w.heap.size + 1 ≤ y from fun y hy => (own_blk HOW.out y hy).1)
      have HF := Lib.hid (show k + 1 ≤ maxLen ∧ (k + 1) * 48 ≤ 140737488355328 from ⟨by unfold maxLen; omega, by omega⟩)
      have HOW2 := Lib.hid (show (wr.drew.alloc (.cells #[.string x.name, .slice x.t.A x.t.ls.length x.t.c, .int .i64 x.t.root] 36)).ownsRow (w.heap.size + 1) 36 3 (.slice V k vc) k (dfL.all ((es.take k).map Le.d)) from World.ownsRow.alloc (own_agree HOW.out (fun _ _ => rfl)) _)
      have HKB := Lib.hid (show (wr.drew.alloc (.cells #[.string x.name, .slice x.t.A x.t.ls.length x.t.c, .int .i64 x.t.root] 36)).heap[w.heap.size]? = some (.cells #[.slice V k vc] 24 (0, 0)) from bx_old (w := wr.drew) (by have h := HKG.out; exact h))
      have hHw : w.heap.size < wr.heap.size := by have := HZ.out; omega
      go_region_law ((refine step_append_at (by rfl) (.tmp 16) (.tmp 22) 22 (by rfl) (w.heap.size + 1) 36 j0 (.agg #[.string ByteArray.empty, .slice none 0 0, .int .i64 0]) 3 48 Tryd.underlying22 hj hy0 hy1 hy2 hzc (by decide) V vc k (dfL.all ((es.take k).map Le.d)) (by rfl) HOW2.out (some ⟨wr.heap.size, 0, none⟩) 1 1 [.string x.name, .slice x.t.A x.t.ls.length x.t.c, .int .i64 x.t.root] (by rfl) rfl (row_blk (bx_new wr.drew _)) (fun u hu => by simp only [List.mem_cons, List.not_mem_nil, or_false] at hu; rcases hu with rfl | rfl | rfl <;> rfl) HF.out.1 HF.out.2 (by have := HZ.out; simp; omega) ?_; intro V' vc' w2 HO2 HG2 HA2; have HK2 := Lib.hid ((HG2.out.block w.heap.size (heap_lt' HKB.out) (fun e => by have := HVN.out _ e.symm; omega)).trans HKB.out); obtain ⟨t1, t2⟩ := blk1 HK2.out))
      all_goals
        clear p1 p2 x0 x1 x2 x3
        go_wp2_with fail
        have hz := HZ.out
        have ho2 := HO2.out
        rw [show dfL.all ((es.take k).map Le.d) ++ [Value.string x.name, .slice x.t.A x.t.ls.length x.t.c, .int .i64 x.t.root] = dfL.all ((es.take (k + 1)).map Le.d) by rw [HTK.out, dfL.all_append, dfL.all_one]; rfl] at ho2
        refine ⟨⟨k + 1, V', vc', by omega, by omega, by go_num, Lib.hid (set_blk1 HK2.out), Lib.hid (own_agree ho2 (fun y hy => Below.heap_setCell _ _ _ _ (by have := (own_blk ho2 y hy).1; show y ≠ w.heap.size; omega))), Lib.hid (Below.setCell (p := ⟨w.heap.size, 0, none⟩) ?_ (Nat.le_refl _) _), Lib.hid (by have := HG2.out.size; simp at this; simp; omega)⟩, by simp only [intOf]; omega⟩
        have h5 : Below w.heap.size w (wr.alloc (.cells #[.string x.name, .slice x.t.A x.t.ls.length x.t.c, .int .i64 x.t.root] 36)) := HB.out.trans ((bx1 wr _).mono (by omega))
        first
          | exact (h5.drew).grown HG2.out (by simp; omega) (fun y hy => by have := HVN.out y hy; omega)
          | exact (show Below w.heap.size w (wr.drew.alloc _) from ⟨h5.1, h5.2, h5.3, h5.4, h5.5⟩).grown HG2.out (by simp; omega) (fun y hy => by have := HVN.out y hy; omega)
    · obtain ⟨p1, p2⟩ := blk1 HKG.out
      by_cases h5 : 500 ≤ es.length
      · have j1 : (500 : Int) ≤ (es.length : Int) := by omega
        obtain rfl : k = 500 := by omega
        by_cases he : es.length = 500
        · have j2 : ¬ (500 : Int) < (es.length : Int) := by omega
          as_aux_lemma =>
            go_wp2_with fail
            go_ret
            exact ⟨true, rfl, (fun h => by cases h), HB.out⟩
        · have j2 : (500 : Int) < (es.length : Int) := by omega
          as_aux_lemma =>
            go_wp2_with fail
            go_ret
            exact ⟨true, rfl, (fun h => by cases h), HB.out⟩
      · obtain rfl : k = es.length := by omega
        have j1 : ¬ (500 : Int) ≤ (es.length : Int) := by omega
        have hz := HZ.out
        have hz2 := HB.out.size
        have HGR := Lib.hid (show grL.row (wr.alloc (.cells #[.slice V es.length vc] (24))) (fun _ => True) (some ⟨wr.heap.size, 0, none⟩) [⟨V, vc, es.map Le.d⟩] from by
          refine ⟨⟨?_, fun _ _ _ => trivial⟩, fun g hg => ?_⟩
          · have h := row_blk (cs := [.slice V es.length vc]) (bx_new wr (.cells #[.slice V es.length vc] (24)))
            have e : grL.all [⟨V, vc, es.map Le.d⟩] = [.slice V es.length vc] := by rw [grL.all_one]; show [Value.slice V (es.map Le.d).length vc] = _; rw [List.length_map]
            rw [e]; exact h
          · simp only [List.mem_singleton] at hg
            subst hg
            have ho := HOW.out
            rw [List.take_length] at ho
            refine ⟨by show (es.map Le.d).length ≤ _; rw [List.length_map]; omega, ?_⟩
            show dfL.row _ _ V (es.map Le.d)
            refine ⟨RowIn.agree (own_rowIn (S := fun _ => True) ho (fun _ _ => trivial)) (below_all (bx1 wr _)), fun d hd => ?_⟩
            obtain ⟨ee, he, rfl⟩ := List.mem_map.1 hd
            have h1 := HL.out.2 ee he
            exact dfL.mono (dfL.agree (show dfL.inn w T ee.d from ⟨h1.2.1, h1.2.2⟩) (below_all (HB.out.trans ((bx1 wr _).mono hz2)))) (fun _ _ _ => trivial))
        as_aux_lemma =>
          go_wp2_with (go_at_call 9; refine (large_any [⟨V, vc, es.map Le.d⟩] (some ⟨wr.heap.size, 0, none⟩) 1 (fun _ => True) _ HGR.out (by simp)).mono ?_; rintro e w3 ⟨r, rfl, hr, hb3⟩; have HR := Lib.hid hr; have HB3 := Lib.hid (Below.step HB.out (Below.step (bx1 wr _) hb3)); clear hr hb3)
          go_ret
          exact ⟨r, rfl, fun h => by
            have h1 := (HR.out h) ⟨V, vc, es.map Le.d⟩ (by simp)
            exact ⟨by omega, fun e he => h1.2 e.d (List.mem_map.2 ⟨e, he, rfl⟩)⟩, HB3.out⟩
end Go.Proofs.YtbfjanfhgpgmdaaDoor
