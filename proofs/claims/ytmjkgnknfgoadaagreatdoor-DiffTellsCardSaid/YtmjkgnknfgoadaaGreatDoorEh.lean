/- The contracts of the reference's comparisons: what reads alike is found the same. The contracts of bonsairef09.Exact: what reads alike is found the same. -/
import Derived.Test.YtmjkgnknfgoadaaGreatDoorDw
import Derived.BigQuiet
import Derived.Deep.RegionHeld3
import Derived.Deep.Cut
namespace Go.Proofs.YtmjkgnknfgoadaaGreatDoor
open Go.RowKit
set_option linter.unusedSimpArgs false
set_option linter.unusedVariables false
theorem drewN_belowE {B : Nat} {w w' : World} (h : Below B w w') (n : Nat) : Below B w (w'.drewN n) := ⟨h.1, h.2, h.3, h.4, fun k hk => h.5 k hk⟩
set_option maxRecDepth 100000 in
set_option maxHeartbeats 12800000 in
theorem exact4_any (A B : Option Addr) (c d : Nat) (ls ms : List Ln) (r : Int) (S T : Nat → Prop) (w : World) (hA : ndL.row w S A ls) (hB : ndL.row w T B ms) (he : ls.map Ln.nd = ms.map Ln.nd) (hl : ls.length ≤ 281474976710656) :
    Calls Tryz.prog 43 #[.agg #[.slice A ls.length c, .int .i64 r], .agg #[.slice B ms.length d, .int .i64 r]] w fun e w' => e = .returned (.bool true) ∧ Below w.heap.size w w' := by
  have hlen : ms.length = ls.length := by have := congrArg List.length he; simpa using this.symm
  have HA := Lib.hid hA; have HB := Lib.hid hB; have HE := Lib.hid he
  clear hA hB he
  have HK := Lib.hid (show ∀ w', Below ((w.alloc (.cells #[.slice A ls.length c, .int .i64 r] 48)).alloc (.cells #[.slice B ls.length d, .int .i64 r] 48)).heap.size ((w.alloc (.cells #[.slice A ls.length c, .int .i64 r] 48)).alloc (.cells #[.slice B ls.length d, .int .i64 r] 48)) w' → (w'.heap[w.heap.size]? = some (.cells #[.slice A ls.length c, .int .i64 r] 48 (0, 0)) ∧ w'.heap[w.heap.size + 1]? = some (.cells #[.slice B ls.length d, .int .i64 r] 48 (0, 0))) ∧ Below w.heap.size w w' from fun w' hb => ⟨bx2_kept hb, Below.step (bx2 w _ _) hb⟩)
  rw [hlen]
  go_enter Tryz.func43, Tryz.ntmps43
  go_wp2_with fail
  generalize ((w.alloc (.cells #[.slice A ls.length c, .int .i64 r] 48)).alloc (.cells #[.slice B ls.length d, .int .i64 r] 48)) = W0 at *
  go_loopw [5] (fun i wr => ∃ k : Nat, k ≤ ls.length ∧ i = .int .i64 k ∧ Hid (Below W0.heap.size W0 wr)) (fun i _ => ls.length - (intOf i).toNat)
  case atStart => exact ⟨0, Nat.zero_le _, rfl, Lib.hid (Below.refl _ _)⟩
  case round =>
    obtain ⟨k, hk, rfl, HBW⟩ := hrel
    obtain ⟨⟨ha, hb⟩, hbw⟩ := HK.out wr HBW.out
    obtain ⟨p1, p2, _, _⟩ := blk2 ha
    obtain ⟨q1, q2, _, _⟩ := blk2 hb
    by_cases hlt : k < ls.length
    · have i1 : (k : Int) < (ls.length : Int) := by omega
      have i2 : (0 : Int) ≤ (k : Int) := by omega
      obtain ⟨ab, ao, rfl, _, hal, x0, x1, x2, x3, x4, x5, x6, x7, x8⟩ := ndRow (HA.out.below hbw) k hlt
      obtain ⟨bb, bo, rfl, _, hbl, y0, y1, y2, y3, y4, y5, y6, y7, y8⟩ := ndRow (HB.out.below hbw) k (by omega)
      have HND := Lib.hid (show ls[k].nd = (ms[k]'(by omega)).nd from by
        have h1 := congrArg (·[k]?) HE.out
        simp only [List.getElem?_map] at h1
        rw [List.getElem?_eq_getElem hlt, List.getElem?_eq_getElem (show k < ms.length by omega)] at h1
        simpa using h1)
      have HSA := Lib.hid (ndSub (HA.out.below hbw) k hlt)
      have HSB := Lib.hid (ndSub (HB.out.below hbw) k (by omega))
      have hkl := (ndWf (HA.out.below hbw) k hlt).2.2.1
      generalize ls[k] = la at *
      generalize ms[k]'(by omega) = lb at *
      have hnd := HND.out
      rw [← hnd] at y0 y1 y2 y3 y4 y5 y6 y7 y8
      have hkl2 : lb.nd.kids.length ≤ 281474976710656 := by rw [← hnd]; exact hkl
      have HSA2 := Lib.hid (show intL.row wr S la.A lb.nd.kids from by rw [← hnd]; exact HSA.out)
      clear HSA hkl
      rw [hnd] at x0 x1 x2 x3 x4 x5 x6 x7 x8 y0 y1 y2 y3 y4 y5 y6 y7 y8
      clear hnd
      go_upto_region 6 with (fail)
      have HST := Lib.hid (show ∀ w', Below wr.heap.size wr w' → w'.cell? ⟨w.heap.size, 0, none⟩ = some (.slice (some ⟨ab, ao, none⟩) ls.length c) ∧ w'.cell? ⟨w.heap.size + 1, 0, none⟩ = some (.slice (some ⟨bb, bo, none⟩) ls.length d) ∧ (w'.cell? ⟨ab, ao + k * 9, none⟩ = some (.int .u8 lb.nd.kind) ∧ w'.cell? ⟨ab, ao + k * 9 + 1, none⟩ = some (.int .u64 lb.nd.s0) ∧ w'.cell? ⟨ab, ao + k * 9 + 2, none⟩ = some (.int .u64 lb.nd.s1) ∧ w'.cell? ⟨ab, ao + k * 9 + 3, none⟩ = some (.int .u64 lb.nd.s2) ∧ w'.cell? ⟨ab, ao + k * 9 + 4, none⟩ = some (.int .u64 lb.nd.s3) ∧ w'.cell? ⟨ab, ao + k * 9 + 5, none⟩ = some (.string lb.nd.text) ∧ w'.cell? ⟨ab, ao + k * 9 + 6, none⟩ = some (.int .i64 lb.nd.mn) ∧ w'.cell? ⟨ab, ao + k * 9 + 7, none⟩ = some (.int .i64 lb.nd.mx) ∧ w'.cell? ⟨ab, ao + k * 9 + 8, none⟩ = some (.slice la.A lb.nd.kids.length la.c)) ∧ w'.cell? ⟨bb, bo + k * 9, none⟩ = some (.int .u8 lb.nd.kind) ∧ w'.cell? ⟨bb, bo + k * 9 + 1, none⟩ = some (.int .u64 lb.nd.s0) ∧ w'.cell? ⟨bb, bo + k * 9 + 2, none⟩ = some (.int .u64 lb.nd.s1) ∧ w'.cell? ⟨bb, bo + k * 9 + 3, none⟩ = some (.int .u64 lb.nd.s2) ∧ w'.cell? ⟨bb, bo + k * 9 + 4, none⟩ = some (.int .u64 lb.nd.s3) ∧ w'.cell? ⟨bb, bo + k * 9 + 5, none⟩ = some (.string lb.nd.text) ∧ w'.cell? ⟨bb, bo + k * 9 + 6, none⟩ = some (.int .i64 lb.nd.mn) ∧ w'.cell? ⟨bb, bo + k * 9 + 7, none⟩ = some (.int .i64 lb.nd.mx) ∧ w'.cell? ⟨bb, bo + k * 9 + 8, none⟩ = some (.slice lb.A lb.nd.kids.length lb.c) from fun w' hb =>
        ⟨(hb.cell (cellLt p1)).trans p1, (hb.cell (cellLt q1)).trans q1, ⟨(hb.cell (cellLt x0)).trans x0, (hb.cell (cellLt x1)).trans x1, (hb.cell (cellLt x2)).trans x2, (hb.cell (cellLt x3)).trans x3, (hb.cell (cellLt x4)).trans x4, (hb.cell (cellLt x5)).trans x5, (hb.cell (cellLt x6)).trans x6, (hb.cell (cellLt x7)).trans x7, (hb.cell (cellLt x8)).trans x8⟩, (hb.cell (cellLt y0)).trans y0, (hb.cell (cellLt y1)).trans y1, (hb.cell (cellLt y2)).trans y2, (hb.cell (cellLt y3)).trans y3, (hb.cell (cellLt y4)).trans y4, (hb.cell (cellLt y5)).trans y5, (hb.cell (cellLt y6)).trans y6, (hb.cell (cellLt y7)).trans y7, (hb.cell (cellLt y8)).trans y8⟩)
      clear p1 p2 q1 q2 x0 x1 x2 x3 x4 x5 x6 x7 x8 y0 y1 y2 y3 y4 y5 y6 y7 y8 ha hb
      go_region_held3 (fun w' => w'.cell? ⟨w.heap.size, 0, none⟩ = some (.slice (some ⟨ab, ao, none⟩) ls.length c) ∧ w'.cell? ⟨w.heap.size + 1, 0, none⟩ = some (.slice (some ⟨bb, bo, none⟩) ls.length d) ∧ (w'.cell? ⟨ab, ao + k * 9, none⟩ = some (.int .u8 lb.nd.kind) ∧ w'.cell? ⟨ab, ao + k * 9 + 1, none⟩ = some (.int .u64 lb.nd.s0) ∧ w'.cell? ⟨ab, ao + k * 9 + 2, none⟩ = some (.int .u64 lb.nd.s1) ∧ w'.cell? ⟨ab, ao + k * 9 + 3, none⟩ = some (.int .u64 lb.nd.s2) ∧ w'.cell? ⟨ab, ao + k * 9 + 4, none⟩ = some (.int .u64 lb.nd.s3) ∧ w'.cell? ⟨ab, ao + k * 9 + 5, none⟩ = some (.string lb.nd.text) ∧ w'.cell? ⟨ab, ao + k * 9 + 6, none⟩ = some (.int .i64 lb.nd.mn) ∧ w'.cell? ⟨ab, ao + k * 9 + 7, none⟩ = some (.int .i64 lb.nd.mx) ∧ w'.cell? ⟨ab, ao + k * 9 + 8, none⟩ = some (.slice la.A lb.nd.kids.length la.c)) ∧ w'.cell? ⟨bb, bo + k * 9, none⟩ = some (.int .u8 lb.nd.kind) ∧ w'.cell? ⟨bb, bo + k * 9 + 1, none⟩ = some (.int .u64 lb.nd.s0) ∧ w'.cell? ⟨bb, bo + k * 9 + 2, none⟩ = some (.int .u64 lb.nd.s1) ∧ w'.cell? ⟨bb, bo + k * 9 + 3, none⟩ = some (.int .u64 lb.nd.s2) ∧ w'.cell? ⟨bb, bo + k * 9 + 4, none⟩ = some (.int .u64 lb.nd.s3) ∧ w'.cell? ⟨bb, bo + k * 9 + 5, none⟩ = some (.string lb.nd.text) ∧ w'.cell? ⟨bb, bo + k * 9 + 6, none⟩ = some (.int .i64 lb.nd.mn) ∧ w'.cell? ⟨bb, bo + k * 9 + 7, none⟩ = some (.int .i64 lb.nd.mx) ∧ w'.cell? ⟨bb, bo + k * 9 + 8, none⟩ = some (.slice lb.A lb.nd.kids.length lb.c))
        (exact HST.out _ (by repeat (first | exact Below.refl _ _ | refine Below.drew ?_ | refine Below.alloc ?_ (by simp) _ | (refine Below.setCell ?_ (by simp) _))))
        (fail)
      · have HWB := Lib.hid (show Below wr.heap.size wr ((wr.alloc (.cells #[.int .u8 lb.nd.kind, .int .u64 lb.nd.s0, .int .u64 lb.nd.s1, .int .u64 lb.nd.s2, .int .u64 lb.nd.s3, .string lb.nd.text, .int .i64 lb.nd.mn, .int .i64 lb.nd.mx, .slice la.A lb.nd.kids.length la.c] 71)).alloc (.cells #[.int .u8 lb.nd.kind, .int .u64 lb.nd.s0, .int .u64 lb.nd.s1, .int .u64 lb.nd.s2, .int .u64 lb.nd.s3, .string lb.nd.text, .int .i64 lb.nd.mn, .int .i64 lb.nd.mx, .slice lb.A lb.nd.kids.length lb.c] 71)).drew from (bx2 wr _ _).drew)
        have HXA := Lib.hid (show ((wr.alloc (.cells #[.int .u8 lb.nd.kind, .int .u64 lb.nd.s0, .int .u64 lb.nd.s1, .int .u64 lb.nd.s2, .int .u64 lb.nd.s3, .string lb.nd.text, .int .i64 lb.nd.mn, .int .i64 lb.nd.mx, .slice la.A lb.nd.kids.length la.c] 71)).alloc (.cells #[.int .u8 lb.nd.kind, .int .u64 lb.nd.s0, .int .u64 lb.nd.s1, .int .u64 lb.nd.s2, .int .u64 lb.nd.s3, .string lb.nd.text, .int .i64 lb.nd.mn, .int .i64 lb.nd.mx, .slice lb.A lb.nd.kids.length lb.c] 71)).drew.heap[wr.heap.size]? = some (.cells #[.int .u8 lb.nd.kind, .int .u64 lb.nd.s0, .int .u64 lb.nd.s1, .int .u64 lb.nd.s2, .int .u64 lb.nd.s3, .string lb.nd.text, .int .i64 lb.nd.mn, .int .i64 lb.nd.mx, .slice la.A lb.nd.kids.length la.c] 71 (0, 0)) from bx_old (bx_new wr _))
        have HXB := Lib.hid (show ((wr.alloc (.cells #[.int .u8 lb.nd.kind, .int .u64 lb.nd.s0, .int .u64 lb.nd.s1, .int .u64 lb.nd.s2, .int .u64 lb.nd.s3, .string lb.nd.text, .int .i64 lb.nd.mn, .int .i64 lb.nd.mx, .slice la.A lb.nd.kids.length la.c] 71)).alloc (.cells #[.int .u8 lb.nd.kind, .int .u64 lb.nd.s0, .int .u64 lb.nd.s1, .int .u64 lb.nd.s2, .int .u64 lb.nd.s3, .string lb.nd.text, .int .i64 lb.nd.mn, .int .i64 lb.nd.mx, .slice lb.A lb.nd.kids.length lb.c] 71)).drew.heap[wr.heap.size + 1]? = some (.cells #[.int .u8 lb.nd.kind, .int .u64 lb.nd.s0, .int .u64 lb.nd.s1, .int .u64 lb.nd.s2, .int .u64 lb.nd.s3, .string lb.nd.text, .int .i64 lb.nd.mn, .int .i64 lb.nd.mx, .slice lb.A lb.nd.kids.length lb.c] 71 (0, 0)) from (by have h := bx_new (wr.alloc (.cells #[.int .u8 lb.nd.kind, .int .u64 lb.nd.s0, .int .u64 lb.nd.s1, .int .u64 lb.nd.s2, .int .u64 lb.nd.s3, .string lb.nd.text, .int .i64 lb.nd.mn, .int .i64 lb.nd.mx, .slice la.A lb.nd.kids.length la.c] 71)) (.cells #[.int .u8 lb.nd.kind, .int .u64 lb.nd.s0, .int .u64 lb.nd.s1, .int .u64 lb.nd.s2, .int .u64 lb.nd.s3, .string lb.nd.text, .int .i64 lb.nd.mn, .int .i64 lb.nd.mx, .slice lb.A lb.nd.kids.length lb.c] 71); rw [World.size_alloc] at h; exact h))
        generalize ((wr.alloc (.cells #[.int .u8 lb.nd.kind, .int .u64 lb.nd.s0, .int .u64 lb.nd.s1, .int .u64 lb.nd.s2, .int .u64 lb.nd.s3, .string lb.nd.text, .int .i64 lb.nd.mn, .int .i64 lb.nd.mx, .slice la.A lb.nd.kids.length la.c] 71)).alloc (.cells #[.int .u8 lb.nd.kind, .int .u64 lb.nd.s0, .int .u64 lb.nd.s1, .int .u64 lb.nd.s2, .int .u64 lb.nd.s3, .string lb.nd.text, .int .i64 lb.nd.mn, .int .i64 lb.nd.mx, .slice lb.A lb.nd.kids.length lb.c] 71)).drew = W1 at *
        obtain ⟨z0, z1, z2, z3, z4, z5, z6, z7, z8, _⟩ := blk9 HXA.out
        obtain ⟨y0, y1, y2, y3, y4, y5, y6, y7, y8, _⟩ := blk9 HXB.out
        have hE := fun w => eqSet w lb.nd.s0 lb.nd.s1 lb.nd.s2 lb.nd.s3 lb.nd.s0 lb.nd.s1 lb.nd.s2 lb.nd.s3
        have HB1 := Lib.hid (Below.step HBW.out HWB.out)
        as_aux_lemma =>
          go_wp2_with fail
          clear z0 z1 z2 z3 z4 z5 z6 z7 z8 y0 y1 y2 y3 y4 y5 y6 y7 y8 hE
          go_loopw [8] (fun i wr => ∃ j : Nat, j ≤ lb.nd.kids.length ∧ i = .int .i64 j ∧ Hid (Below W1.heap.size W1 wr)) (fun i _ => lb.nd.kids.length - (intOf i).toNat)
          case atStart => exact ⟨0, Nat.zero_le _, rfl, Lib.hid (Below.refl _ _)⟩
          case round =>
            obtain ⟨j, hj, rfl, HB2⟩ := hrel
            obtain ⟨z0, z1, z2, z3, z4, z5, z6, z7, z8, _⟩ := blk9 (bx_kept HB2.out HXA.out)
            obtain ⟨y0, y1, y2, y3, y4, y5, y6, y7, y8, _⟩ := blk9 (bx_kept HB2.out HXB.out)
            clear z0 z1 z2 z3 z4 z5 z6 z7 y0 y1 y2 y3 y4 y5 y6 y7
            by_cases hjl : j < lb.nd.kids.length
            · have j1 : (j : Int) < (lb.nd.kids.length : Int) := by omega
              have j2 : (0 : Int) ≤ (j : Int) := by omega
              obtain ⟨cb, co, hcb, _, _, u0⟩ := intRow ((HSA2.out.below HWB.out).below HB2.out) j hjl
              obtain ⟨db, d0, hdb, _, _, v0⟩ := intRow ((HSB.out.below HWB.out).below HB2.out) j hjl
              rw [hcb] at z8
              rw [hdb] at y8
              generalize lb.nd.kids[j] = kv at *
              go_wp2_with fail
              go_quiet (fail)
              go_wp2_with fail
              exact ⟨⟨j + 1, by omega, by go_num, Lib.hid (HB2.out.trans (drewN_belowE (Below.refl _ _) _))⟩, by simp only [intOf]; omega⟩
            · have j1 : ¬ (j : Int) < (lb.nd.kids.length : Int) := by omega
              go_wp2_with fail
              exact ⟨⟨k + 1, by omega, by go_num, Lib.hid (Below.step HB1.out HB2.out)⟩, by simp only [intOf]; omega⟩
      · have HWB := Lib.hid (show Below wr.heap.size wr ((wr.alloc (.cells #[.int .u8 lb.nd.kind, .int .u64 lb.nd.s0, .int .u64 lb.nd.s1, .int .u64 lb.nd.s2, .int .u64 lb.nd.s3, .string lb.nd.text, .int .i64 lb.nd.mn, .int .i64 lb.nd.mx, .slice lb.A lb.nd.kids.length lb.c] 71)).alloc (.cells #[.int .u8 lb.nd.kind, .int .u64 lb.nd.s0, .int .u64 lb.nd.s1, .int .u64 lb.nd.s2, .int .u64 lb.nd.s3, .string lb.nd.text, .int .i64 lb.nd.mn, .int .i64 lb.nd.mx, .slice la.A lb.nd.kids.length la.c] 71)).drew from (bx2 wr _ _).drew)
        have HXA := Lib.hid (show ((wr.alloc (.cells #[.int .u8 lb.nd.kind, .int .u64 lb.nd.s0, .int .u64 lb.nd.s1, .int .u64 lb.nd.s2, .int .u64 lb.nd.s3, .string lb.nd.text, .int .i64 lb.nd.mn, .int .i64 lb.nd.mx, .slice lb.A lb.nd.kids.length lb.c] 71)).alloc (.cells #[.int .u8 lb.nd.kind, .int .u64 lb.nd.s0, .int .u64 lb.nd.s1, .int .u64 lb.nd.s2, .int .u64 lb.nd.s3, .string lb.nd.text, .int .i64 lb.nd.mn, .int .i64 lb.nd.mx, .slice la.A lb.nd.kids.length la.c] 71)).drew.heap[wr.heap.size + 1]? = some (.cells #[.int .u8 lb.nd.kind, .int .u64 lb.nd.s0, .int .u64 lb.nd.s1, .int .u64 lb.nd.s2, .int .u64 lb.nd.s3, .string lb.nd.text, .int .i64 lb.nd.mn, .int .i64 lb.nd.mx, .slice la.A lb.nd.kids.length la.c] 71 (0, 0)) from (by have h := bx_new (wr.alloc (.cells #[.int .u8 lb.nd.kind, .int .u64 lb.nd.s0, .int .u64 lb.nd.s1, .int .u64 lb.nd.s2, .int .u64 lb.nd.s3, .string lb.nd.text, .int .i64 lb.nd.mn, .int .i64 lb.nd.mx, .slice lb.A lb.nd.kids.length lb.c] 71)) (.cells #[.int .u8 lb.nd.kind, .int .u64 lb.nd.s0, .int .u64 lb.nd.s1, .int .u64 lb.nd.s2, .int .u64 lb.nd.s3, .string lb.nd.text, .int .i64 lb.nd.mn, .int .i64 lb.nd.mx, .slice la.A lb.nd.kids.length la.c] 71); rw [World.size_alloc] at h; exact h))
        have HXB := Lib.hid (show ((wr.alloc (.cells #[.int .u8 lb.nd.kind, .int .u64 lb.nd.s0, .int .u64 lb.nd.s1, .int .u64 lb.nd.s2, .int .u64 lb.nd.s3, .string lb.nd.text, .int .i64 lb.nd.mn, .int .i64 lb.nd.mx, .slice lb.A lb.nd.kids.length lb.c] 71)).alloc (.cells #[.int .u8 lb.nd.kind, .int .u64 lb.nd.s0, .int .u64 lb.nd.s1, .int .u64 lb.nd.s2, .int .u64 lb.nd.s3, .string lb.nd.text, .int .i64 lb.nd.mn, .int .i64 lb.nd.mx, .slice la.A lb.nd.kids.length la.c] 71)).drew.heap[wr.heap.size]? = some (.cells #[.int .u8 lb.nd.kind, .int .u64 lb.nd.s0, .int .u64 lb.nd.s1, .int .u64 lb.nd.s2, .int .u64 lb.nd.s3, .string lb.nd.text, .int .i64 lb.nd.mn, .int .i64 lb.nd.mx, .slice lb.A lb.nd.kids.length lb.c] 71 (0, 0)) from bx_old (bx_new wr _))
        generalize ((wr.alloc (.cells #[.int .u8 lb.nd.kind, .int .u64 lb.nd.s0, .int .u64 lb.nd.s1, .int .u64 lb.nd.s2, .int .u64 lb.nd.s3, .string lb.nd.text, .int .i64 lb.nd.mn, .int .i64 lb.nd.mx, .slice lb.A lb.nd.kids.length lb.c] 71)).alloc (.cells #[.int .u8 lb.nd.kind, .int .u64 lb.nd.s0, .int .u64 lb.nd.s1, .int .u64 lb.nd.s2, .int .u64 lb.nd.s3, .string lb.nd.text, .int .i64 lb.nd.mn, .int .i64 lb.nd.mx, .slice la.A lb.nd.kids.length la.c] 71)).drew = W1 at *
        obtain ⟨z0, z1, z2, z3, z4, z5, z6, z7, z8, _⟩ := blk9 HXA.out
        obtain ⟨y0, y1, y2, y3, y4, y5, y6, y7, y8, _⟩ := blk9 HXB.out
        have hE := fun w => eqSet w lb.nd.s0 lb.nd.s1 lb.nd.s2 lb.nd.s3 lb.nd.s0 lb.nd.s1 lb.nd.s2 lb.nd.s3
        have HB1 := Lib.hid (Below.step HBW.out HWB.out)
        as_aux_lemma =>
          go_wp2_with fail
          clear z0 z1 z2 z3 z4 z5 z6 z7 z8 y0 y1 y2 y3 y4 y5 y6 y7 y8 hE
          go_loopw [8] (fun i wr => ∃ j : Nat, j ≤ lb.nd.kids.length ∧ i = .int .i64 j ∧ Hid (Below W1.heap.size W1 wr)) (fun i _ => lb.nd.kids.length - (intOf i).toNat)
          case atStart => exact ⟨0, Nat.zero_le _, rfl, Lib.hid (Below.refl _ _)⟩
          case round =>
            obtain ⟨j, hj, rfl, HB2⟩ := hrel
            obtain ⟨z0, z1, z2, z3, z4, z5, z6, z7, z8, _⟩ := blk9 (bx_kept HB2.out HXA.out)
            obtain ⟨y0, y1, y2, y3, y4, y5, y6, y7, y8, _⟩ := blk9 (bx_kept HB2.out HXB.out)
            clear z0 z1 z2 z3 z4 z5 z6 z7 y0 y1 y2 y3 y4 y5 y6 y7
            by_cases hjl : j < lb.nd.kids.length
            · have j1 : (j : Int) < (lb.nd.kids.length : Int) := by omega
              have j2 : (0 : Int) ≤ (j : Int) := by omega
              obtain ⟨cb, co, hcb, _, _, u0⟩ := intRow ((HSA2.out.below HWB.out).below HB2.out) j hjl
              obtain ⟨db, d0, hdb, _, _, v0⟩ := intRow ((HSB.out.below HWB.out).below HB2.out) j hjl
              rw [hcb] at z8
              rw [hdb] at y8
              generalize lb.nd.kids[j] = kv at *
              go_wp2_with fail
              go_quiet (fail)
              go_wp2_with fail
              exact ⟨⟨j + 1, by omega, by go_num, Lib.hid (HB2.out.trans (drewN_belowE (Below.refl _ _) _))⟩, by simp only [intOf]; omega⟩
            · have j1 : ¬ (j : Int) < (lb.nd.kids.length : Int) := by omega
              go_wp2_with fail
              exact ⟨⟨k + 1, by omega, by go_num, Lib.hid (Below.step HB1.out HB2.out)⟩, by simp only [intOf]; omega⟩
    · go_wp2_with fail
      go_ret
      exact ⟨rfl, hbw⟩
end Go.Proofs.YtmjkgnknfgoadaaGreatDoor
namespace Go.Proofs.YtmjkgnknfgoadaaGreatDoor
open Go.RowKit
set_option linter.unusedSimpArgs false
set_option linter.unusedVariables false
set_option maxRecDepth 100000 in
set_option maxHeartbeats 12800000 in
theorem exact9_any (A B : Option Addr) (c d : Nat) (ls ms : List Ld) (S T : Nat → Prop) (w : World) (hA : dfL.row w S A ls) (hB : dfL.row w T B ms) (he : ls.map Ld.df = ms.map Ld.df) (hl : ls.length ≤ 281474976710656) :
    Calls Tryz.prog 32 #[.agg #[.slice A ls.length c], .agg #[.slice B ms.length d]] w fun e w' => e = .returned (.bool true) ∧ Below w.heap.size w w' := by
  have hlen : ms.length = ls.length := by have := congrArg List.length he; simpa using this.symm
  have HA := Lib.hid hA; have HB := Lib.hid hB; have HE := Lib.hid he
  clear hA hB he
  have HK := Lib.hid (show ∀ w', Below ((w.alloc (.cells #[.slice A ls.length c] 24)).alloc (.cells #[.slice B ls.length d] 24)).heap.size ((w.alloc (.cells #[.slice A ls.length c] 24)).alloc (.cells #[.slice B ls.length d] 24)) w' → (w'.heap[w.heap.size]? = some (.cells #[.slice A ls.length c] 24 (0, 0)) ∧ w'.heap[w.heap.size + 1]? = some (.cells #[.slice B ls.length d] 24 (0, 0))) ∧ Below w.heap.size w w' from fun w' hb => ⟨bx2_kept hb, Below.step (bx2 w _ _) hb⟩)
  rw [hlen]
  go_enter Tryz.func32, Tryz.ntmps32
  go_wp2_with fail
  generalize ((w.alloc (.cells #[.slice A ls.length c] 24)).alloc (.cells #[.slice B ls.length d] 24)) = W0 at *
  go_loopw [5] (fun i wr => ∃ k : Nat, k ≤ ls.length ∧ i = .int .i64 k ∧ Hid (Below W0.heap.size W0 wr)) (fun i _ => ls.length - (intOf i).toNat)
  case atStart => exact ⟨0, Nat.zero_le _, rfl, Lib.hid (Below.refl _ _)⟩
  case round =>
    obtain ⟨k, hk, rfl, HBW⟩ := hrel
    obtain ⟨⟨ha, hb⟩, hbw⟩ := HK.out wr HBW.out
    obtain ⟨p1, _⟩ := blk1 ha
    obtain ⟨q1, _⟩ := blk1 hb
    by_cases hlt : k < ls.length
    · have i1 : (k : Int) < (ls.length : Int) := by omega
      have i2 : (0 : Int) ≤ (k : Int) := by omega
      obtain ⟨ab, ao, rfl, _, hal, x0, x1, x2⟩ := dfRow (HA.out.below hbw) k hlt
      obtain ⟨bb, bo, rfl, _, hbl, y0, y1, y2⟩ := dfRow (HB.out.below hbw) k (by omega)
      have HND := Lib.hid (show ls[k].df = (ms[k]'(by omega)).df from by
        have h1 := congrArg (·[k]?) HE.out
        simp only [List.getElem?_map] at h1
        rw [List.getElem?_eq_getElem hlt, List.getElem?_eq_getElem (show k < ms.length by omega)] at h1
        simpa using h1)
      have HSA := Lib.hid (dfSub (HA.out.below hbw) k hlt)
      have HSB := Lib.hid (dfSub (HB.out.below hbw) k (by omega))
      generalize ls[k] = la at *
      generalize ms[k]'(by omega) = lb at *
      obtain ⟨an, ⟨aA, ac, al, ar⟩⟩ := la
      obtain ⟨bn, ⟨bB, bc, bl, br⟩⟩ := lb
      obtain ⟨rfl, hnl, rfl⟩ : an = bn ∧ al.map Ln.nd = bl.map Ln.nd ∧ ar = br := by
        have h := HND.out
        simp only [Ld.df, Lt.tr, Df.mk.injEq, Tr.mk.injEq] at h
        exact ⟨h.1, h.2.1, h.2.2⟩
      simp only at x0 x1 x2 y0 y1 y2
      have HNL := Lib.hid hnl; clear hnl HND
      have HSA2 := Lib.hid (show al.length ≤ 281474976710656 ∧ ndL.row wr S aA al from HSA.out)
      have HSB2 := Lib.hid (show bl.length ≤ 281474976710656 ∧ ndL.row wr T bB bl from HSB.out)
      have HST := Lib.hid (show ∀ w', Below wr.heap.size wr w' → (w'.cell? ⟨w.heap.size, 0, none⟩ = some (.slice (some ⟨ab, ao, none⟩) ls.length c) ∧ w'.cell? ⟨w.heap.size + 1, 0, none⟩ = some (.slice (some ⟨bb, bo, none⟩) ls.length d)) ∧ (w'.cell? ⟨ab, ao + k * 3, none⟩ = some (.string an) ∧ w'.cell? ⟨ab, ao + k * 3 + 1, none⟩ = some (.slice aA al.length ac) ∧ w'.cell? ⟨ab, ao + k * 3 + 2, none⟩ = some (.int .i64 ar)) ∧ w'.cell? ⟨bb, bo + k * 3, none⟩ = some (.string an) ∧ w'.cell? ⟨bb, bo + k * 3 + 1, none⟩ = some (.slice bB bl.length bc) ∧ w'.cell? ⟨bb, bo + k * 3 + 2, none⟩ = some (.int .i64 ar) from fun w' hb =>
        ⟨⟨(hb.cell (cellLt p1)).trans p1, (hb.cell (cellLt q1)).trans q1⟩, ⟨(hb.cell (cellLt x0)).trans x0, (hb.cell (cellLt x1)).trans x1, (hb.cell (cellLt x2)).trans x2⟩, (hb.cell (cellLt y0)).trans y0, (hb.cell (cellLt y1)).trans y1, (hb.cell (cellLt y2)).trans y2⟩)
      go_upto_region 6 with (fail)
      clear x0 x1 x2 y0 y1 y2 p1 q1 ha hb
      as_aux_lemma =>
        go_region_held3 (fun w' => (w'.cell? ⟨w.heap.size, 0, none⟩ = some (.slice (some ⟨ab, ao, none⟩) ls.length c) ∧ w'.cell? ⟨w.heap.size + 1, 0, none⟩ = some (.slice (some ⟨bb, bo, none⟩) ls.length d)) ∧ (w'.cell? ⟨ab, ao + k * 3, none⟩ = some (.string an) ∧ w'.cell? ⟨ab, ao + k * 3 + 1, none⟩ = some (.slice aA al.length ac) ∧ w'.cell? ⟨ab, ao + k * 3 + 2, none⟩ = some (.int .i64 ar)) ∧ w'.cell? ⟨bb, bo + k * 3, none⟩ = some (.string an) ∧ w'.cell? ⟨bb, bo + k * 3 + 1, none⟩ = some (.slice bB bl.length bc) ∧ w'.cell? ⟨bb, bo + k * 3 + 2, none⟩ = some (.int .i64 ar))
          (first | exact HST.out _ (Below.refl _ _).drew | exact HST.out _ HB3.out)
          (((go_at_call 43; (with_reducible refine (exact4_any aA bB ac bc al bl ar S T _ (HSA2.out.2.agree (drew_agree _ _)) (HSB2.out.2.agree (drew_agree _ _)) HNL.out HSA2.out.1).mono ?_)); rintro e w3 ⟨rfl, hb3⟩; have HB3 := Lib.hid (show Below wr.heap.size wr w3 from (Below.refl _ wr).drew.trans hb3); clear hb3))
        go_wp2_with fail
        exact ⟨⟨k + 1, by omega, by go_num, Lib.hid (Below.step HBW.out HB3.out)⟩, by simp only [intOf]; omega⟩
    · go_wp2_with fail
      go_ret
      exact ⟨rfl, hbw⟩
end Go.Proofs.YtmjkgnknfgoadaaGreatDoor
