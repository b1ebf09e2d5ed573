/- The contracts of bonsairef09.Exact and of the law's exact: what reads alike is found the same. -/
import Derived.Test.YtbfjanfhgpgmdaaDoorEg
namespace Go.Proofs.YtbfjanfhgpgmdaaDoor
open Go.RowKit
set_option linter.unusedSimpArgs false
set_option linter.unusedVariables false

set_option maxRecDepth 100000 in
set_option maxHeartbeats 12800000 in
theorem exact9_any (A B : Option Addr) (c d : Nat) (ls ms : List Ld) (S T : Nat → Prop) (w : World) (hA : dfL.row w S A ls) (hB : dfL.row w T B ms) (he : ls.map Ld.df = ms.map Ld.df) (hl : ls.length ≤ 281474976710656) :
    Calls Tryd.prog 20 #[.agg #[.slice A ls.length c], .agg #[.slice B ms.length d]] w fun e w' => e = .returned (.bool true) ∧ Below w.heap.size w w' := by
  have hlen : ms.length = ls.length := by have := congrArg List.length he; simpa using this.symm
  have HA := Lib.hid hA; have HB := Lib.hid hB; have HE := Lib.hid he
  clear hA hB he
  have HK := Lib.hid (show ∀ w', Below ((w.alloc (.cells #[.slice A ls.length c] 24)).alloc (.cells #[.slice B ls.length d] 24)).heap.size ((w.alloc (.cells #[.slice A ls.length c] 24)).alloc (.cells #[.slice B ls.length d] 24)) w' → (w'.heap[w.heap.size]? = some (.cells #[.slice A ls.length c] 24 (0, 0)) ∧ w'.heap[w.heap.size + 1]? = some (.cells #[.slice B ls.length d] 24 (0, 0))) ∧ Below w.heap.size w w' from fun w' hb => ⟨bx2_kept hb, Below.step (bx2 w _ _) hb⟩)
  rw [hlen]
  go_enter Tryd.func20, Tryd.ntmps20
  go_wp2_with fail
  generalize ((w.alloc (.cells #[.slice A ls.length c] 24)).alloc (.cells #[.slice B ls.length d] 24)) = W0 at *
  go_loopw [5] (fun i wr => ∃ k : Nat, k ≤ ls.length ∧ i = .int .i64 k ∧ Hid (Below W0.heap.size W0 wr)) (fun i _ => ls.length - (intOf i).toNat)
  case atStart => exact ⟨0, Nat.zero_le _, rfl, Lib.hid (Below.refl _ _)⟩
  case round =>
    obtain ⟨k, hk, rfl, HBW⟩ := hrel
    obtain ⟨⟨ha, hb⟩, hbw⟩ := HK.out wr HBW.out
    obtain ⟨p1, _⟩ := blk1 ha
    obtain ⟨q1, _⟩ := blk1 hb
    by_cases hlt : k < ls.length
    · have i1 : (k : Int) < (ls.length : Int) := by omega
      have i2 : (0 : Int) ≤ (k : Int) := by omega
      obtain ⟨ab, ao, rfl, _, hal, x0, x1, x2⟩ := dfRow (HA.out.below hbw) k hlt
      obtain ⟨bb, bo, rfl, _, hbl, y0, y1, y2⟩ := dfRow (HB.out.below hbw) k (by omega)
      have HND := Lib.hid (show ls[k].df = (ms[k]'(by omega)).df from by
        have h1 := congrArg (·[k]?) HE.out
        simp only [List.getElem?_map] at h1
        rw [List.getElem?_eq_getElem hlt, List.getElem?_eq_getElem (show k < ms.length by omega)] at h1
        simpa using h1)
      have HSA := Lib.hid (dfSub (HA.out.below hbw) k hlt)
      have HSB := Lib.hid (dfSub (HB.out.below hbw) k (by omega))
      generalize ls[k] = la at *
      generalize ms[k]'(by omega) = lb at *
      obtain ⟨an, ⟨aA, ac, al, ar⟩⟩ := la
      obtain ⟨bn, ⟨bB, bc, bl, br⟩⟩ := lb
      obtain ⟨rfl, hnl, rfl⟩ : an = bn ∧ al.map Ln.nd = bl.map Ln.nd ∧ ar = br := by
        have h := HND.out
        simp only [Ld.df, Lt.tr, Df.mk.injEq, Tr.mk.injEq] at h
        exact ⟨h.1, h.2.1, h.2.2⟩
      simp only at x0 x1 x2 y0 y1 y2
      have HNL := Lib.hid hnl; clear hnl HND
      have HSA2 := Lib.hid (show al.length ≤ 281474976710656 ∧ ndL.row wr S aA al from HSA.out)
      have HSB2 := Lib.hid (show bl.length ≤ 281474976710656 ∧ ndL.row wr T bB bl from HSB.out)
      have HST := Lib.hid (show ∀ w', Below wr.heap.size wr w' → (w'.cell? ⟨w.heap.size, 0, none⟩ = some (.slice (some ⟨ab, ao, none⟩) ls.length c) ∧ w'.cell? ⟨w.heap.size + 1, 0, none⟩ = some (.slice (some ⟨bb, bo, none⟩) ls.length d)) ∧ (w'.cell? ⟨ab, ao + k * 3, none⟩ = some (.string an) ∧ w'.cell? ⟨ab, ao + k * 3 + 1, none⟩ = some (.slice aA al.length ac) ∧ w'.cell? ⟨ab, ao + k * 3 + 2, none⟩ = some (.int .i64 ar)) ∧ w'.cell? ⟨bb, bo + k * 3, none⟩ = some (.string an) ∧ w'.cell? ⟨bb, bo + k * 3 + 1, none⟩ = some (.slice bB bl.length bc) ∧ w'.cell? ⟨bb, bo + k * 3 + 2, none⟩ = some (.int .i64 ar) from fun w' hb =>
        ⟨⟨(hb.cell (cellLt p1)).trans p1, (hb.cell (cellLt q1)).trans q1⟩, ⟨(hb.cell (cellLt x0)).trans x0, (hb.cell (cellLt x1)).trans x1, (hb.cell (cellLt x2)).trans x2⟩, (hb.cell (cellLt y0)).trans y0, (hb.cell (cellLt y1)).trans y1, (hb.cell (cellLt y2)).trans y2⟩)
      go_upto_region 6 with (fail)
      clear x0 x1 x2 y0 y1 y2 p1 q1 ha hb
      as_aux_lemma =>
        go_region_held3 (fun w' => (w'.cell? ⟨w.heap.size, 0, none⟩ = some (.slice (some ⟨ab, ao, none⟩) ls.length c) ∧ w'.cell? ⟨w.heap.size + 1, 0, none⟩ = some (.slice (some ⟨bb, bo, none⟩) ls.length d)) ∧ (w'.cell? ⟨ab, ao + k * 3, none⟩ = some (.string an) ∧ w'.cell? ⟨ab, ao + k * 3 + 1, none⟩ = some (.slice aA al.length ac) ∧ w'.cell? ⟨ab, ao + k * 3 + 2, none⟩ = some (.int .i64 ar)) ∧ w'.cell? ⟨bb, bo + k * 3, none⟩ = some (.string an) ∧ w'.cell? ⟨bb, bo + k * 3 + 1, none⟩ = some (.slice bB bl.length bc) ∧ w'.cell? ⟨bb, bo + k * 3 + 2, none⟩ = some (.int .i64 ar))
          (first | exact HST.out _ (Below.refl _ _).drew | exact HST.out _ HB3.out)
          (((go_at_call 33; (with_reducible refine (exact4_any aA bB ac bc al bl ar S T _ (HSA2.out.2.agree (drew_agree _ _)) (HSB2.out.2.agree (drew_agree _ _)) HNL.out HSA2.out.1).mono ?_)); rintro e w3 ⟨rfl, hb3⟩; have HB3 := Lib.hid (show Below wr.heap.size wr w3 from (Below.refl _ wr).drew.trans hb3); clear hb3))
        go_wp2_with fail
        exact ⟨⟨k + 1, by omega, by go_num, Lib.hid (Below.step HBW.out HB3.out)⟩, by simp only [intOf]; omega⟩
    · go_wp2_with fail
      go_ret
      exact ⟨rfl, hbw⟩

set_option maxRecDepth 100000 in
theorem exactL_any (A B : Option Addr) (c d : Nat) (ls ms : List Ld) (S T : Nat → Prop) (w : World) (hA : dfL.row w S A ls) (hB : dfL.row w T B ms) (he : ls.map Ld.df = ms.map Ld.df) (hl : ls.length ≤ 281474976710656) :
    Calls Tryd.prog 13 #[.agg #[.slice A ls.length c], .agg #[.slice B ms.length d]] w fun e w' => e = .returned (.bool true) ∧ Below w.heap.size w w' := by
  have HA := Lib.hid hA; have HB := Lib.hid hB
  go_enter Tryd.func13, Tryd.ntmps13
  go_wp2_with (go_at_call 20; refine (exact9_any A B c d ls ms S T _ (HA.out.below (bx2 w _ _)) (HB.out.below (bx2 w _ _)) he hl).mono ?_; rintro e w' ⟨rfl, hb⟩)
  go_ret
  exact ⟨rfl, Below.step (bx2 w _ _) hb⟩
end Go.Proofs.YtbfjanfhgpgmdaaDoor
