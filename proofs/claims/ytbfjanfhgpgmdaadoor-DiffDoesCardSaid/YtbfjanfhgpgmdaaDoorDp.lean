/- The contract of tree.Same. -/
import Derived.Test.YtbfjanfhgpgmdaaDoorDo
namespace Go.Proofs.YtbfjanfhgpgmdaaDoor
open Go.RowKit
set_option linter.unusedSimpArgs false
set_option linter.unusedVariables false

set_option maxRecDepth 100000 in
theorem field_nodes (w : World) (A : Option Addr) (n c : Nat) (r : Int) : (Instr.field 34 (.agg #[.slice A n c, .int .i64 r]) 0).run Tryd.prog w = .ok (.slice A n c) w := by
  kernel_rfl
attribute [local go_sem] field_nodes
theorem TreePost.out {t : Tr} {w w' : World} {e : Ending} (h : TreePost t w e w') : ∃ (A : Option Addr) (c : Nat) (ls : List Ln) (r : Int), e = .returned (.agg #[.slice A ls.length c, .int .i64 r]) ∧ Lt.tr ⟨A, c, ls, r⟩ = t ∧ TreeOwn w' (w.heap.size ≤ ·) ⟨A, c, ls, r⟩ ∧ Below w.heap.size w w' := by
  obtain ⟨⟨A, c, ls, r⟩, h1, h2, h3, h4⟩ := h
  exact ⟨A, c, ls, r, h1, h2, h3, h4⟩
theorem sameT_no_left {a b : Tr} (h : rightT a = false) : sameT a b = false := by simp [sameT, h]
theorem sameT_no_right {a b : Tr} (h : rightT b = false) : sameT a b = false := by simp [sameT, h]
theorem sameT_yes {a b : Tr} (h : rightT a = true) (k : rightT b = true) : sameT a b = decide (takenL a.nodes a.root.toNat = takenL b.nodes b.root.toNat) := by simp [sameT, h, k]
theorem bx2_kept {w w' : World} {o p : Obj} (hb : Below ((w.alloc o).alloc p).heap.size ((w.alloc o).alloc p) w') : w'.heap[w.heap.size]? = some o ∧ w'.heap[w.heap.size + 1]? = some p :=
  ⟨bx_kept hb (bx_old (bx_new w o)), bx_kept hb (by have := bx_new (w.alloc o) p; simpa using this)⟩
theorem Below.step {w W w' : World} (h : Below w.heap.size w W) (hb : Below W.heap.size W w') : Below w.heap.size w w' := h.trans (hb.mono h.size)

set_option maxRecDepth 100000 in
set_option maxHeartbeats 3200000 in
theorem tsame_any (A B : Option Addr) (c d : Nat) (ls ms : List Ln) (ra rb : Int) (S T : Nat → Prop) (w : World) (hA : ndL.row w S A ls) (hB : ndL.row w T B ms) (hl : ls.length ≤ 4294967296) (hm : ms.length ≤ 4294967296) (ht : CntTab w) :
    Calls Tryd.prog 39 #[.agg #[.slice A ls.length c, .int .i64 ra], .agg #[.slice B ms.length d, .int .i64 rb]] w fun e w' => e = .returned (.bool (sameT ⟨ls.map Ln.nd, ra⟩ ⟨ms.map Ln.nd, rb⟩)) ∧ Below w.heap.size w w' := by
  have HTA := Lib.hid hA; have HTB := Lib.hid hB; clear hA hB
  have HC := Lib.hid ht; clear ht
  by_cases hlm : ls.length = ms.length
  · have e1 : ((ls.length : Int) != (ms.length : Int)) = false := by simp [hlm]
    have HLM := Lib.hid hlm; clear hlm
    cases hra : rightT ⟨ls.map Ln.nd, ra⟩
    · have HX := Lib.hid (sameT_no_left (b := ⟨ms.map Ln.nd, rb⟩) hra)
      go_enter Tryd.func39, Tryd.ntmps39
      go_wp2_with (go_at_call 25; refine (right_any A c ls ra S _ (HTA.out.below (bx2 w _ _)) (by omega) (HC.out.below (bx2 w _ _))).mono ?_; rintro e w1 ⟨rfl, hb1⟩)
      go_ret
      exact ⟨ret_bool HX.out.symm, Below.step (bx2 w _ _) hb1⟩
    · cases hrb : rightT ⟨ms.map Ln.nd, rb⟩
      · have HX := Lib.hid (sameT_no_right (a := ⟨ls.map Ln.nd, ra⟩) hrb)
        go_enter Tryd.func39, Tryd.ntmps39
        go_wp2_with fail
        refine (right_any A c ls ra S _ (HTA.out.below (bx2 w _ _)) (by omega) (HC.out.below (bx2 w _ _))).mono ?_
        rintro e w1 ⟨rfl, hb1⟩
        have HB1 := Lib.hid hb1
        obtain ⟨k1, k2⟩ := bx2_kept hb1
        obtain ⟨q1, q2, _, _⟩ := blk2 k1
        obtain ⟨q3, q4, _, _⟩ := blk2 k2
        have HBB := Lib.hid (Below.step (bx2 w _ _) hb1)
        clear hb1 k1 k2
        go_wp2_with fail
        refine (right_any B d ms rb T _ (HTB.out.below HBB.out) (by omega) (HC.out.below HBB.out)).mono ?_
        rintro e w2 ⟨rfl, hb2⟩
        go_wp2_with fail
        go_ret
        exact ⟨ret_bool HX.out.symm, Below.step HBB.out hb2⟩
      · have HX := Lib.hid (sameT_yes hra hrb)
        have HPA := Lib.hid ((rightT_iff _).1 hra); have HPB := Lib.hid ((rightT_iff _).1 hrb)
        have hr1 := HPA.out.1; have hr2 := HPB.out.1
        simp only [List.length_map] at hr1 hr2
        obtain ⟨na, rfl⟩ := Int.eq_ofNat_of_zero_le hr1.1
        obtain ⟨nb, rfl⟩ := Int.eq_ofNat_of_zero_le hr2.1
        have hna : na < ls.length := by omega
        have hnb : nb < ms.length := by omega
        clear hr1 hr2
        go_enter Tryd.func39, Tryd.ntmps39
        go_wp2_with fail
        refine (right_any A c ls na S _ (HTA.out.below (bx2 w _ _)) (by omega) (HC.out.below (bx2 w _ _))).mono ?_
        rintro e w1 ⟨rfl, hb1⟩
        obtain ⟨k1, k2⟩ := bx2_kept hb1
        obtain ⟨q1, q2, _, _⟩ := blk2 k1
        obtain ⟨q3, q4, _, _⟩ := blk2 k2
        have HBB := Lib.hid (Below.step (bx2 w _ _) hb1)
        have HK1 := Lib.hid k1; have HK2 := Lib.hid k2
        clear hb1 k1 k2
        go_wp2_with fail
        clear q1 q2 q3 q4
        refine (right_any B d ms nb T _ (HTB.out.below HBB.out) (by omega) (HC.out.below HBB.out)).mono ?_
        rintro e w2 ⟨rfl, hb2⟩
        have HB2 := Lib.hid (Below.step HBB.out hb2)
        have HK3 := Lib.hid (bx_kept hb2 HK1.out); have HK4 := Lib.hid (bx_kept hb2 HK2.out)
        clear hb2 HK1 HK2 HBB
        go_wp2_with fail
        have HSZ := Lib.hid (show w.heap.size + 1 < w2.heap.size from heap_lt' HK4.out)
        have HSB := Lib.hid (show ∀ w', Below w2.heap.size w2 w' → (w'.cell? ⟨w.heap.size, 0, none⟩ = some (.slice A ls.length c) ∧ w'.cell? ⟨w.heap.size, 1, none⟩ = some (.int .i64 (na : Int))) ∧ w'.cell? ⟨w.heap.size + 1, 0, none⟩ = some (.slice B ms.length d) ∧ w'.cell? ⟨w.heap.size + 1, 1, none⟩ = some (.int .i64 (nb : Int)) from fun w' hb => by
          obtain ⟨p1, p2, _, _⟩ := blk2 (bx_kept hb HK3.out)
          obtain ⟨p3, p4, _, _⟩ := blk2 (bx_kept hb HK4.out)
          exact ⟨⟨p1, p2⟩, p3, p4⟩)
        go_region_held3 (fun w' => (w'.cell? ⟨w.heap.size, 0, none⟩ = some (.slice A ls.length c) ∧ w'.cell? ⟨w.heap.size, 1, none⟩ = some (.int .i64 (na : Int))) ∧ w'.cell? ⟨w.heap.size + 1, 0, none⟩ = some (.slice B ms.length d) ∧ w'.cell? ⟨w.heap.size + 1, 1, none⟩ = some (.int .i64 (nb : Int)))
          (first | exact HSB.out _ (Below.refl _ _).drew | exact HSB.out _ HB3.out | exact HSB.out _ HB4.out | exact HSB.out _ HB5.out)
          (first
            | ((go_at_call 64; (with_reducible refine (taken_any A c ls na na S _ (HTA.out.below (Below.drew HB2.out)) hl HPA.out hna).mono ?_)); intro e w3 h3; obtain ⟨A1, c1, l1, r1, rfl, hva, hoa, hba⟩ := TreePost.out h3; clear h3; have HVA := Lib.hid (And.intro hva hoa); have HB3 := Lib.hid (show Below w2.heap.size w2 w3 from (Below.refl _ w2).drew.trans hba); clear hva hoa hba)
            | ((go_at_call 64; (with_reducible refine (taken_any B d ms nb nb T _ (HTB.out.below (Below.step HB2.out HB3.out)) hm HPB.out hnb).mono ?_)); intro e w4 h4; obtain ⟨A2, c2, l2, r2, rfl, hvb, hob, hbb⟩ := TreePost.out h4; clear h4; have HVB := Lib.hid (And.intro hvb hob); have HVA' := Lib.hid (HVA.out.2.below hbb); have HB4 := Lib.hid (show Below w2.heap.size w2 w4 from Below.step HB3.out hbb); clear hvb hob hbb)
            | ((go_at_call 63; (have c67 := eqnodes_any l1 l2 A1 A2 c1 c2 _ _ _ HVA'.out.inn.2 HVB.out.2.inn.2 HVA'.out.len HVB.out.2.len); go_loud (refine c67.mono ?_)); rintro e w5 ⟨rfl, hb5⟩; have HB5 := Lib.hid (show Below w2.heap.size w2 w5 from Below.step HB4.out hb5); clear hb5))
        go_wp2_with fail
        go_ret
        refine ⟨ret_bool ?_, Below.step HB2.out HB5.out⟩
        rw [HX.out]
        have e1 := congrArg Tr.nodes HVA.out.1; have e2 := congrArg Tr.nodes HVB.out.1
        simp only [Lt.tr, takenT] at e1 e2
        rw [e1, e2]; rfl
  · have e1 : ((ls.length : Int) != (ms.length : Int)) = true := by simp; omega
    have HX := Lib.hid (show sameT ⟨ls.map Ln.nd, ra⟩ ⟨ms.map Ln.nd, rb⟩ = false by
      cases h : sameT ⟨ls.map Ln.nd, ra⟩ ⟨ms.map Ln.nd, rb⟩
      · rfl
      · have := sameT_length h; simp at this; exact absurd this hlm)
    clear hlm
    go_enter Tryd.func39, Tryd.ntmps39
    go_wp2_with fail
    go_ret
    exact ⟨ret_bool HX.out.symm, bx2 w _ _⟩
end Go.Proofs.YtbfjanfhgpgmdaaDoor
