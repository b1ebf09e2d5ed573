/- The contracts of bonsairef30.May, Count and Same (the last one where both read alike). -/
import Derived.Test.YtbfjanfhgpgmdaaDoorEh
import Derived.Test.YtbfjanfhgpgmdaaDoorDv
import Derived.Deep.RegionHeld3
import Derived.Deep.Cut
namespace Go.Proofs.YtbfjanfhgpgmdaaDoor
open Go.RowKit
set_option linter.unusedSimpArgs false
set_option linter.unusedVariables false

set_option maxRecDepth 100000 in
set_option maxHeartbeats 1600000 in
theorem redmay_any (e : Le) (w : World) (hk : 0 ≤ e.kind ∧ e.kind ≤ 255) :
    Calls Tryd.prog 17 #[.agg #[.int .u8 e.kind, .string e.d.name, .slice e.d.t.A e.d.t.ls.length e.d.t.c, .int .i64 e.d.t.root]] w fun en w' => en = .returned (.bool (mayE e.ed)) ∧ Below w.heap.size w w' := by
  obtain ⟨k, ⟨n, ⟨A, c, ls, r⟩⟩⟩ := e
  simp only at hk ⊢
  by_cases h2 : k = 2
  · subst h2
    go_enter Tryd.func17, Tryd.ntmps17
    go_wp2_with fail
    go_ret
    exact ⟨ret_bool (by simp [mayE, Le.ed]), bx1 w _⟩
  · have e2 : (k == 2) = false := by simpa using h2
    by_cases h3 : k < 2
    · have h01 : k = 0 ∨ k = 1 := by omega
      rcases Nat.lt_or_ge 0 n.size with h0 | h0
      · have ⟨e3, e4⟩ := bytes_ne n h0
        have HX := Lib.hid (show mayE (Le.ed ⟨k, n, A, c, ls, r⟩) = false from (by
          have hn : ¬ n.size = 0 := by omega
          show (decide (k = 2) || decide ((k = 0 ∨ k = 1) ∧ n.size = 0 ∧ _)) = false
          rw [decide_eq_false h2, Bool.false_or]
          exact decide_eq_false (fun h => hn h.2.1)))
        clear h01 h2
        go_enter Tryd.func17, Tryd.ntmps17
        go_wp2_with fail
        go_ret
        exact ⟨ret_bool HX.out.symm, bx1 w _⟩
      · have ⟨e3, e4, e5⟩ := bytes_none n (by omega)
        have hn0 : n = ByteArray.empty := str_ext (by rw [e5]; rfl)
        have HX := Lib.hid (show mayE (Le.ed ⟨k, n, A, c, ls, r⟩) = (decide (ls.length = 0) && decide (r = 0)) by
          have : k = 0 ∨ k = 1 := h01
          rw [Bool.eq_iff_iff]
          simp [mayE, Le.ed, Ld.df, Lt.tr, h2, hn0]
          intro _ _; exact h01)
        clear e5 hn0 h01 h2
        by_cases hl : ls.length = 0
        · have e6 : ((ls.length : Int) == 0) = true := by simp [hl]
          by_cases hr : r = 0
          · have e7 : (r == 0) = true := by simp [hr]
            have HY := Lib.hid (HX.out.trans (show _ = true by rw [decide_eq_true hl, decide_eq_true hr]; rfl))
            clear hl hr
            go_enter Tryd.func17, Tryd.ntmps17
            go_wp2_with fail
            go_ret
            exact ⟨ret_bool HY.out.symm, bx1 w _⟩
          · have e7 : (r == 0) = false := by simpa using hr
            have HY := Lib.hid (HX.out.trans (show _ = false by rw [decide_eq_false hr, Bool.and_false]))
            clear hl hr
            go_enter Tryd.func17, Tryd.ntmps17
            go_wp2_with fail
            go_ret
            exact ⟨ret_bool HY.out.symm, bx1 w _⟩
        · have e6 : ((ls.length : Int) == 0) = false := by rw [beq_eq_false_iff_ne]; omega
          have HY := Lib.hid (HX.out.trans (show _ = false by rw [decide_eq_false hl, Bool.false_and]))
          clear hl
          go_enter Tryd.func17, Tryd.ntmps17
          go_wp2_with fail
          go_ret
          exact ⟨ret_bool HY.out.symm, bx1 w _⟩
    · have HX := Lib.hid (show mayE (Le.ed ⟨k, n, A, c, ls, r⟩) = false by simp [mayE, Le.ed, h2]; omega)
      clear h2
      go_enter Tryd.func17, Tryd.ntmps17
      go_wp2_with fail
      go_ret
      exact ⟨ret_bool HX.out.symm, bx1 w _⟩


set_option maxRecDepth 100000 in
set_option maxHeartbeats 1600000 in
theorem redcount_any (es : List Le) (A : Option Addr) (c : Nat) (kd : Int) (S : Nat → Prop) (w : World) (hA : edL.row w S A es) (hl : es.length ≤ 4294967296) :
    Calls Tryd.prog 23 #[.slice A es.length c, .int .u8 kd] w fun e w' => e = .returned (.int .i64 (countK kd (es.map Le.ed) : Nat)) ∧ w = w' := by
  have HA := Lib.hid hA; clear hA
  have HCB := Lib.hid (show ∀ l : List Ed, countK kd l ≤ l.length from fun l => List.countP_le_length)
  have HCS := Lib.hid (show ∀ (i : Nat) (hi : i < es.length), countK kd ((es.map Le.ed).take (i + 1)) = countK kd ((es.map Le.ed).take i) + if es[i].kind = kd then 1 else 0 from fun i hi => by
    rw [List.take_succ_eq_append_getElem (by simpa using hi)]
    simp [countK, List.countP_append, List.countP_cons, Le.ed])
  go_enter Tryd.func23, Tryd.ntmps23
  go_wp2_with fail
  go_loopw [6, 5] (fun i x wr => ∃ k : Nat, k ≤ es.length ∧ i = .int .i64 k ∧ x = .int .i64 (countK kd ((es.map Le.ed).take k) : Nat) ∧ wr = w) (fun i _ _ => es.length - (intOf i).toNat)
  case atStart => exact ⟨0, by omega, rfl, rfl, rfl⟩
  case round =>
    obtain ⟨k, hk, rfl, rfl, rfl⟩ := hrel
    have b0 := HCB.out ((es.map Le.ed).take k)
    simp only [List.length_take, List.length_map] at b0
    by_cases hlt : k < es.length
    · obtain ⟨b, o, rfl, _, _, x0, x1, x2, x3⟩ := edRow HA.out k hlt
      have i1 : (k : Int) < (es.length : Int) := by omega
      have i2 : (0 : Int) ≤ (k : Int) := by omega
      have HN := Lib.hid (HCS.out k hlt)
      generalize countK kd ((es.map Le.ed).take k) = n0 at *
      have hn : n0 ≤ 4294967296 := by omega
      generalize es[k].kind = kk at *
      by_cases h0 : kk = kd
      · subst h0
        go_wp2_with fail
        exact ⟨⟨k + 1, by omega, by go_num, by rw [HN.out, if_pos rfl]; go_num, by trivial⟩, by simp only [intOf]; omega⟩
      · have e0 : (kk == kd) = false := by simpa using h0
        go_wp2_with fail
        exact ⟨⟨k + 1, by omega, by go_num, by rw [HN.out, if_neg h0]; rfl, by trivial⟩, by simp only [intOf]; omega⟩
    · have HE := Lib.hid (show (es.map Le.ed).take k = es.map Le.ed from List.take_of_length_le (by simp; omega))
      go_wp2_with fail
      go_ret
      exact ⟨by rw [HE.out]; rfl, rfl⟩

set_option maxRecDepth 100000 in
set_option maxHeartbeats 12800000 in
theorem redsame_any (A B : Option Addr) (c d : Nat) (es fs : List Le) (S T : Nat → Prop) (w : World) (hA : edL.row w S A es) (hB : edL.row w T B fs) (he : es.map Le.ed = fs.map Le.ed) (hl : es.length ≤ 281474976710656) :
    Calls Tryd.prog 24 #[.slice A es.length c, .slice B fs.length d] w fun e w' => e = .returned (.bool true) ∧ Below w.heap.size w w' := by
  have hlen : fs.length = es.length := by have := congrArg List.length he; simpa using this.symm
  have HA := Lib.hid hA; have HB := Lib.hid hB; have HE := Lib.hid he
  clear hA hB he
  rw [hlen]
  go_enter Tryd.func24, Tryd.ntmps24
  go_wp2_with fail
  go_loopw [5] (fun i wr => ∃ k : Nat, k ≤ es.length ∧ i = .int .i64 k ∧ Hid (Below w.heap.size w wr)) (fun i _ => es.length - (intOf i).toNat)
  case atStart => exact ⟨0, Nat.zero_le _, rfl, Lib.hid (Below.refl _ _)⟩
  case round =>
    obtain ⟨k, hk, rfl, HBW⟩ := hrel
    by_cases hlt : k < es.length
    · have i1 : (k : Int) < (es.length : Int) := by omega
      have i2 : (0 : Int) ≤ (k : Int) := by omega
      obtain ⟨ab, ao, rfl, _, hal, x0, x1, x2, x3⟩ := edRow (HA.out.below HBW.out) k hlt
      obtain ⟨bb, bo, rfl, _, hbl, y0, y1, y2, y3⟩ := edRow (HB.out.below HBW.out) k (by omega)
      have HND := Lib.hid (show es[k].ed = (fs[k]'(by omega)).ed from by
        have h1 := congrArg (·[k]?) HE.out
        simp only [List.getElem?_map] at h1
        rw [List.getElem?_eq_getElem hlt, List.getElem?_eq_getElem (show k < fs.length by omega)] at h1
        simpa using h1)
      have HSA := Lib.hid (edSub (HA.out.below HBW.out) k hlt)
      have HSB := Lib.hid (edSub (HB.out.below HBW.out) k (by omega))
      generalize es[k] = la at *
      generalize fs[k]'(by omega) = lb at *
      obtain ⟨kd, ⟨an, ⟨aA, ac, al, ar⟩⟩⟩ := la
      obtain ⟨kd', ⟨bn, ⟨bA, bc, bl, br⟩⟩⟩ := lb
      obtain ⟨rfl, rfl, hnl, rfl⟩ : kd = kd' ∧ an = bn ∧ al.map Ln.nd = bl.map Ln.nd ∧ ar = br := by
        have h := HND.out
        simp only [Le.ed, Ld.df, Lt.tr, Ed.mk.injEq, Df.mk.injEq, Tr.mk.injEq] at h
        exact ⟨h.1, h.2.1, h.2.2.1, h.2.2.2⟩
      simp only at x0 x1 x2 x3 y0 y1 y2 y3
      have HNL := Lib.hid hnl; clear hnl HND
      have HSA2 := Lib.hid (show al.length ≤ 281474976710656 ∧ ndL.row wr S aA al from HSA.out)
      have HSB2 := Lib.hid (show bl.length ≤ 281474976710656 ∧ ndL.row wr T bA bl from HSB.out)
      have HST := Lib.hid (show ∀ w', Below wr.heap.size wr w' → (w'.cell? ⟨ab, ao + k * 4, none⟩ = some (.int .u8 kd) ∧ w'.cell? ⟨ab, ao + k * 4 + 1, none⟩ = some (.string an) ∧ w'.cell? ⟨ab, ao + k * 4 + 2, none⟩ = some (.slice aA al.length ac) ∧ w'.cell? ⟨ab, ao + k * 4 + 3, none⟩ = some (.int .i64 ar)) ∧ (w'.cell? ⟨bb, bo + k * 4, none⟩ = some (.int .u8 kd) ∧ w'.cell? ⟨bb, bo + k * 4 + 1, none⟩ = some (.string an) ∧ w'.cell? ⟨bb, bo + k * 4 + 2, none⟩ = some (.slice bA bl.length bc) ∧ w'.cell? ⟨bb, bo + k * 4 + 3, none⟩ = some (.int .i64 ar)) from fun w' hb =>
        ⟨⟨(hb.cell (cellLt x0)).trans x0, (hb.cell (cellLt x1)).trans x1, (hb.cell (cellLt x2)).trans x2, (hb.cell (cellLt x3)).trans x3⟩, (hb.cell (cellLt y0)).trans y0, (hb.cell (cellLt y1)).trans y1, (hb.cell (cellLt y2)).trans y2, (hb.cell (cellLt y3)).trans y3⟩)
      go_upto_region 6 with (fail)
      clear x0 x1 x2 x3 y0 y1 y2 y3
      as_aux_lemma =>
        go_region_held3 (fun w' => (w'.cell? ⟨ab, ao + k * 4, none⟩ = some (.int .u8 kd) ∧ w'.cell? ⟨ab, ao + k * 4 + 1, none⟩ = some (.string an) ∧ w'.cell? ⟨ab, ao + k * 4 + 2, none⟩ = some (.slice aA al.length ac) ∧ w'.cell? ⟨ab, ao + k * 4 + 3, none⟩ = some (.int .i64 ar)) ∧ (w'.cell? ⟨bb, bo + k * 4, none⟩ = some (.int .u8 kd) ∧ w'.cell? ⟨bb, bo + k * 4 + 1, none⟩ = some (.string an) ∧ w'.cell? ⟨bb, bo + k * 4 + 2, none⟩ = some (.slice bA bl.length bc) ∧ w'.cell? ⟨bb, bo + k * 4 + 3, none⟩ = some (.int .i64 ar)))
          (first | exact HST.out _ (Below.refl _ _).drew | exact HST.out _ HB3.out)
          (((go_at_call 33; (with_reducible refine (exact4_any aA bA ac bc al bl ar S T _ (HSA2.out.2.agree (drew_agree _ _)) (HSB2.out.2.agree (drew_agree _ _)) HNL.out HSA2.out.1).mono ?_)); rintro e w3 ⟨rfl, hb3⟩; have HB3 := Lib.hid (show Below wr.heap.size wr w3 from (Below.refl _ wr).drew.trans hb3); clear hb3))
        go_wp2_with fail
        exact ⟨⟨k + 1, by omega, by go_num, Lib.hid (Below.step HBW.out HB3.out)⟩, by simp only [intOf]; omega⟩
    · go_wp2_with fail
      go_ret
      exact ⟨rfl, HBW.out⟩
end Go.Proofs.YtbfjanfhgpgmdaaDoor
