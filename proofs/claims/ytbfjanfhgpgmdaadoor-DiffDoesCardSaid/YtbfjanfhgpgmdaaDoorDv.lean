/- The contracts of diff.May and diff.Count. -/
import Derived.Test.YtbfjanfhgpgmdaaDoorDt
namespace Go.Proofs.YtbfjanfhgpgmdaaDoor
open Go.RowKit
set_option linter.unusedSimpArgs false
set_option linter.unusedVariables false

def Le.ed (e : Le) : Ed := ⟨e.kind, e.d.df⟩
set_option maxRecDepth 100000 in
set_option maxHeartbeats 1600000 in
theorem emay_any (e : Le) (w : World) (hk : 0 ≤ e.kind ∧ e.kind ≤ 255) :
    Calls Tryd.prog 16 #[.agg #[.int .u8 e.kind, .string e.d.name, .slice e.d.t.A e.d.t.ls.length e.d.t.c, .int .i64 e.d.t.root]] w fun en w' => en = .returned (.bool (mayE e.ed)) ∧ Below w.heap.size w w' := by
  obtain ⟨k, ⟨n, ⟨A, c, ls, r⟩⟩⟩ := e
  simp only at hk ⊢
  by_cases h2 : k = 2
  · subst h2
    go_enter Tryd.func16, Tryd.ntmps16
    go_wp2_with fail
    go_ret
    exact ⟨ret_bool (by simp [mayE, Le.ed]), bx1 w _⟩
  · have e2 : (k == 2) = false := by simpa using h2
    by_cases h3 : k < 3
    · have h01 : k = 0 ∨ k = 1 := by omega
      rcases Nat.lt_or_ge 0 n.size with h0 | h0
      · have ⟨e3, e4⟩ := bytes_ne n h0
        have HX := Lib.hid (show mayE (Le.ed ⟨k, n, A, c, ls, r⟩) = false from (by
          have hn : ¬ n.size = 0 := by omega
          show (decide (k = 2) || decide ((k = 0 ∨ k = 1) ∧ n.size = 0 ∧ _)) = false
          rw [decide_eq_false h2, Bool.false_or]
          exact decide_eq_false (fun h => hn h.2.1)))
        clear h01 h2
        go_enter Tryd.func16, Tryd.ntmps16
        go_wp2_with fail
        go_ret
        exact ⟨ret_bool HX.out.symm, bx1 w _⟩
      · have ⟨e3, e4, e5⟩ := bytes_none n (by omega)
        have hn0 : n = ByteArray.empty := str_ext (by rw [e5]; rfl)
        have HX := Lib.hid (show mayE (Le.ed ⟨k, n, A, c, ls, r⟩) = (decide (ls.length = 0) && decide (r = 0)) by
          have : k = 0 ∨ k = 1 := h01
          rw [Bool.eq_iff_iff]
          simp [mayE, Le.ed, Ld.df, Lt.tr, h2, hn0]
          intro _ _; exact h01)
        clear e5 hn0 h01 h2
        by_cases hl : ls.length = 0
        · have e6 : ((ls.length : Int) == 0) = true := by simp [hl]
          by_cases hr : r = 0
          · have e7 : (r == 0) = true := by simp [hr]
            have HY := Lib.hid (HX.out.trans (show _ = true by rw [decide_eq_true hl, decide_eq_true hr]; rfl))
            clear hl hr
            go_enter Tryd.func16, Tryd.ntmps16
            go_wp2_with fail
            go_ret
            exact ⟨ret_bool HY.out.symm, bx1 w _⟩
          · have e7 : (r == 0) = false := by simpa using hr
            have HY := Lib.hid (HX.out.trans (show _ = false by rw [decide_eq_false hr, Bool.and_false]))
            clear hl hr
            go_enter Tryd.func16, Tryd.ntmps16
            go_wp2_with fail
            go_ret
            exact ⟨ret_bool HY.out.symm, bx1 w _⟩
        · have e6 : ((ls.length : Int) == 0) = false := by rw [beq_eq_false_iff_ne]; omega
          have HY := Lib.hid (HX.out.trans (show _ = false by rw [decide_eq_false hl, Bool.false_and]))
          clear hl
          go_enter Tryd.func16, Tryd.ntmps16
          go_wp2_with fail
          go_ret
          exact ⟨ret_bool HY.out.symm, bx1 w _⟩
    · have HX := Lib.hid (show mayE (Le.ed ⟨k, n, A, c, ls, r⟩) = false by simp [mayE, Le.ed, h2]; omega)
      clear h2
      go_enter Tryd.func16, Tryd.ntmps16
      go_wp2_with fail
      go_ret
      exact ⟨ret_bool HX.out.symm, bx1 w _⟩

set_option maxRecDepth 100000 in
set_option maxHeartbeats 1600000 in
theorem ecount_any (es : List Le) (A : Option Addr) (c : Nat) (S : Nat → Prop) (w : World) (hA : edL.row w S A es) (hl : es.length ≤ 4294967296) :
    Calls Tryd.prog 22 #[.slice A es.length c] w fun en w' => en = .returned (.tuple #[.int .i64 (countK 0 (es.map Le.ed) : Nat), .int .i64 (countK 1 (es.map Le.ed) : Nat), .int .i64 (countK 2 (es.map Le.ed) : Nat)]) ∧ Below w.heap.size w w' := by
  have HA := Lib.hid hA; clear hA
  have hcb : ∀ (k : Int) (l : List Ed), countK k l ≤ l.length := fun k l => List.countP_le_length
  have hcs : ∀ (k : Int) (i : Nat) (hi : i < es.length), countK k ((es.map Le.ed).take (i + 1)) = countK k ((es.map Le.ed).take i) + if es[i].kind = k then 1 else 0 := fun k i hi => by
    rw [List.take_succ_eq_append_getElem (by simpa using hi)]
    simp [countK, List.countP_append, List.countP_cons, Le.ed]
  have HCB := Lib.hid hcb; have HCS := Lib.hid hcs; clear hcb hcs
  go_enter Tryd.func22, Tryd.ntmps22
  go_wp2_with fail
  go_loopw [9, 2, 3, 4] (fun i x y z wr => ∃ k : Nat, k ≤ es.length ∧ i = .int .i64 k ∧ x = .int .i64 (countK 0 ((es.map Le.ed).take k) : Nat) ∧ y = .int .i64 (countK 1 ((es.map Le.ed).take k) : Nat) ∧ z = .int .i64 (countK 2 ((es.map Le.ed).take k) : Nat) ∧ Hid (Below w.heap.size w wr)) (fun i _ _ _ _ => es.length - (intOf i).toNat)
  case atStart => exact ⟨0, by omega, rfl, rfl, rfl, rfl, Lib.hid (Below.refl _ _)⟩
  case round =>
    obtain ⟨k, hk, rfl, rfl, rfl, rfl, HB⟩ := hrel
    have b0 := HCB.out 0 ((es.map Le.ed).take k); have b1 := HCB.out 1 ((es.map Le.ed).take k); have b2 := HCB.out 2 ((es.map Le.ed).take k)
    simp only [List.length_take, List.length_map] at b0 b1 b2
    by_cases hlt : k < es.length
    · obtain ⟨b, o, rfl, _, _, x0, x1, x2, x3⟩ := edRow (HA.out.agree (below_all HB.out)) k hlt
      have i1 : (k : Int) < (es.length : Int) := by omega
      have HN := Lib.hid (And.intro (HCS.out 0 k hlt) (And.intro (HCS.out 1 k hlt) (HCS.out 2 k hlt)))
      have HKD := Lib.hid (HA.out.sub k hlt).1
      generalize countK 0 ((es.map Le.ed).take k) = n0 at *
      generalize countK 1 ((es.map Le.ed).take k) = n1 at *
      generalize countK 2 ((es.map Le.ed).take k) = n2 at *
      have hn : n0 ≤ 4294967296 ∧ n1 ≤ 4294967296 ∧ n2 ≤ 4294967296 := by omega
      obtain ⟨hn0, hn1, hn2⟩ := hn
      generalize es[k].kind = kk at *
      by_cases h0 : kk = 0
      · subst h0
        go_wp2_with fail
        exact ⟨⟨k + 1, by omega, by go_num, by rw [HN.out.1]; go_num, by rw [HN.out.2.1]; rfl, by rw [HN.out.2.2]; rfl, Lib.hid (Below.step HB.out (bx1 wr _))⟩, by simp only [intOf]; omega⟩
      · by_cases h1 : kk = 1
        · subst h1
          go_wp2_with fail
          exact ⟨⟨k + 1, by omega, by go_num, by rw [HN.out.1]; rfl, by rw [HN.out.2.1]; go_num, by rw [HN.out.2.2]; rfl, Lib.hid (Below.step HB.out (bx1 wr _))⟩, by simp only [intOf]; omega⟩
        · by_cases h2 : kk = 2
          · subst h2
            go_wp2_with fail
            exact ⟨⟨k + 1, by omega, by go_num, by rw [HN.out.1]; rfl, by rw [HN.out.2.1]; rfl, by rw [HN.out.2.2]; go_num, Lib.hid (Below.step HB.out (bx1 wr _))⟩, by simp only [intOf]; omega⟩
          · have e0 : (kk == 0) = false := by simpa using h0
            have e1 : (kk == 1) = false := by simpa using h1
            have e2 : (kk == 2) = false := by simpa using h2
            go_wp2_with fail
            exact ⟨⟨k + 1, by omega, by go_num, by rw [HN.out.1, if_neg h0]; rfl, by rw [HN.out.2.1, if_neg h1]; rfl, by rw [HN.out.2.2, if_neg h2]; rfl, Lib.hid (Below.step HB.out (bx1 wr _))⟩, by simp only [intOf]; omega⟩
    · have HE := Lib.hid (show (es.map Le.ed).take k = es.map Le.ed from List.take_of_length_le (by simp; omega))
      go_wp2_with fail
      go_ret3
      exact ⟨by rw [HE.out]; rfl, HB.out⟩
end Go.Proofs.YtbfjanfhgpgmdaaDoor
