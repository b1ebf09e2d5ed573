/- The contract of tree.Right. -/
import Derived.Test.YtbfjanfhgpgmdaaDoorDh
import Derived.Test.YtbfjanfhgpgmdaaDoorDi
namespace Go.Proofs.YtbfjanfhgpgmdaaDoor
open Go.RowKit
set_option linter.unusedSimpArgs false
set_option linter.unusedVariables false

theorem cnt_lt {w : World} (h : CntTab w) : 0 < w.heap.size := by
  have := h.cells 0
  exact cellLt (a := ⟨0, 0, none⟩) (v := .int .i64 0) (by rw [this]; rfl)
theorem CntTab.below {w w' : World} (h : CntTab w) (hb : Below w.heap.size w w') : CntTab w' := var_below hb (by kernel_rfl) (cnt_lt h) h
theorem bx_old {w : World} {b : Nat} {o p : Obj} (h : w.heap[b]? = some o) : (w.alloc p).heap[b]? = some o := (Below.heap_alloc w p b (Array.getElem?_eq_some_iff.1 h).1).trans h
theorem infoBool : (Tryd.prog.info? 4).map (fun i => (i.zero, i.size, i.bytes)) = some (some (.bool false), 1, 1) := by kernel_rfl
theorem infoInt : (Tryd.prog.info? 3).map (fun i => (i.zero, i.size, i.bytes)) = some (some (.int .i64 0), 1, 8) := by kernel_rfl
theorem blk2 {w : World} {b : Nat} {x y : Value} {T : TypeId} (h : w.heap[b]? = some (.cells #[x, y] T (0, 0))) :
    w.cell? ⟨b, 0, none⟩ = some x ∧ w.cell? ⟨b, 1, none⟩ = some y ∧ w.frozen? ⟨b, 0, none⟩ = false ∧ w.frozen? ⟨b, 1, none⟩ = false := by
  simp [World.cell?, World.frozen?, h]
theorem own_cell {w : World} {B g n c : Nat} {e : TypeId} {xs : List Value} (h : w.ownsRow B e 1 (.slice (some ⟨g, 0, none⟩) n c) n xs) (j : Nat) (hj : j < n) {u : Value} (hu : xs[j]? = some u) : w.cell? ⟨g, j, none⟩ = some u :=
  (World.ownsRow.cellAt h j (by omega)).trans hu
theorem own_lt {w : World} {B g n c : Nat} {e : TypeId} {size : Nat} {xs : List Value} (h : w.ownsRow B e size (.slice (some ⟨g, 0, none⟩) n c) n xs) : B ≤ g ∧ g < w.heap.size := World.ownsRow.lt h g rfl
theorem own_below {w w' : World} {B g n c : Nat} {e : TypeId} {size : Nat} {xs : List Value} (h : w.ownsRow B e size (.slice (some ⟨g, 0, none⟩) n c) n xs) (hb : Below w.heap.size w w') : w'.ownsRow B e size (.slice (some ⟨g, 0, none⟩) n c) n xs :=
  World.ownsRow.kept h (row := none) ⟨hb.os, hb.tape, hb.output, hb.size, fun k hk _ => hb.block k hk⟩ (Or.inr (fun e => by cases e))

set_option maxRecDepth 100000 in
set_option maxHeartbeats 3200000 in
theorem right_any (A : Option Addr) (c : Nat) (ls : List Ln) (root : Int) (S : Nat → Prop) (w : World) (hT : ndL.row w S A ls) (hl : ls.length ≤ 281474976710656) (ht : CntTab w) :
    Calls Tryd.prog 25 #[.agg #[.slice A ls.length c, .int .i64 root]] w fun e w' => e = .returned (.bool (rightT ⟨ls.map Ln.nd, root⟩)) ∧ Below w.heap.size w w' := by
  have hlm : (ls.map Ln.nd).length = ls.length := by simp
  by_cases hr : 0 ≤ root ∧ root < (ls.length : Int)
  · obtain ⟨hr1, hr2⟩ := hr
    obtain ⟨i0, hi, hz0, hz1, hz2⟩ := info_parts infoBool
    have HT := Lib.hid hT; clear hT
    have HC := Lib.hid ht; clear ht
    have HLM := Lib.hid hlm; clear hlm
    go_enter Tryd.func25, Tryd.ntmps25
    go_wp2_with (first | (at_make; refine wpList_make_full _ rfl _ _ 91 rfl (w.heap.size + 1) 4 i0 _ 1 Tryd.underlying91 hi hz0 hz1 .i64 .i64 _ _ ls.length rfl rfl rfl rfl ?_ ?_ ?_ ?_))
    · rw [hz2]; omega
    · unfold maxLen; omega
    · simp
    intro w1 hown1 hgrow1
    rw [boolsOf_nil] at hown1
    have HB1 := Lib.hid (show Below w.heap.size w w1 from (bx1 w _).trans ((Below.refl _ _).grown hgrow1 (by simp) (fun k e => by cases e)))
    have HO1 := Lib.hid hown1; clear hown1
    have HK1 := Lib.hid ((hgrow1.block w.heap.size (by simp) (fun e => by cases e)).trans (bx_new w _)); clear hgrow1
    obtain ⟨b1, b2, _, _⟩ := blk2 HK1.out
    go_wp2_with fail
    clear b1 b2
    go_loopw [28] (fun i wr => ∃ k : Nat, k ≤ ls.length ∧ i = .int .i64 k ∧ wr.ownsRow (w.heap.size + 1) 4 1 (.slice (some ⟨w.heap.size + 1, 0, none⟩) ls.length ls.length) ls.length (boolsOf ls.length (seenL (ls.map Ln.nd) k 0)) ∧ FineTo (ls.map Ln.nd) k ∧ (∀ z, (seenL (ls.map Ln.nd) k 0).count z ≤ 1) ∧ wr.heap[w.heap.size]? = some (.cells #[.slice A ls.length c, .int .i64 root] 34 (0, 0)) ∧ Below w.heap.size w wr) (fun i _ => ls.length - (intOf i).toNat)
    case atStart => exact ⟨0, by omega, rfl, by rw [seen_zero]; exact HO1.out, FineTo.zero _, fun z => by rw [seen_zero]; simp, HK1.out, HB1.out⟩
    case round =>
      clear HO1 HK1 HB1
      obtain ⟨k, hk, rfl, hown, hfine, hcnt, hbox, hb⟩ := hrel
      have HO := Lib.hid hown; clear hown
      have HF := Lib.hid hfine; clear hfine
      have HN := Lib.hid hcnt; clear hcnt
      have HB := Lib.hid hb; clear hb
      have HK := Lib.hid hbox; clear hbox
      by_cases hlt : k < ls.length
      · have HR := Lib.hid (HT.out.agree (below_all HB.out))
        have HW := Lib.hid (ndWf HT.out k hlt)
        have HKR := Lib.hid (ndSub HR.out k hlt)
        obtain ⟨b, o, rfl, hS, hbl, x0, x1, x2, x3, x4, x5, x6, x7, x8⟩ := ndRow HR.out k hlt
        have i1 : (k : Int) < (ls.length : Int) := by omega
        cases hf : fitN ls[k].nd (ls[k].nd.kids.length : Nat)
        · as_aux_lemma =>
            have HX := Lib.hid (show rightT ⟨ls.map Ln.nd, root⟩ = false from right_no_nd (k := k) (by rw [HLM.out]; exact hlt) (by simpa using hf))
            go_wp2_with (go_at_call 47; refine (fits_any ls[k].nd _ _ _ ((HC.out.below HB.out).below (bx1 _ _)) HW.out.1 HW.out.2.1).mono ?_; rintro e w' ⟨rfl, hb⟩)
            go_ret
            exact ⟨ret_bool HX.out.symm, (HB.out.trans ((bx1 wr _).mono HB.out.size)).trans (hb.mono (by have := HB.out.size; simp; omega))⟩
        · have HF1 := Lib.hid hf
          go_wp2_with (go_at_call 47; refine (fits_any ls[k].nd _ _ _ ((HC.out.below HB.out).below (bx1 _ _)) HW.out.1 HW.out.2.1).mono ?_; rintro e w' ⟨rfl, hb⟩; obtain ⟨q0, q1, q2, q3, q4, q5, q6, q7, q8, _⟩ := blk9 (bx_kept hb (bx_new wr _)))
          have HB2 := Lib.hid (show Below w.heap.size w w' from (HB.out.trans ((bx1 wr _).mono HB.out.size)).trans (hb.mono (by have := HB.out.size; simp; omega)))
          have HO2 := Lib.hid (own_below (World.ownsRow.alloc HO.out _) hb)
          have HK2 := Lib.hid (bx_kept hb (bx_old HK.out))
          have HN0 := Lib.hid (show seenL (ls.map Ln.nd) k ls[k].nd.kids.length = seenL (ls.map Ln.nd) (k + 1) 0 by
            have := seen_next (ls.map Ln.nd) k (by rw [HLM.out]; exact hlt); simpa using this)
          clear hb q0 q1 q2 q3 q4 q5 q6 q7 q8 x0 x1 x2 x3 x4 x5 x6 x7 x8 hf HO HK
          go_loopw [42] (fun i wr => ∃ q : Nat, q ≤ ls[k].nd.kids.length ∧ i = .int .i64 q ∧ wr.ownsRow (w.heap.size + 1) 4 1 (.slice (some ⟨w.heap.size + 1, 0, none⟩) ls.length ls.length) ls.length (boolsOf ls.length (seenL (ls.map Ln.nd) k q)) ∧ (∀ z, (seenL (ls.map Ln.nd) k q).count z ≤ 1) ∧ (∀ p (hp : p < ls[k].nd.kids.length), p < q → 0 ≤ ls[k].nd.kids[p] ∧ ls[k].nd.kids[p] < (k : Int)) ∧ wr.heap[w.heap.size]? = some (.cells #[.slice (some ⟨b, o, none⟩) ls.length c, .int .i64 root] 34 (0, 0)) ∧ Below w.heap.size w wr) (fun i _ => ls[k].nd.kids.length - (intOf i).toNat)
          case atStart => exact ⟨0, by omega, rfl, HO2.out, HN.out, fun p _ h => by omega, HK2.out, HB2.out⟩
          case round =>
            clear HO2 HK2 HB2 HN HB HR HKR
            obtain ⟨q, hq, rfl, hown, hcnt, hin, hbox, hb⟩ := hrel
            have HO := Lib.hid hown; clear hown
            have HN := Lib.hid hcnt; clear hcnt
            have HI := Lib.hid hin; clear hin
            have HB := Lib.hid hb; clear hb
            have HK := Lib.hid hbox; clear hbox
            by_cases hql : q < ls[k].nd.kids.length
            · as_aux_lemma =>
                obtain ⟨kb, ko, hkA, _, _, y0⟩ := intRow (ndSub (HT.out.agree (below_all HB.out)) k hlt) q hql
                have i2 : (q : Int) < (ls[k].nd.kids.length : Int) := by omega
                have hkl : ls[k].nd.kids.length ≤ 281474976710656 := HW.out.2.2.1
                have hkz : (ls.map Ln.nd)[k]'(by rw [HLM.out]; exact hlt) = ls[k].nd := by simp
                have HSK := Lib.hid (show seenL (ls.map Ln.nd) k (q + 1) = seenL (ls.map Ln.nd) k q ++ [ls[k].nd.kids[q]] by
                  have := seen_kid (ls.map Ln.nd) k q (by rw [HLM.out]; exact hlt) (by rw [hkz]; exact hql); simpa using this)
                have HXK := Lib.hid (show ¬ (0 ≤ ls[k].nd.kids[q] ∧ ls[k].nd.kids[q] < (k : Int)) → rightT ⟨ls.map Ln.nd, root⟩ = false from fun h => right_no_kid (k := k) (q := q) (by rw [HLM.out]; exact hlt) (by simpa using hql) (by simpa using h))
                have HXD := Lib.hid (show 0 < (seenL (ls.map Ln.nd) k q).count ls[k].nd.kids[q] → rightT ⟨ls.map Ln.nd, root⟩ = false from fun h => right_no_dup (k := k) (q := q) (by rw [HLM.out]; exact hlt) (by simpa using hql) (by simpa using h))
                clear hkz
                generalize hz : ls[k].nd.kids[q] = z at y0 HSK HXK HXD
                have HZ := Lib.hid hz; clear hz
                have hkA' := Lib.hid hkA; clear hkA
                generalize hkk : ls[k].A = KA at *
                obtain rfl := hkA'.out
                by_cases hz0 : z < 0
                · have HX := Lib.hid (HXK.out (by omega))
                  go_wp2_with fail
                  go_ret
                  exact ⟨ret_bool HX.out.symm, HB.out⟩
                · by_cases hz1 : (k : Int) ≤ z
                  · have HX := Lib.hid (HXK.out (by omega))
                    go_wp2_with fail
                    go_ret
                    exact ⟨ret_bool HX.out.symm, HB.out⟩
                  · obtain ⟨m, rfl⟩ := Int.eq_ofNat_of_zero_le (show 0 ≤ z by omega)
                    have hmk : m < k := by omega
                    have c0 := own_cell HO.out m (by omega) (boolsOf_get _ _ m (by omega))
                    have c1 := World.ownsRow.frozenAt HO.out m
                    have i3 : (m : Int) < (ls.length : Int) := by omega
                    by_cases hd : 0 < (seenL (ls.map Ln.nd) k q).count (m : Int)
                    · as_aux_lemma =>
                        have HX := Lib.hid (HXD.out hd)
                        rw [decide_eq_true hd] at c0
                        go_wp2_with fail
                        go_ret
                        exact ⟨ret_bool HX.out.symm, HB.out⟩
                    · as_aux_lemma =>
                        rw [decide_eq_false hd] at c0
                        have HD := Lib.hid hd; clear hd
                        go_wp2_with fail
                        refine ⟨⟨q + 1, by omega, by go_num, ?_, ?_, ?_, (Below.heap_setCell _ _ _ _ (by simp)).trans HK.out, HB.out.setCell (p := ⟨w.heap.size + 1, m, none⟩) (by simp) _⟩, by simp [intOf]; omega⟩
                        · rw [HSK.out, ← boolsOf_set _ _ m (by omega)]
                          exact (World.ownsRow.stored HO.out _ _).1
                        · intro z
                          rw [HSK.out, List.count_append, List.count_singleton]
                          have := HN.out z
                          by_cases e : (m : Int) = z
                          · subst e; have := HD.out; simp; omega
                          · have : ((m : Int) == z) = false := by simpa using e
                            rw [this]; simpa using HN.out z
                        · intro p hp hpq
                          by_cases e : p < q
                          · exact HI.out p hp e
                          · obtain rfl : p = q := by omega
                            rw [HZ.out]; omega
            · as_aux_lemma =>
                have hqe : q = ls[k].nd.kids.length := by omega
                have HFN := Lib.hid (show FineTo (ls.map Ln.nd) (k + 1) from HF.out.next (by rw [HLM.out]; exact hlt) (by simpa using HF1.out) (fun p hp => by simpa using HI.out p (by simpa using hp) (by rw [hqe]; simpa using hp)))
                have HQ := Lib.hid hqe; clear hqe
                go_wp2_with fail
                exact ⟨⟨k + 1, by omega, by go_num, by rw [← HN0.out, ← HQ.out]; exact HO.out, HFN.out, fun z => by rw [← HN0.out, ← HQ.out]; exact HN.out z, HK.out, HB.out⟩, by simp [intOf]; omega⟩
      · have hke : k = ls.length := by omega
        have HSE := Lib.hid (show seenL (ls.map Ln.nd) k 0 = kidsOf (ls.map Ln.nd) by rw [hke, ← HLM.out, seen_end])
        have HFE := Lib.hid (show FineTo (ls.map Ln.nd) (ls.map Ln.nd).length by rw [HLM.out, ← hke]; exact HF.out)
        have HO3 := Lib.hid (show wr.ownsRow (w.heap.size + 1) 4 1 (.slice (some ⟨w.heap.size + 1, 0, none⟩) ls.length ls.length) ls.length (boolsOf ls.length (kidsOf (ls.map Ln.nd))) by rw [← HSE.out]; exact HO.out)
        have HN3 := Lib.hid (show ∀ z, (kidsOf (ls.map Ln.nd)).count z ≤ 1 by rw [← HSE.out]; exact HN.out)
        have HKE := Lib.hid hke; clear hke HO HN HF HSE
        obtain ⟨b1, b2, _, _⟩ := blk2 HK.out
        go_wp2_with fail
        go_loop [66] (fun i => ∃ j : Nat, j ≤ ls.length ∧ i = .int .i64 j ∧ ∀ p, p < j → (kidsOf (ls.map Ln.nd)).count (p : Int) = if (p : Int) = root then 0 else 1) (fun i => ls.length - (intOf i).toNat)
        case atStart => exact ⟨0, by omega, rfl, fun p hp => by omega⟩
        case round => as_aux_lemma =>
            obtain ⟨j, hj, rfl, hall⟩ := hrel
            have HA := Lib.hid hall; clear hall
            by_cases hjl : j < ls.length
            · have c0 := own_cell HO3.out j hjl (boolsOf_get _ _ j hjl)
              have i3 : (j : Int) < (ls.length : Int) := by omega
              have HX := Lib.hid (show ((kidsOf (ls.map Ln.nd)).count (j : Int) ≠ if (j : Int) = root then 0 else 1) → rightT ⟨ls.map Ln.nd, root⟩ = false from fun h => right_no_end (t := ⟨ls.map Ln.nd, root⟩) (by rw [HLM.out]; exact hjl) h)
              have h1 := HN3.out (j : Int)
              have HM := Lib.hid (show ((kidsOf (ls.map Ln.nd)).count (j : Int) = if (j : Int) = root then 0 else 1) → ∀ p, p < j + 1 → (kidsOf (ls.map Ln.nd)).count (p : Int) = if (p : Int) = root then 0 else 1 from fun h p hp => by
                by_cases e : p < j
                · exact HA.out p e
                · obtain rfl : p = j := by omega
                  exact h)
              generalize (kidsOf (ls.map Ln.nd)).count (j : Int) = cc at c0 HX HM h1
              by_cases hc : 0 < cc
              · rw [decide_eq_true hc] at c0
                by_cases he : (j : Int) = root
                · have he2 : ((j : Int) == root) = true := by simpa using he
                  have HX2 := Lib.hid (HX.out (by rw [if_pos he]; omega)); clear he
                  go_wp2_with fail
                  go_ret
                  exact ⟨ret_bool HX2.out.symm, HB.out⟩
                · have he2 : ((j : Int) == root) = false := by simpa using he
                  have HM2 := Lib.hid (HM.out (by rw [if_neg he]; omega)); clear he
                  go_wp2_with fail
                  exact ⟨⟨j + 1, by omega, by go_num, HM2.out⟩, by simp [intOf]; omega⟩
              · rw [decide_eq_false hc] at c0
                by_cases he : (j : Int) = root
                · have he2 : ((j : Int) == root) = true := by simpa using he
                  have HM2 := Lib.hid (HM.out (by rw [if_pos he]; omega)); clear he
                  go_wp2_with fail
                  exact ⟨⟨j + 1, by omega, by go_num, HM2.out⟩, by simp [intOf]; omega⟩
                · have he2 : ((j : Int) == root) = false := by simpa using he
                  have HX2 := Lib.hid (HX.out (by rw [if_neg he]; omega)); clear he
                  go_wp2_with fail
                  go_ret
                  exact ⟨ret_bool HX2.out.symm, HB.out⟩
            · have HX2 := Lib.hid (show rightT ⟨ls.map Ln.nd, root⟩ = true from right_yes (by rw [HLM.out]; exact ⟨hr1, hr2⟩) HFE.out (fun p hp => HA.out p (by rw [HLM.out] at hp; omega)))
              go_wp2_with fail
              go_ret
              exact ⟨ret_bool HX2.out.symm, HB.out⟩
  · have HX := Lib.hid (show rightT ⟨ls.map Ln.nd, root⟩ = false from right_no_root (by rw [hlm]; exact hr))
    clear hlm
    by_cases h1 : root < 0
    · go_enter Tryd.func25, Tryd.ntmps25
      go_wp2_with fail
      go_ret
      exact ⟨ret_bool HX.out.symm, bx1 _ _⟩
    · have h2 : (ls.length : Int) ≤ root := by omega
      go_enter Tryd.func25, Tryd.ntmps25
      go_wp2_with fail
      go_ret
      exact ⟨ret_bool HX.out.symm, bx1 _ _⟩
end Go.Proofs.YtbfjanfhgpgmdaaDoor
