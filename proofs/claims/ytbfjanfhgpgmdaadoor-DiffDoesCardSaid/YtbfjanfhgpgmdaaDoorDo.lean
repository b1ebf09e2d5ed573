/- The contracts of tree.same, slices.EqualFunc over nodes, tree.Same. -/
import Derived.Test.YtbfjanfhgpgmdaaDoorDn
namespace Go.Proofs.YtbfjanfhgpgmdaaDoor
open Go.RowKit
set_option linter.unusedSimpArgs false
set_option linter.unusedVariables false

theorem Below.drewN'' {B : Nat} {a w : World} (h : Below B a w) (n : Nat) : Below B a (w.drewN n) := by
  induction n generalizing w with
  | zero => exact h
  | succ n ih => exact (ih h).drew
theorem intAt {w : World} {S : Nat → Prop} {A : Option Addr} {l : List Int} (h : intL.row w S A l) (hl : 0 < l.length) : ∃ b o, A = some ⟨b, o, none⟩ ∧ ∀ j, j < l.length → w.cell? ⟨b, o + j, none⟩ = some (.int .i64 (l.getD j 0)) := by
  obtain ⟨b, o, rfl, _⟩ := intRow h 0 hl
  refine ⟨b, o, rfl, fun j hj => ?_⟩
  obtain ⟨b', o', e, _, _, hc⟩ := intRow h j hj
  cases e
  rw [hc]; simp [List.getD, hj]
theorem equal_ints (l m : List Int) (A B : Option Addr) (c d : Nat) (S T : Nat → Prop) (w : World) (hA : intL.row w S A l) (hB : intL.row w T B m) (hl : l.length ≤ 281474976710656) (hm : m.length ≤ 281474976710656) :
    Calls Tryd.prog 87 #[.slice A l.length c, .slice B m.length d] w fun e w' => e = .returned (.bool (decide (l = m))) ∧ ∃ q, w' = w.drewN q := by
  by_cases hlm : l.length = m.length
  · by_cases h0 : 0 < l.length
    · obtain ⟨b1, o1, rfl, h1⟩ := intAt hA h0
      obtain ⟨b2, o2, rfl, h2⟩ := intAt hB (by omega)
      refine (Tryd.slices_Equal_int b1 o1 l.length c b2 o2 m.length d l m w (Nat.le_refl _) (Nat.le_refl _) (by omega) (by omega) h1 h2).mono fun e w' ⟨he, hw⟩ => ⟨?_, hw⟩
      rw [he, List.take_length, List.take_length]
      congr 2
      rw [Bool.eq_iff_iff]; simp
    · have e1 : l = [] := List.eq_nil_of_length_eq_zero (by omega)
      have e2 : m = [] := List.eq_nil_of_length_eq_zero (by omega)
      subst e1 e2
      exact (Tryd.slices_Equal_int_empty A B c 0 d w (by omega)).mono fun e w' ⟨he, hw⟩ => ⟨by rw [he]; rfl, 0, hw⟩
  · exact (Tryd.slices_Equal_int_lens A B l.length c m.length d w hlm).mono fun e w' ⟨he, hw⟩ => ⟨by rw [he, decide_eq_false (fun e => hlm (by rw [e]))], 0, hw⟩

set_option maxRecDepth 100000 in
set_option maxHeartbeats 1600000 in
theorem ndsame_any (a b : Nd) (A B : Option Addr) (c d : Nat) (S T : Nat → Prop) (w : World) (hA : intL.row w S A a.kids) (hB : intL.row w T B b.kids) (hl : a.kids.length ≤ 281474976710656) (hm : b.kids.length ≤ 281474976710656) :
    Calls Tryd.prog 65 #[ndV a (.slice A a.kids.length c), ndV b (.slice B b.kids.length d)] w fun e w' => e = .returned (.bool (decide (a = b))) ∧ Below w.heap.size w w' := by
  obtain ⟨ak, a0, a1, a2, a3, at', an, ax, al⟩ := a
  obtain ⟨bk, b0, b1, b2, b3, bt, bn, bx, bl⟩ := b
  simp only at hA hB hl hm ⊢
  have hE := fun w => eqSet w a0 a1 a2 a3 b0 b1 b2 b3
  by_cases h1 : ak = bk
  · have e1 : (ak == bk) = true := by simp [h1]
    by_cases h2 : a0 = b0 ∧ a1 = b1 ∧ a2 = b2 ∧ a3 = b3
    · rw [decide_eq_true h2] at hE
      by_cases h3 : at' = bt
      · have e3 : (at'.toList == bt.toList) = true := by simp [h3]
        by_cases h4 : an = bn
        · have e4 : (an == bn) = true := by simp [h4]
          by_cases h5 : ax = bx
          · have e5 : (ax == bx) = true := by simp [h5]
            have H := Lib.hid (show decide ((⟨ak, a0, a1, a2, a3, at', an, ax, al⟩ : Nd) = ⟨bk, b0, b1, b2, b3, bt, bn, bx, bl⟩) = decide (al = bl) by
              obtain ⟨h21, h22, h23, h24⟩ := h2
              subst h1 h21 h22 h23 h24 h3 h4 h5
              simp)
            clear h1 h2 h3 h4 h5
            go_enter Tryd.func65, Tryd.ntmps65
            go_wp2_with (go_at_call 87; refine (equal_ints al bl A B c d S T _ (hA.below (bx2 w _ _)) (hB.below (bx2 w _ _)) hl hm).mono ?_; rintro e w' ⟨rfl, q, rfl⟩)
            go_ret
            exact ⟨ret_bool H.out.symm, Below.drewN'' (bx2 w _ _) _⟩
          · have e5 : (ax == bx) = false := by simpa using h5
            have H := Lib.hid (show decide ((⟨ak, a0, a1, a2, a3, at', an, ax, al⟩ : Nd) = ⟨bk, b0, b1, b2, b3, bt, bn, bx, bl⟩) = false from decide_eq_false (fun e => h5 (congrArg Nd.mx e)))
            clear h1 h2 h3 h4 h5
            go_enter Tryd.func65, Tryd.ntmps65
            go_wp2_with fail
            go_ret
            exact ⟨ret_bool H.out.symm, bx2 w _ _⟩
        · have e4 : (an == bn) = false := by simpa using h4
          have H := Lib.hid (show decide ((⟨ak, a0, a1, a2, a3, at', an, ax, al⟩ : Nd) = ⟨bk, b0, b1, b2, b3, bt, bn, bx, bl⟩) = false from decide_eq_false (fun e => h4 (congrArg Nd.mn e)))
          clear h1 h2 h3 h4
          go_enter Tryd.func65, Tryd.ntmps65
          go_wp2_with fail
          go_ret
          exact ⟨ret_bool H.out.symm, bx2 w _ _⟩
      · have e3 : (at'.toList == bt.toList) = false := by
          rw [beq_eq_false_iff_ne]
          intro e
          rw [Lib.toList_data, Lib.toList_data] at e
          exact h3 (str_ext e)
        have H := Lib.hid (show decide ((⟨ak, a0, a1, a2, a3, at', an, ax, al⟩ : Nd) = ⟨bk, b0, b1, b2, b3, bt, bn, bx, bl⟩) = false from decide_eq_false (fun e => h3 (congrArg Nd.text e)))
        clear h1 h2 h3
        go_enter Tryd.func65, Tryd.ntmps65
        go_wp2_with fail
        go_ret
        exact ⟨ret_bool H.out.symm, bx2 w _ _⟩
    · rw [decide_eq_false h2] at hE
      have H := Lib.hid (show decide ((⟨ak, a0, a1, a2, a3, at', an, ax, al⟩ : Nd) = ⟨bk, b0, b1, b2, b3, bt, bn, bx, bl⟩) = false from decide_eq_false (fun e => h2 ⟨congrArg Nd.s0 e, congrArg Nd.s1 e, congrArg Nd.s2 e, congrArg Nd.s3 e⟩))
      clear h1 h2
      go_enter Tryd.func65, Tryd.ntmps65
      go_wp2_with fail
      go_ret
      exact ⟨ret_bool H.out.symm, bx2 w _ _⟩
  · have e1 : (ak == bk) = false := by simpa using h1
    have H := Lib.hid (show decide ((⟨ak, a0, a1, a2, a3, at', an, ax, al⟩ : Nd) = ⟨bk, b0, b1, b2, b3, bt, bn, bx, bl⟩) = false from decide_eq_false (fun e => h1 (congrArg Nd.kind e)))
    clear h1
    go_enter Tryd.func65, Tryd.ntmps65
    go_wp2_with fail
    go_ret
    exact ⟨ret_bool H.out.symm, bx2 w _ _⟩

set_option maxRecDepth 100000 in
set_option maxHeartbeats 1600000 in
theorem eqnodes_any (ls ms : List Ln) (A B : Option Addr) (c d : Nat) (S T : Nat → Prop) (w : World) (hA : ndL.row w S A ls) (hB : ndL.row w T B ms) (hl : ls.length ≤ 281474976710656) (hm : ms.length ≤ 281474976710656) :
    Calls Tryd.prog 63 #[.slice A ls.length c, .slice B ms.length d, .func (.func 65) #[] #[]] w fun e w' => e = .returned (.bool (decide (ls.map Ln.nd = ms.map Ln.nd))) ∧ Below w.heap.size w w' := by
  have HTA := Lib.hid hA; have HTB := Lib.hid hB; clear hA hB
  by_cases hlm : ls.length = ms.length
  · have e1 : ((ls.length : Int) != (ms.length : Int)) = false := by simp [hlm]
    have HLM := Lib.hid hlm; clear hlm
    go_enter Tryd.func63, Tryd.ntmps63
    go_wp2_with fail
    clear e1
    go_loopw [17] (fun i wr => ∃ k : Nat, k ≤ ls.length ∧ i = .int .i64 k ∧ Hid ((ls.map Ln.nd).take k = (ms.map Ln.nd).take k) ∧ Hid (Below w.heap.size w wr)) (fun i _ => ls.length - (intOf i).toNat)
    case atStart => exact ⟨0, by omega, rfl, Lib.hid (by simp), Lib.hid (Below.refl _ _)⟩
    case round =>
      obtain ⟨k, hk, rfl, HE, HB⟩ := hrel
      by_cases hlt : k < ls.length
      · have hlt2 : k < ms.length := by have := HLM.out; omega
        have HA' := Lib.hid (HTA.out.agree (below_all HB.out))
        have HB' := Lib.hid (HTB.out.agree (below_all HB.out))
        have HWA := Lib.hid (ndWf HA'.out k hlt)
        have HWB := Lib.hid (ndWf HB'.out k hlt2)
        have HKA := Lib.hid (ndSub HA'.out k hlt)
        have HKB := Lib.hid (ndSub HB'.out k hlt2)
        obtain ⟨b, o, rfl, _, _, x0, x1, x2, x3, x4, x5, x6, x7, x8⟩ := ndRow HA'.out k hlt
        obtain ⟨b', o', rfl, _, hbl, y0, y1, y2, y3, y4, y5, y6, y7, y8⟩ := ndRow HB'.out k hlt2
        have i1 : (k : Int) < (ls.length : Int) := by omega
        have i2 : (k : Int) < (ms.length : Int) := by omega
        have HNX := Lib.hid (show (ls.map Ln.nd).take (k + 1) = (ls.map Ln.nd).take k ++ [ls[k].nd] by rw [List.take_succ_eq_append_getElem (by simpa using hlt)]; simp)
        have HNY := Lib.hid (show (ms.map Ln.nd).take (k + 1) = (ms.map Ln.nd).take k ++ [ms[k].nd] by rw [List.take_succ_eq_append_getElem (by simpa using hlt2)]; simp)
        have HNE := Lib.hid (show ls[k].nd ≠ ms[k].nd → decide (ls.map Ln.nd = ms.map Ln.nd) = false from fun h => decide_eq_false (fun e => h (by
          have h1 : (ls.map Ln.nd)[k]? = (ms.map Ln.nd)[k]? := by rw [e]
          simpa [hlt, hlt2] using h1)))
        cases hs : decide (ls[k].nd = ms[k].nd)
        · have HX := Lib.hid (HNE.out (of_decide_eq_false hs))
          go_wp2_with (go_at_call 65; refine (ndsame_any ls[k].nd ms[k].nd ls[k].A ms[k].A ls[k].c ms[k].c S T _ (HKA.out.below (bx2 _ _ _)) (HKB.out.below (bx2 _ _ _)) HWA.out.2.2.1 HWB.out.2.2.1).mono ?_; rintro e w' ⟨rfl, hb⟩)
          go_ret
          exact ⟨ret_bool HX.out.symm, (HB.out.trans ((bx2 wr _ _).mono HB.out.size)).trans (hb.mono (by have := HB.out.size; simp; omega))⟩
        · have HX := Lib.hid (show (ls.map Ln.nd).take (k + 1) = (ms.map Ln.nd).take (k + 1) by rw [HNX.out, HNY.out, HE.out, of_decide_eq_true hs])
          go_wp2_with (go_at_call 65; refine (ndsame_any ls[k].nd ms[k].nd ls[k].A ms[k].A ls[k].c ms[k].c S T _ (HKA.out.below (bx2 _ _ _)) (HKB.out.below (bx2 _ _ _)) HWA.out.2.2.1 HWB.out.2.2.1).mono ?_; rintro e w' ⟨rfl, hb⟩)
          exact ⟨⟨k + 1, by omega, by go_num, HX, Lib.hid ((HB.out.trans ((bx2 wr _ _).mono HB.out.size)).trans (hb.mono (by have := HB.out.size; simp; omega)))⟩, by simp [intOf]; omega⟩
      · have HX := Lib.hid (show decide (ls.map Ln.nd = ms.map Ln.nd) = true from decide_eq_true (by
          have h := HE.out
          rwa [List.take_of_length_le (by simp; omega), List.take_of_length_le (by have := HLM.out; simp; omega)] at h))
        go_wp2_with fail
        go_ret
        exact ⟨ret_bool HX.out.symm, HB.out⟩
  · have e1 : ((ls.length : Int) != (ms.length : Int)) = true := by simp; omega
    have HX := Lib.hid (show decide (ls.map Ln.nd = ms.map Ln.nd) = false from decide_eq_false (fun e => hlm (by have := congrArg List.length e; simpa using this))); clear hlm
    go_enter Tryd.func63, Tryd.ntmps63
    go_wp2_with fail
    go_ret
    exact ⟨ret_bool HX.out.symm, Below.refl _ _⟩
end Go.Proofs.YtbfjanfhgpgmdaaDoor
