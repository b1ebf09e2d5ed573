/- The contract of diff.needed. -/
import Derived.Test.YtbfjanfhgpgmdaaDoorDt
namespace Go.Proofs.YtbfjanfhgpgmdaaDoor
open Go.RowKit
set_option linter.unusedSimpArgs false
set_option linter.unusedVariables false

/-- What the cells hold from row k on, and of row k - 1 from column q on. -/
def TabFrom (a b : List Df) (k q : Nat) (xs : List Value) : Prop :=
  (∀ i j, k ≤ i → i ≤ a.length → j ≤ b.length → xs[i * (b.length + 1) + j]? = some (.int .i64 (needL (a.drop i) (b.drop j) : Nat))) ∧
  ∀ i j, i + 1 = k → q ≤ j → j ≤ b.length → xs[i * (b.length + 1) + j]? = some (.int .i64 (needL (a.drop i) (b.drop j) : Nat))
theorem TabFrom.next {a b : List Df} {k : Nat} {xs : List Value} (h : TabFrom a b (k + 1) 0 xs) : TabFrom a b k (b.length + 1) xs :=
  ⟨fun i j hk hi hj => by
    by_cases e : k + 1 ≤ i
    · exact h.1 i j e hi hj
    · exact h.2 i j (by omega) (by omega) hj, fun i j _ hq hj => by omega⟩
theorem idx_inj {W i j i' j' : Nat} (h : i * (W + 1) + j = i' * (W + 1) + j') (hj : j ≤ W) (hj' : j' ≤ W) : i = i' ∧ j = j' := by
  have h1 : (i * (W + 1) + j) / (W + 1) = i := by rw [Nat.mul_comm, Nat.mul_add_div (by omega)]; rw [Nat.div_eq_of_lt (by omega)]; rfl
  have h2 : (i' * (W + 1) + j') / (W + 1) = i' := by rw [Nat.mul_comm, Nat.mul_add_div (by omega)]; rw [Nat.div_eq_of_lt (by omega)]; rfl
  have e : i = i' := by rw [← h1, h, h2]
  subst e
  exact ⟨rfl, by omega⟩
theorem TabFrom.set {a b : List Df} {i q : Nat} {xs : List Value} (h : TabFrom a b (i + 1) (q + 1) xs) (hi : i ≤ a.length) (hq : q ≤ b.length) (hx : xs.length = (a.length + 1) * (b.length + 1)) {v : Int} (hv : v = (needL (a.drop i) (b.drop q) : Nat)) :
    TabFrom a b (i + 1) q (xs.set (i * (b.length + 1) + q) (.int .i64 v)) := by
  have hlt : i * (b.length + 1) + q < xs.length := by
    rw [hx]
    have : i * (b.length + 1) ≤ a.length * (b.length + 1) := Nat.mul_le_mul_right _ hi
    rw [Nat.add_mul]; omega
  refine ⟨fun i' j' h1 h2 h3 => ?_, fun i' j' h1 h2 h3 => ?_⟩
  · rw [List.getElem?_set_ne (fun e => ?_)]
    · exact h.1 i' j' h1 h2 h3
    · have := idx_inj e hq h3; omega
  · by_cases e : i * (b.length + 1) + q = i' * (b.length + 1) + j'
    · obtain ⟨e1, e2⟩ := idx_inj e hq h3
      subst e1 e2
      rw [List.getElem?_set_self hlt, hv]
    · rw [List.getElem?_set_ne e]
      exact h.2 i' j' h1 (by
        have e1 : i' = i := by omega
        subst e1
        have : q ≠ j' := fun h => e (by rw [h])
        omega) h3
/-- What is stored at a place. -/
theorem need_at (a b : List Df) (i j : Nat) (hi : i ≤ a.length) (hj : j ≤ b.length) :
    needL (a.drop i) (b.drop j) = if i = a.length then b.length - j else if j = b.length then a.length - i else
      if sameD (a.getD i ⟨⟨#[]⟩, ⟨[], 0⟩⟩) (b.getD j ⟨⟨#[]⟩, ⟨[], 0⟩⟩) then needL (a.drop (i + 1)) (b.drop (j + 1)) else 1 + min (needL (a.drop (i + 1)) (b.drop j)) (needL (a.drop i) (b.drop (j + 1))) := by
  by_cases h1 : i = a.length
  · rw [if_pos h1, List.drop_of_length_le (by omega)]
    rw [needL]; simp
  · rw [if_neg h1]
    by_cases h2 : j = b.length
    · rw [if_pos h2, List.drop_of_length_le (l := b) (by omega), needL_nil]; simp
    · rw [if_neg h2]
      have e1 := List.drop_eq_getElem_cons (show i < a.length by omega)
      have e2 := List.drop_eq_getElem_cons (show j < b.length by omega)
      rw [e1, e2, needL_cons, ← e1, ← e2]
      simp only [List.getD, List.getElem?_eq_getElem (show i < a.length by omega), List.getElem?_eq_getElem (show j < b.length by omega), Option.getD_some]
def NeedPost (a b : List Df) (w : World) (e : Ending) (w' : World) : Prop := ∃ g N Bc Bw : Nat, e = .returned (.func (.func 67) #[] #[.pointer (some ⟨Bc, 0, none⟩), .pointer (some ⟨Bw, 0, none⟩)]) ∧ w'.heap[Bc]? = some (.cells #[.slice (some ⟨g, 0, none⟩) N N] 55 (0, 0)) ∧ w'.heap[Bw]? = some (.cells #[.int .i64 ((b.length + 1 : Nat) : Int)] 3 (0, 0)) ∧
  (∀ i j, i ≤ a.length → j ≤ b.length → w'.cell? ⟨g, i * (b.length + 1) + j, none⟩ = some (.int .i64 (needL (a.drop i) (b.drop j) : Nat))) ∧ N = (a.length + 1) * (b.length + 1) ∧ N ≤ 281474976710656 ∧ Below w.heap.size w w'
def NeedRel (w : World) (H Bc : Nat) (a b : List Df) (NN : Nat) (k : Nat) (q : Nat) (wr : World) : Prop :=
  ∃ xs : List Value, Hid (wr.ownsRow (H + 1) 3 1 (.slice (some ⟨H + 1, 0, none⟩) NN NN) NN xs) ∧ Hid (TabFrom a b k q xs) ∧ Hid (wr.heap[Bc]? = some (.cells #[.slice (some ⟨H + 1, 0, none⟩) NN NN] 55 (0, 0))) ∧ Hid (wr.heap[H]? = some (.cells #[.int .i64 ((b.length + 1 : Nat) : Int)] 3 (0, 0))) ∧ Hid (Below H w wr)

set_option maxRecDepth 100000 in
set_option maxHeartbeats 3200000 in
theorem needed_any (la lb : List Ld) (A B : Option Addr) (c d : Nat) (S T : Nat → Prop) (w : World) (hA : dfL.row w S A la) (hB : dfL.row w T B lb) (hl : la.length ≤ 100000) (hm : lb.length ≤ 100000)
    (hma : ∀ x ∈ la, x.t.ls.length ≤ 4294967296) (hmb : ∀ x ∈ lb, x.t.ls.length ≤ 4294967296) (ht : CntTab w) :
    Calls Tryd.prog 42 #[.slice A la.length c, .slice B lb.length d] w (NeedPost (la.map Ld.df) (lb.map Ld.df) w) := by
  obtain ⟨i0, hi, hz0, hz1, hz2⟩ := info_parts infoInt
  have HTA := Lib.hid hA; have HTB := Lib.hid hB; have HMA := Lib.hid hma; have HMB := Lib.hid hmb; have HC := Lib.hid ht
  clear hA hB hma hmb ht
  obtain ⟨NN, hNN⟩ : ∃ NN, NN = (la.length + 1) * (lb.length + 1) := ⟨_, rfl⟩
  have hle : NN ≤ 10000300001 := by
    rw [hNN]
    exact Nat.le_trans (Nat.mul_le_mul (show la.length + 1 ≤ 100001 by omega) (show lb.length + 1 ≤ 100001 by omega)) (by decide)
  have hmul : ((la.length : Int) + 1) * ((lb.length : Int) + 1) = (NN : Int) := by rw [hNN]; simp
  have HNN := Lib.hid hNN; clear hNN
  have F := Lib.hid (show i0.bytes * NN ≤ 281474976710656 ∧ NN ≤ maxLen from ⟨by rw [hz2]; omega, by unfold maxLen; omega⟩)
  go_enter Tryd.func42, Tryd.ntmps42
  go_wp2_with (first | (at_make; refine wpList_make_full _ rfl _ _ 55 rfl (w.heap.size + 1) 3 i0 _ 1 Tryd.underlying55 hi hz0 hz1 .i64 .i64 _ _ NN rfl rfl (by first | rfl | exact hmul) (by first | rfl | exact hmul) F.out.1 F.out.2 (by simp) ?_; intro w1 ho1 hg1; have HO1 := Lib.hid ho1; have HG1 := Lib.hid hg1; clear ho1 hg1))
  simp only [World.size_alloc] at HO1
  have HB1 := Lib.hid (show Below w.heap.size w w1 from (bx1 w _).trans ((Below.refl _ _).grown HG1.out (by simp) (fun k e => by cases e)))
  have HZ1 := Lib.hid (show w.heap.size + 1 < w1.heap.size from (own_lt HO1.out).2)
  have HKW := Lib.hid (show w1.heap[w.heap.size]? = some (.cells #[.int .i64 ((lb.length : Int) + 1)] 3 (0, 0)) from (HG1.out.block w.heap.size (by simp) (fun e => by cases e)).trans (bx_new w _))
  have HKC := Lib.hid (bx_new w1 (.cells #[.slice (some ⟨w.heap.size + 1, 0, none⟩) NN NN] 55))
  have HKW2 := Lib.hid (bx_old (p := .cells #[.slice (some ⟨w.heap.size + 1, 0, none⟩) NN NN] 55) HKW.out)
  have HO2 := Lib.hid (World.ownsRow.alloc HO1.out (.cells #[.slice (some ⟨w.heap.size + 1, 0, none⟩) NN NN] 55))
  have HB2 := Lib.hid (HB1.out.alloc (by have := HZ1.out; omega) (.cells #[.slice (some ⟨w.heap.size + 1, 0, none⟩) NN NN] 55))
  generalize hBc : w1.heap.size = Bc at *
  have hBcH := Lib.hid (show w.heap.size + 1 < Bc from HZ1.out)
  clear hBc HG1 HO1 HB1 HKW HZ1
  go_loopw [8] (fun v8 wr => ∃ k : Nat, k ≤ la.length + 1 ∧ v8 = .int .i64 ((k : Int) - 1) ∧ NeedRel w w.heap.size Bc (la.map Ld.df) (lb.map Ld.df) NN k (lb.length + 1) wr) (fun v8 _ => (intOf v8 + 1).toNat)
  case atStart => exact ⟨la.length + 1, by omega, by go_num, _, Lib.hid HO2.out, Lib.hid ⟨fun i j h1 h2 => by simp at h2; omega, fun i j h1 h2 h3 => by simp at h3; omega⟩, Lib.hid HKC.out, Lib.hid (by have h := HKW2.out; simpa using h), HB2⟩
  case round =>
    clear HO2 HKC HKW2 HB2
    obtain ⟨k, hk, rfl, xs, HO, HTB2, HKC, HKW, HB⟩ := hrel
    rcases k with _ | i
    · as_aux_lemma =>
        rw [show (((0 : Nat) : Int) - 1) = -1 from rfl]
        go_wp2_with fail
        go_ret
        refine ⟨w.heap.size + 1, NN, Bc, w.heap.size, rfl, HKC.out, HKW.out, fun i j h1 h2 => ?_, by rw [HNN.out]; simp, by omega, HB.out⟩
        have h3 := HTB2.out.1 i j (Nat.zero_le _) h1 h2
        refine own_cell HO.out _ ?_ h3
        have h4 := (List.getElem?_eq_some_iff.1 h3).1
        have h5 := HO.out.1
        omega
    · have hcast : (((i + 1 : Nat) : Int) - 1) = (i : Int) := by omega
      rw [hcast]
      clear hcast
      have hi2 : (0 : Int) ≤ (i : Int) := by omega
      go_wp2_with fail
      go_loopw [9] (fun v9 wr => ∃ q : Nat, q ≤ lb.length + 1 ∧ v9 = .int .i64 ((q : Int) - 1) ∧ NeedRel w w.heap.size Bc (la.map Ld.df) (lb.map Ld.df) NN (i + 1) q wr) (fun v9 _ => (intOf v9 + 1).toNat)
      case atStart => exact ⟨lb.length + 1, by omega, by go_num, xs, HO, HTB2, HKC, HKW, HB⟩
      case round =>
        clear HO HTB2 HKC HKW HB xs
        obtain ⟨q, hq, rfl, xs, HO, HTB2, HKC, HKW, HB⟩ := hrel
        rcases q with _ | j
        · as_aux_lemma =>
            rw [show (((0 : Nat) : Int) - 1) = -1 from rfl]
            go_wp2_with fail
            exact ⟨⟨i, by omega, rfl, xs, HO, Lib.hid (by have h := HTB2.out.next; simpa using h), HKC, HKW, HB⟩, by simp only [intOf]; omega⟩
        · as_aux_lemma =>
            have hcast : (((j + 1 : Nat) : Int) - 1) = (j : Int) := by omega
            rw [hcast]
            clear hcast
            have hj2 : (0 : Int) ≤ (j : Int) := by omega
            have hil : i ≤ la.length := by omega
            have hjl : j ≤ lb.length := by omega
            have HXL := Lib.hid (show xs.length = NN from by have := HO.out.1; omega)
            have HSET := Lib.hid (fun (v : Int) (hv : v = (needL ((la.map Ld.df).drop i) ((lb.map Ld.df).drop j) : Nat)) => TabFrom.set HTB2.out (by simpa using hil) (by simpa using hjl) (by have h1 := HXL.out; have h2 := HNN.out; rw [List.length_map, List.length_map]; omega) hv)
            have HNA := Lib.hid (need_at (la.map Ld.df) (lb.map Ld.df) i j (by simpa using hil) (by simpa using hjl))
            have hcell : ∀ i' j', i' ≤ la.length → j' ≤ lb.length → (i + 1 ≤ i' ∨ (i' = i ∧ j + 1 ≤ j')) → wr.cell? ⟨w.heap.size + 1, i' * (lb.length + 1) + j', none⟩ = some (.int .i64 (needL ((la.map Ld.df).drop i') ((lb.map Ld.df).drop j') : Nat)) ∧ i' * (lb.length + 1) + j' < NN := fun i' j' h1 h2 h3 => by
              have h4 : xs[i' * (lb.length + 1) + j']? = some (.int .i64 (needL ((la.map Ld.df).drop i') ((lb.map Ld.df).drop j') : Nat)) := by
                rcases h3 with h3 | ⟨rfl, h3⟩
                · have := HTB2.out.1 i' j' h3 (by simpa using h1) (by simpa using h2); simpa using this
                · have := HTB2.out.2 i' j' rfl h3 (by simpa using h2); simpa using this
              have h5 := (List.getElem?_eq_some_iff.1 h4).1
              have h6 := HXL.out
              exact ⟨own_cell HO.out _ (by omega) h4, by omega⟩
            have HCE := Lib.hid hcell; clear hcell
            have hP : (i : Int) * ((lb.length : Int) + 1) = ((i * (lb.length + 1) : Nat) : Int) := by simp
            have hPN : i * (lb.length + 1) + j < NN := by
              have h1 : i * (lb.length + 1) ≤ la.length * (lb.length + 1) := Nat.mul_le_mul_right _ hil
              have h2 := HNN.out
              rw [Nat.add_mul] at h2; omega
            have HPE := Lib.hid hP; clear hP
            have HKW' := Lib.hid (show wr.heap[w.heap.size]? = some (.cells #[.int .i64 ((lb.length : Int) + 1)] 3 (0, 0)) by have h := HKW.out; simpa using h)
            obtain ⟨p1, _⟩ := blk1 HKC.out
            obtain ⟨p2, _⟩ := blk1 HKW'.out
            obtain ⟨u0, hu0⟩ : ∃ u, wr.cell? ⟨w.heap.size + 1, i * (lb.length + 1) + j, none⟩ = some u := ⟨_, own_cell HO.out _ hPN (List.getElem?_eq_getElem (by have := HXL.out; omega))⟩
            have hf0 := World.ownsRow.frozenAt HO.out (i * (lb.length + 1) + j)
            have hBH := hBcH.out
            by_cases hin : i = la.length
            · have HV := Lib.hid (show (lb.length : Int) - (j : Int) = (needL ((la.map Ld.df).drop i) ((lb.map Ld.df).drop j) : Nat) by
                rw [HNA.out, if_pos (by simpa using hin)]; simp; omega)
              have e1 : ((i : Int) == (la.length : Int)) = true := by simp [hin]
              generalize hPP : i * (lb.length + 1) = P at *
              have HPP := Lib.hid hPP
              have hmulP := HPE.out
              clear hPP hin
              go_wp2_with fail
              exact ⟨⟨j, by omega, rfl, _, Lib.hid (World.ownsRow.stored HO.out _ _).1, Lib.hid (by have h := HSET.out ((lb.length : Int) - (j : Int)) HV.out; simp only [List.length_map, HPP.out] at h; exact h), Lib.hid ((Below.heap_setCell _ _ _ _ (by show Bc ≠ w.heap.size + 1; omega)).trans HKC.out), Lib.hid ((Below.heap_setCell _ _ _ _ (by show w.heap.size ≠ w.heap.size + 1; omega)).trans HKW.out), Lib.hid (HB.out.setCell (p := ⟨w.heap.size + 1, P + j, none⟩) (by simp) _)⟩, by simp only [intOf]; omega⟩
            · have e1 : ((i : Int) == (la.length : Int)) = false := by simp; omega
              by_cases hjn : j = lb.length
              · have HV := Lib.hid (show (la.length : Int) - (i : Int) = (needL ((la.map Ld.df).drop i) ((lb.map Ld.df).drop j) : Nat) by
                  rw [HNA.out, if_neg (by simpa using hin), if_pos (by simpa using hjn)]; simp; omega)
                have e2 : ((j : Int) == (lb.length : Int)) = true := by simp [hjn]
                generalize hPP : i * (lb.length + 1) = P at *
                have HPP := Lib.hid hPP
                have hmulP := HPE.out
                clear hPP hjn
                go_wp2_with fail
                exact ⟨⟨j, by omega, rfl, _, Lib.hid (World.ownsRow.stored HO.out _ _).1, Lib.hid (by have h := HSET.out ((la.length : Int) - (i : Int)) HV.out; simp only [List.length_map, HPP.out] at h; exact h), Lib.hid ((Below.heap_setCell _ _ _ _ (by show Bc ≠ w.heap.size + 1; omega)).trans HKC.out), Lib.hid ((Below.heap_setCell _ _ _ _ (by show w.heap.size ≠ w.heap.size + 1; omega)).trans HKW.out), Lib.hid (HB.out.setCell (p := ⟨w.heap.size + 1, P + j, none⟩) (by simp) _)⟩, by simp only [intOf]; omega⟩
              · have e2 : ((j : Int) == (lb.length : Int)) = false := by simp; omega
                have hil2 : i < la.length := by omega
                have hjl2 : j < lb.length := by omega
                have i1 : (i : Int) < (la.length : Int) := by omega
                have i2 : (j : Int) < (lb.length : Int) := by omega
                obtain ⟨ab, ao, rfl, _, _, x0, x1, x2⟩ := dfRow (HTA.out.agree (below_all HB.out)) i hil2
                obtain ⟨bb, bo, rfl, _, _, y0, y1, y2⟩ := dfRow (HTB.out.agree (below_all HB.out)) j hjl2
                have HIA := Lib.hid ((HTA.out.agree (below_all HB.out)).sub i hil2)
                have HIB := Lib.hid ((HTB.out.agree (below_all HB.out)).sub j hjl2)
                have HCW := Lib.hid (HC.out.below HB.out)
                have HM1 := Lib.hid (HMA.out la[i] (List.getElem_mem hil2)); have HM2 := Lib.hid (HMB.out lb[j] (List.getElem_mem hjl2))
                have HSB := Lib.hid (show ∀ w', Below wr.heap.size wr w' → (w'.cell? ⟨ab, ao + i * 3, none⟩ = some (.string la[i].name) ∧ w'.cell? ⟨ab, ao + i * 3 + 1, none⟩ = some (.slice la[i].t.A la[i].t.ls.length la[i].t.c) ∧ w'.cell? ⟨ab, ao + i * 3 + 2, none⟩ = some (.int .i64 la[i].t.root)) ∧ w'.cell? ⟨bb, bo + j * 3, none⟩ = some (.string lb[j].name) ∧ w'.cell? ⟨bb, bo + j * 3 + 1, none⟩ = some (.slice lb[j].t.A lb[j].t.ls.length lb[j].t.c) ∧ w'.cell? ⟨bb, bo + j * 3 + 2, none⟩ = some (.int .i64 lb[j].t.root) from fun w' hb =>
                  ⟨⟨(hb.cell (cellLt x0)).trans x0, (hb.cell (cellLt x1)).trans x1, (hb.cell (cellLt x2)).trans x2⟩, (hb.cell (cellLt y0)).trans y0, (hb.cell (cellLt y1)).trans y1, (hb.cell (cellLt y2)).trans y2⟩)
                clear x0 x1 x2 y0 y1 y2 p1 p2 hu0 hf0
                go_wp2_with fail
                go_region_held3 (fun w' => (w'.cell? ⟨ab, ao + i * 3, none⟩ = some (.string la[i].name) ∧ w'.cell? ⟨ab, ao + i * 3 + 1, none⟩ = some (.slice la[i].t.A la[i].t.ls.length la[i].t.c) ∧ w'.cell? ⟨ab, ao + i * 3 + 2, none⟩ = some (.int .i64 la[i].t.root)) ∧ w'.cell? ⟨bb, bo + j * 3, none⟩ = some (.string lb[j].name) ∧ w'.cell? ⟨bb, bo + j * 3 + 1, none⟩ = some (.slice lb[j].t.A lb[j].t.ls.length lb[j].t.c) ∧ w'.cell? ⟨bb, bo + j * 3 + 2, none⟩ = some (.int .i64 lb[j].t.root))
                  (first | exact HSB.out _ (Below.refl _ _).drew | exact HSB.out _ HB3.out)
                  (((go_at_call 43; (with_reducible refine (dsame_any la[i] lb[j] S T _ (dfL.agree HIA.out (drew_agree _ _)) (dfL.agree HIB.out (drew_agree _ _)) HM1.out HM2.out (HCW.out.below (Below.refl _ _).drew)).mono ?_)); rintro e w3 ⟨rfl, hb3⟩; have HB3 := Lib.hid (show Below wr.heap.size wr w3 from (Below.refl _ wr).drew.trans hb3); clear hb3))
                have HO3 := Lib.hid (own_below HO.out HB3.out)
                have HKC3 := Lib.hid (bx_kept HB3.out HKC.out)
                have HKW3 := Lib.hid (bx_kept HB3.out HKW.out)
                have HKW4 := Lib.hid (bx_kept HB3.out HKW'.out)
                have HCE3 := Lib.hid (show ∀ i' j', i' ≤ la.length → j' ≤ lb.length → (i + 1 ≤ i' ∨ (i' = i ∧ j + 1 ≤ j')) → w3.cell? ⟨w.heap.size + 1, i' * (lb.length + 1) + j', none⟩ = some (.int .i64 (needL ((la.map Ld.df).drop i') ((lb.map Ld.df).drop j') : Nat)) ∧ i' * (lb.length + 1) + j' < NN from fun i' j' h1 h2 h3 => by
                  have h := HCE.out i' j' h1 h2 h3
                  exact ⟨(HB3.out.cell (cellLt h.1)).trans h.1, h.2⟩)
                have HASK := Lib.hid (show ∀ i' j', i' ≤ la.length → j' ≤ lb.length → (i + 1 ≤ i' ∨ (i' = i ∧ j + 1 ≤ j')) → Calls Tryd.prog 67 #[.int .i64 (i' : Int), .int .i64 (j' : Int), .pointer (some ⟨Bc, 0, none⟩), .pointer (some ⟨w.heap.size, 0, none⟩)] w3 fun e w' => e = .returned (.int .i64 (needL ((la.map Ld.df).drop i') ((lb.map Ld.df).drop j') : Nat)) ∧ w3 = w' from fun i' j' h1 h2 h3 =>
                  ask_any i' j' (lb.length + 1) NN (w.heap.size + 1) Bc w.heap.size _ w3 HKC3.out (by have h := HKW4.out; simpa using h) (HCE3.out i' j' h1 h2 h3).1 (HCE3.out i' j' h1 h2 h3).2 (by omega))
                have ha1 := HASK.out (i + 1) (j + 1) (by omega) (by omega) (Or.inl (Nat.le_refl _))
                have ha2 := HASK.out (i + 1) j (by omega) (by omega) (Or.inl (Nat.le_refl _))
                have ha3 := HASK.out i (j + 1) (by omega) (by omega) (Or.inr ⟨rfl, Nat.le_refl _⟩)
                have hn1 : needL ((la.map Ld.df).drop (i + 1)) ((lb.map Ld.df).drop (j + 1)) ≤ 300000 := by
                  have := need_le ((la.map Ld.df).drop (i + 1)) ((lb.map Ld.df).drop (j + 1)); simp only [List.length_drop, List.length_map] at this; omega
                have hn2 : needL ((la.map Ld.df).drop (i + 1)) ((lb.map Ld.df).drop j) ≤ 300000 := by
                  have := need_le ((la.map Ld.df).drop (i + 1)) ((lb.map Ld.df).drop j); simp only [List.length_drop, List.length_map] at this; omega
                have hn3 : needL ((la.map Ld.df).drop i) ((lb.map Ld.df).drop (j + 1)) ≤ 300000 := by
                  have := need_le ((la.map Ld.df).drop i) ((lb.map Ld.df).drop (j + 1)); simp only [List.length_drop, List.length_map] at this; omega
                have HNB := Lib.hid HNA.out
                rw [if_neg (by simpa using hin), if_neg (by simpa using hjn), show (la.map Ld.df).getD i ⟨⟨#[]⟩, ⟨[], 0⟩⟩ = la[i].df by simp [List.getD, hil2], show (lb.map Ld.df).getD j ⟨⟨#[]⟩, ⟨[], 0⟩⟩ = lb[j].df by simp [List.getD, hjl2]] at HNB
                generalize needL ((la.map Ld.df).drop (i + 1)) ((lb.map Ld.df).drop (j + 1)) = z1 at *
                generalize needL ((la.map Ld.df).drop (i + 1)) ((lb.map Ld.df).drop j) = z2 at *
                generalize needL ((la.map Ld.df).drop i) ((lb.map Ld.df).drop (j + 1)) = z3 at *
                have HA1 := Lib.hid ha1; have HA2 := Lib.hid ha2; have HA3 := Lib.hid ha3
                clear ha1 ha2 ha3
                simp only [Int.natCast_add, Int.natCast_one] at HA1 HA2 HA3
                obtain ⟨p1, _⟩ := blk1 HKC3.out
                obtain ⟨p2, _⟩ := blk1 HKW4.out
                obtain ⟨u0, hu0⟩ : ∃ u, w3.cell? ⟨w.heap.size + 1, i * (lb.length + 1) + j, none⟩ = some u := ⟨_, own_cell HO3.out _ hPN (List.getElem?_eq_getElem (by have := HXL.out; omega))⟩
                have hf0 := World.ownsRow.frozenAt HO3.out (i * (lb.length + 1) + j)
                generalize hPP : i * (lb.length + 1) = P at *
                have HPP := Lib.hid hPP
                have hmulP := HPE.out
                clear hPP hin hjn
                cases hsd : sameD la[i].df lb[j].df
                · have HV := Lib.hid (show 1 + min (z2 : Int) (z3 : Int) = (needL ((la.map Ld.df).drop i) ((lb.map Ld.df).drop j) : Nat) by
                    have h := HNB.out; rw [hsd] at h; rw [h]; simp; omega)
                  go_wp2_with (go_at_call 67; first | ((with_reducible refine (HA2.out).mono ?_); rintro e w' ⟨rfl, rfl⟩) | ((with_reducible refine (HA3.out).mono ?_); rintro e w' ⟨rfl, rfl⟩))
                  all_goals
                    exact ⟨⟨j, by omega, rfl, _, Lib.hid (World.ownsRow.stored HO3.out _ _).1, Lib.hid (by have h := HSET.out _ HV.out; simp only [List.length_map, HPP.out] at h; exact h), Lib.hid ((Below.heap_setCell _ _ _ _ (by show Bc ≠ w.heap.size + 1; omega)).trans HKC3.out), Lib.hid ((Below.heap_setCell _ _ _ _ (by show w.heap.size ≠ w.heap.size + 1; omega)).trans HKW3.out), Lib.hid ((Below.step HB.out HB3.out).setCell (p := ⟨w.heap.size + 1, P + j, none⟩) (by simp) _)⟩, by simp only [intOf]; omega⟩
                · have HV := Lib.hid (show (z1 : Int) = (needL ((la.map Ld.df).drop i) ((lb.map Ld.df).drop j) : Nat) by
                    have h := HNB.out; rw [hsd] at h; rw [h]; simp)
                  go_wp2_with (go_at_call 67; refine (HA1.out).mono ?_; rintro e w' ⟨rfl, rfl⟩)
                  exact ⟨⟨j, by omega, rfl, _, Lib.hid (World.ownsRow.stored HO3.out _ _).1, Lib.hid (by have h := HSET.out ((z1 : Nat) : Int) HV.out; simp only [List.length_map, HPP.out] at h; exact h), Lib.hid ((Below.heap_setCell _ _ _ _ (by show Bc ≠ w.heap.size + 1; omega)).trans HKC3.out), Lib.hid ((Below.heap_setCell _ _ _ _ (by show w.heap.size ≠ w.heap.size + 1; omega)).trans HKW3.out), Lib.hid ((Below.step HB.out HB3.out).setCell (p := ⟨w.heap.size + 1, P + j, none⟩) (by simp) _)⟩, by simp only [intOf]; omega⟩
end Go.Proofs.YtbfjanfhgpgmdaaDoor
