/- The contracts of diff.same, and of the closure that diff.needed hands back. -/
import Derived.Test.YtmjkgnknfgoadaaGreatDoorDw
import Derived.Test.YtmjkgnknfgoadaaGreatDoorDq
import Derived.Test.YtmjkgnknfgoadaaGreatDoorDa
namespace Go.Proofs.YtmjkgnknfgoadaaGreatDoor
open Go.RowKit
set_option linter.unusedSimpArgs false
set_option linter.unusedVariables false
set_option maxRecDepth 100000 in
set_option maxHeartbeats 1600000 in
theorem dsame_any (a b : Ld) (S T : Nat → Prop) (w : World) (hA : dfL.inn w S a) (hB : dfL.inn w T b) (hl : a.t.ls.length ≤ 4294967296) (hm : b.t.ls.length ≤ 4294967296) (ht : CntTab w) :
    Calls Tryz.prog 77 #[.agg #[.string a.name, .slice a.t.A a.t.ls.length a.t.c, .int .i64 a.t.root], .agg #[.string b.name, .slice b.t.A b.t.ls.length b.t.c, .int .i64 b.t.root]] w fun e w' => e = .returned (.bool (sameD a.df b.df)) ∧ Below w.heap.size w w' := by
  obtain ⟨an, ⟨A, c, ls, ra⟩⟩ := a
  obtain ⟨bn, ⟨B, d, ms, rb⟩⟩ := b
  simp only at hl hm ⊢
  have HA := Lib.hid (show ndL.row w S A ls from hA.2.2); have HB := Lib.hid (show ndL.row w T B ms from hB.2.2); clear hA hB
  have HC := Lib.hid ht; clear ht
  by_cases hn : an = bn
  · have e1 : (an.toList == bn.toList) = true := by simp [hn]
    have HX := Lib.hid (show sameD (Ld.df ⟨an, A, c, ls, ra⟩) (Ld.df ⟨bn, B, d, ms, rb⟩) = sameT ⟨ls.map Ln.nd, ra⟩ ⟨ms.map Ln.nd, rb⟩ by simp [sameD, Ld.df, Lt.tr, hn])
    clear hn
    go_enter Tryz.func77, Tryz.ntmps77
    go_wp2_with (go_at_call 69; refine (tsame_any A B c d ls ms ra rb S T _ (HA.out.below (bx2 w _ _)) (HB.out.below (bx2 w _ _)) hl hm (HC.out.below (bx2 w _ _))).mono ?_; rintro e w' ⟨rfl, hb⟩)
    go_ret
    exact ⟨ret_bool HX.out.symm, Below.step (bx2 w _ _) hb⟩
  · have e1 : (an.toList == bn.toList) = false := by
      rw [beq_eq_false_iff_ne]
      intro e
      rw [Lib.toList_data, Lib.toList_data] at e
      exact hn (str_ext e)
    have HX := Lib.hid (show sameD (Ld.df ⟨an, A, c, ls, ra⟩) (Ld.df ⟨bn, B, d, ms, rb⟩) = false by simp [sameD, Ld.df, hn])
    clear hn
    go_enter Tryz.func77, Tryz.ntmps77
    go_wp2_with fail
    go_ret
    exact ⟨ret_bool HX.out.symm, bx2 w _ _⟩
set_option maxRecDepth 100000 in
set_option maxHeartbeats 800000 in
theorem ask_any (i j wide N g Bc Bw : Nat) (x : Int) (w : World) (hc : w.heap[Bc]? = some (.cells #[.slice (some ⟨g, 0, none⟩) N N] 54 (0, 0))) (hw : w.heap[Bw]? = some (.cells #[.int .i64 (wide : Int)] 3 (0, 0)))
    (hx : w.cell? ⟨g, i * wide + j, none⟩ = some (.int .i64 x)) (hN : i * wide + j < N) (hN2 : N ≤ 281474976710656) :
    Calls Tryz.prog 117 #[.int .i64 (i : Int), .int .i64 (j : Int), .pointer (some ⟨Bc, 0, none⟩), .pointer (some ⟨Bw, 0, none⟩)] w fun e w' => e = .returned (.int .i64 x) ∧ w = w' := by
  obtain ⟨p1, _⟩ := blk1 hc
  obtain ⟨p2, _⟩ := blk1 hw
  have h1 : (i : Int) * (wide : Int) = ((i * wide : Nat) : Int) := by simp
  have hle : i * wide ≤ 281474976710656 := by omega
  generalize i * wide = m at *
  have HH := Lib.hid h1
  clear hc hw h1
  go_enter Tryz.func117, Tryz.ntmps117
  have h2 : (i : Int) * (wide : Int) = (m : Int) := HH.out
  go_wp2_with fail
  go_ret
  exact ⟨rfl, rfl⟩
attribute [local go_sem] field_rules
set_option maxRecDepth 100000 in
set_option maxHeartbeats 1600000 in
theorem down_any (a : Ld) (S : Nat → Prop) (w : World) (hA : dfL.inn w S a) (hm : DMod a) :
    Calls Tryz.prog 78 #[.agg #[.string a.name, .slice a.t.A a.t.ls.length a.t.c, .int .i64 a.t.root]] w (DefPost a.df w) := by
  obtain ⟨an, ⟨A, c, ls, ra⟩⟩ := a
  simp only
  have HW3 := Lib.hid (bx3 w (.cells #[.string an, .slice A ls.length c, .int .i64 ra] 50) (.cells #[.string ByteArray.empty, .slice none 0 0, .int .i64 0] 50) (.cells #[.string an, .slice A ls.length c, .int .i64 ra] 50))
  have HRW := Lib.hid (show dfL.row (((w.alloc (.cells #[.string an, .slice A ls.length c, .int .i64 ra] 50)).alloc (.cells #[.string ByteArray.empty, .slice none 0 0, .int .i64 0] 50)).alloc (.cells #[.string an, .slice A ls.length c, .int .i64 ra] 50)) (fun _ => True) (some ⟨w.heap.size + 1 + 1, 0, none⟩) [⟨an, A, c, ls, ra⟩] from by
    refine ⟨⟨?_, fun _ _ _ => trivial⟩, fun d hd => ?_⟩
    · have h := bx_new ((w.alloc (.cells #[.string an, .slice A ls.length c, .int .i64 ra] 50)).alloc (.cells #[.string ByteArray.empty, .slice none 0 0, .int .i64 0] 50)) (.cells #[.string an, .slice A ls.length c, .int .i64 ra] 50)
      exact row_blk (cs := [.string an, .slice A ls.length c, .int .i64 ra]) (by simpa using h)
    · simp only [List.mem_singleton] at hd
      subst hd
      exact dfL.mono (dfL.agree hA (below_all HW3.out)) (fun _ _ _ => trivial))
  have HM := Lib.hid (show ∀ d ∈ [(⟨an, A, c, ls, ra⟩ : Ld)], DMod d from fun d hd => by simp only [List.mem_singleton] at hd; subst hd; exact hm)
  clear hA hm
  unfold DefPost
  go_enter Tryz.func78, Tryz.ntmps78
  go_wp2_with fail
  refine (gcopy_any (some ⟨w.heap.size + 1 + 1, 0, none⟩) 1 [⟨an, A, c, ls, ra⟩] _ _ HRW.out (by simp) HM.out).mono ?_
  rintro e w1 ⟨V, vc, ds, rfl, hds, hgo, hgb⟩
  have hl1 : ds.length = 1 := by have := congrArg List.length hds; simpa using this
  obtain ⟨d, rfl⟩ := List.length_eq_one_iff.1 hl1
  obtain ⟨n', ⟨A', c', l', r'⟩⟩ := d
  simp only [List.map_cons, List.map_nil, List.cons.injEq, and_true] at hds
  have HDS := Lib.hid hds
  have HGO := Lib.hid hgo
  have HB := Lib.hid hgb
  clear hds hgo hgb hl1
  obtain ⟨g, rfl, _, hg2⟩ := own_some (h := HGO.out.row.1) (by simp)
  obtain ⟨x0, x1, x2⟩ := own_at3 HGO.out.row.1 0 (by simp)
  simp only [Nat.zero_mul, Nat.zero_add, List.getElem_cons_zero] at x0 x1 x2
  have HK := Lib.hid (show w1.heap[w.heap.size + 1]? = some (.cells #[.string ByteArray.empty, .slice none 0 0, .int .i64 0] 50 (0, 0)) from bx_kept HB.out (bx_old (by have h := bx_new (w.alloc (.cells #[.string an, .slice A ls.length c, .int .i64 ra] 50)) (.cells #[.string ByteArray.empty, .slice none 0 0, .int .i64 0] 50); simpa using h)))
  obtain ⟨s1, s2, s3, s4, s5, s6⟩ := blk3f HK.out
  simp only [List.length_singleton]
  go_wp2_with fail
  refine bodyPost_ret (v := .agg #[.string n', .slice A' l'.length c', .int .i64 r']) (by simp [results, Tryz.results78, go_sem, s1, s2, s3]) rfl ⟨n', A', c', l', r', rfl, HDS.out, ?_, ?_⟩
  · obtain ⟨Q, h1, h2, _⟩ := HGO.out.kids
    have hq := ((h1 0 (by simp)).2.mono (T := fun x => w.heap.size + 3 ≤ x) (fun x _ hx => by have := h2 0 x hx; simp at this; omega))
    simp only [List.getElem_cons_zero] at hq
    refine (hq.agree (fun x hx _ => ?_)).mono (fun x _ hx => by have hx : w.heap.size + 3 ≤ x := hx; omega)
    have hx : w.heap.size + 3 ≤ x := hx
    have hne : x ≠ w.heap.size + 1 := by omega
    exact (Below.heap_setCell _ _ _ _ hne).trans ((Below.heap_setCell _ _ _ _ hne).trans (Below.heap_setCell _ _ _ _ hne))
  · exact (((Below.step HW3.out HB.out).setCell (p := ⟨w.heap.size + 1, 0, none⟩) (by simp) _).setCell (p := ⟨w.heap.size + 1, 1, none⟩) (by simp) _).setCell (p := ⟨w.heap.size + 1, 2, none⟩) (by simp) _
end Go.Proofs.YtmjkgnknfgoadaaGreatDoor
/- The contract of diff.needed. -/
namespace Go.Proofs.YtmjkgnknfgoadaaGreatDoor
open Go.RowKit
set_option linter.unusedSimpArgs false
set_option linter.unusedVariables false
def TabFrom (a b : List Df) (k q : Nat) (xs : List Value) : Prop :=
  (∀ i j, k ≤ i → i ≤ a.length → j ≤ b.length → xs[i * (b.length + 1) + j]? = some (.int .i64 (needL (a.drop i) (b.drop j) : Nat))) ∧
  ∀ i j, i + 1 = k → q ≤ j → j ≤ b.length → xs[i * (b.length + 1) + j]? = some (.int .i64 (needL (a.drop i) (b.drop j) : Nat))
theorem TabFrom.next {a b : List Df} {k : Nat} {xs : List Value} (h : TabFrom a b (k + 1) 0 xs) : TabFrom a b k (b.length + 1) xs :=
  ⟨fun i j hk hi hj => by
    by_cases e : k + 1 ≤ i
    · exact h.1 i j e hi hj
    · exact h.2 i j (by omega) (by omega) hj, fun i j _ hq hj => by omega⟩
theorem idx_inj {W i j i' j' : Nat} (h : i * (W + 1) + j = i' * (W + 1) + j') (hj : j ≤ W) (hj' : j' ≤ W) : i = i' ∧ j = j' := by
  have h1 : (i * (W + 1) + j) / (W + 1) = i := by rw [Nat.mul_comm, Nat.mul_add_div (by omega)]; rw [Nat.div_eq_of_lt (by omega)]; rfl
  have h2 : (i' * (W + 1) + j') / (W + 1) = i' := by rw [Nat.mul_comm, Nat.mul_add_div (by omega)]; rw [Nat.div_eq_of_lt (by omega)]; rfl
  have e : i = i' := by rw [← h1, h, h2]
  subst e
  exact ⟨rfl, by omega⟩
theorem TabFrom.set {a b : List Df} {i q : Nat} {xs : List Value} (h : TabFrom a b (i + 1) (q + 1) xs) (hi : i ≤ a.length) (hq : q ≤ b.length) (hx : xs.length = (a.length + 1) * (b.length + 1)) {v : Int} (hv : v = (needL (a.drop i) (b.drop q) : Nat)) :
    TabFrom a b (i + 1) q (xs.set (i * (b.length + 1) + q) (.int .i64 v)) := by
  have hlt : i * (b.length + 1) + q < xs.length := by
    rw [hx]
    have : i * (b.length + 1) ≤ a.length * (b.length + 1) := Nat.mul_le_mul_right _ hi
    rw [Nat.add_mul]; omega
  refine ⟨fun i' j' h1 h2 h3 => ?_, fun i' j' h1 h2 h3 => ?_⟩
  · rw [List.getElem?_set_ne (fun e => ?_)]
    · exact h.1 i' j' h1 h2 h3
    · have := idx_inj e hq h3; omega
  · by_cases e : i * (b.length + 1) + q = i' * (b.length + 1) + j'
    · obtain ⟨e1, e2⟩ := idx_inj e hq h3
      subst e1 e2
      rw [List.getElem?_set_self hlt, hv]
    · rw [List.getElem?_set_ne e]
      exact h.2 i' j' h1 (by
        have e1 : i' = i := by omega
        subst e1
        have : q ≠ j' := fun h => e (by rw [h])
        omega) h3
theorem need_at (a b : List Df) (i j : Nat) (hi : i ≤ a.length) (hj : j ≤ b.length) :
    needL (a.drop i) (b.drop j) = if i = a.length then b.length - j else if j = b.length then a.length - i else
      if sameD (a.getD i ⟨⟨#[]⟩, ⟨[], 0⟩⟩) (b.getD j ⟨⟨#[]⟩, ⟨[], 0⟩⟩) then needL (a.drop (i + 1)) (b.drop (j + 1)) else 1 + min (needL (a.drop (i + 1)) (b.drop j)) (needL (a.drop i) (b.drop (j + 1))) := by
  by_cases h1 : i = a.length
  · rw [if_pos h1, List.drop_of_length_le (by omega)]
    rw [needL]; simp
  · rw [if_neg h1]
    by_cases h2 : j = b.length
    · rw [if_pos h2, List.drop_of_length_le (l := b) (by omega), needL_nil]; simp
    · rw [if_neg h2]
      have e1 := List.drop_eq_getElem_cons (show i < a.length by omega)
      have e2 := List.drop_eq_getElem_cons (show j < b.length by omega)
      rw [e1, e2, needL_cons, ← e1, ← e2]
      simp only [List.getD, List.getElem?_eq_getElem (show i < a.length by omega), List.getElem?_eq_getElem (show j < b.length by omega), Option.getD_some]
def NeedPost (a b : List Df) (w : World) (e : Ending) (w' : World) : Prop := ∃ g N Bc Bw : Nat, e = .returned (.func (.func 117) #[] #[.pointer (some ⟨Bc, 0, none⟩), .pointer (some ⟨Bw, 0, none⟩)]) ∧ w'.heap[Bc]? = some (.cells #[.slice (some ⟨g, 0, none⟩) N N] 54 (0, 0)) ∧ w'.heap[Bw]? = some (.cells #[.int .i64 ((b.length + 1 : Nat) : Int)] 3 (0, 0)) ∧
  (∀ i j, i ≤ a.length → j ≤ b.length → w'.cell? ⟨g, i * (b.length + 1) + j, none⟩ = some (.int .i64 (needL (a.drop i) (b.drop j) : Nat))) ∧ N = (a.length + 1) * (b.length + 1) ∧ N ≤ 281474976710656 ∧ Below w.heap.size w w'
def NeedRel (w : World) (H Bc : Nat) (a b : List Df) (NN : Nat) (k : Nat) (q : Nat) (wr : World) : Prop :=
  ∃ xs : List Value, Hid (wr.ownsRow (H + 1) 3 1 (.slice (some ⟨H + 1, 0, none⟩) NN NN) NN xs) ∧ Hid (TabFrom a b k q xs) ∧ Hid (wr.heap[Bc]? = some (.cells #[.slice (some ⟨H + 1, 0, none⟩) NN NN] 54 (0, 0))) ∧ Hid (wr.heap[H]? = some (.cells #[.int .i64 ((b.length + 1 : Nat) : Int)] 3 (0, 0))) ∧ Hid (Below H w wr)
set_option maxRecDepth 100000 in
set_option maxHeartbeats 3200000 in
theorem needed_any (la lb : List Ld) (A B : Option Addr) (c d : Nat) (S T : Nat → Prop) (w : World) (hA : dfL.row w S A la) (hB : dfL.row w T B lb) (hl : la.length ≤ 100000) (hm : lb.length ≤ 100000)
    (hma : ∀ x ∈ la, x.t.ls.length ≤ 4294967296) (hmb : ∀ x ∈ lb, x.t.ls.length ≤ 4294967296) (ht : CntTab w) :
    Calls Tryz.prog 76 #[.slice A la.length c, .slice B lb.length d] w (NeedPost (la.map Ld.df) (lb.map Ld.df) w) := by
  obtain ⟨i0, hi, hz0, hz1, hz2⟩ := info_parts infoInt
  have HTA := Lib.hid hA; have HTB := Lib.hid hB; have HMA := Lib.hid hma; have HMB := Lib.hid hmb; have HC := Lib.hid ht
  clear hA hB hma hmb ht
  obtain ⟨NN, hNN⟩ : ∃ NN, NN = (la.length + 1) * (lb.length + 1) := ⟨_, rfl⟩
  have hle : NN ≤ 10000300001 := by
    rw [hNN]
    exact Nat.le_trans (Nat.mul_le_mul (show la.length + 1 ≤ 100001 by omega) (show lb.length + 1 ≤ 100001 by omega)) (by decide)
  have hmul : ((la.length : Int) + 1) * ((lb.length : Int) + 1) = (NN : Int) := by rw [hNN]; simp
  have HNN := Lib.hid hNN; clear hNN
  have F := Lib.hid (show i0.bytes * NN ≤ 281474976710656 ∧ NN ≤ maxLen from ⟨by rw [hz2]; omega, by unfold maxLen; omega⟩)
  go_enter Tryz.func76, Tryz.ntmps76
  go_wp2_with (first | (at_make; refine wpList_make_full _ rfl _ _ 54 rfl (w.heap.size + 1) 3 i0 _ 1 Tryz.underlying54 hi hz0 hz1 .i64 .i64 _ _ NN rfl rfl (by first | rfl | exact hmul) (by first | rfl | exact hmul) F.out.1 F.out.2 (by simp) ?_; intro w1 ho1 hg1; have HO1 := Lib.hid ho1; have HG1 := Lib.hid hg1; clear ho1 hg1))
  simp only [World.size_alloc] at HO1
  have HB1 := Lib.hid (show Below w.heap.size w w1 from (bx1 w _).trans ((Below.refl _ _).grown HG1.out (by simp) (fun k e => by cases e)))
  have HZ1 := Lib.hid (show w.heap.size + 1 < w1.heap.size from (own_lt HO1.out).2)
  have HKW := Lib.hid (show w1.heap[w.heap.size]? = some (.cells #[.int .i64 ((lb.length : Int) + 1)] 3 (0, 0)) from (HG1.out.block w.heap.size (by simp) (fun e => by cases e)).trans (bx_new w _))
  have HKC := Lib.hid (bx_new w1 (.cells #[.slice (some ⟨w.heap.size + 1, 0, none⟩) NN NN] 54))
  have HKW2 := Lib.hid (bx_old (p := .cells #[.slice (some ⟨w.heap.size + 1, 0, none⟩) NN NN] 54) HKW.out)
  have HO2 := Lib.hid (World.ownsRow.alloc HO1.out (.cells #[.slice (some ⟨w.heap.size + 1, 0, none⟩) NN NN] 54))
  have HB2 := Lib.hid (HB1.out.alloc (by have := HZ1.out; omega) (.cells #[.slice (some ⟨w.heap.size + 1, 0, none⟩) NN NN] 54))
  generalize hBc : w1.heap.size = Bc at *
  have hBcH := Lib.hid (show w.heap.size + 1 < Bc from HZ1.out)
  clear hBc HG1 HO1 HB1 HKW HZ1
  go_loopw [8] (fun v8 wr => ∃ k : Nat, k ≤ la.length + 1 ∧ v8 = .int .i64 ((k : Int) - 1) ∧ NeedRel w w.heap.size Bc (la.map Ld.df) (lb.map Ld.df) NN k (lb.length + 1) wr) (fun v8 _ => (intOf v8 + 1).toNat)
  case atStart => exact ⟨la.length + 1, by omega, by go_num, _, Lib.hid HO2.out, Lib.hid ⟨fun i j h1 h2 => by simp at h2; omega, fun i j h1 h2 h3 => by simp at h3; omega⟩, Lib.hid HKC.out, Lib.hid (by have h := HKW2.out; simpa using h), HB2⟩
  case round =>
    clear HO2 HKC HKW2 HB2
    obtain ⟨k, hk, rfl, xs, HO, HTB2, HKC, HKW, HB⟩ := hrel
    rcases k with _ | i
    · as_aux_lemma =>
        rw [show (((0 : Nat) : Int) - 1) = -1 from rfl]
        go_wp2_with fail
        go_ret
        refine ⟨w.heap.size + 1, NN, Bc, w.heap.size, rfl, HKC.out, HKW.out, fun i j h1 h2 => ?_, by rw [HNN.out]; simp, by omega, HB.out⟩
        have h3 := HTB2.out.1 i j (Nat.zero_le _) h1 h2
        refine own_cell HO.out _ ?_ h3
        have h4 := (List.getElem?_eq_some_iff.1 h3).1
        have h5 := HO.out.1
        omega
    · have hcast : (((i + 1 : Nat) : Int) - 1) = (i : Int) := by omega
      rw [hcast]
      clear hcast
      have hi2 : (0 : Int) ≤ (i : Int) := by omega
      go_wp2_with fail
      go_loopw [9] (fun v9 wr => ∃ q : Nat, q ≤ lb.length + 1 ∧ v9 = .int .i64 ((q : Int) - 1) ∧ NeedRel w w.heap.size Bc (la.map Ld.df) (lb.map Ld.df) NN (i + 1) q wr) (fun v9 _ => (intOf v9 + 1).toNat)
      case atStart => exact ⟨lb.length + 1, by omega, by go_num, xs, HO, HTB2, HKC, HKW, HB⟩
      case round =>
        clear HO HTB2 HKC HKW HB xs
        obtain ⟨q, hq, rfl, xs, HO, HTB2, HKC, HKW, HB⟩ := hrel
        rcases q with _ | j
        · as_aux_lemma =>
            rw [show (((0 : Nat) : Int) - 1) = -1 from rfl]
            go_wp2_with fail
            exact ⟨⟨i, by omega, rfl, xs, HO, Lib.hid (by have h := HTB2.out.next; simpa using h), HKC, HKW, HB⟩, by simp only [intOf]; omega⟩
        · as_aux_lemma =>
            have hcast : (((j + 1 : Nat) : Int) - 1) = (j : Int) := by omega
            rw [hcast]
            clear hcast
            have hj2 : (0 : Int) ≤ (j : Int) := by omega
            have hil : i ≤ la.length := by omega
            have hjl : j ≤ lb.length := by omega
            have HXL := Lib.hid (show xs.length = NN from by have := HO.out.1; omega)
            have HSET := Lib.hid (fun (v : Int) (hv : v = (needL ((la.map Ld.df).drop i) ((lb.map Ld.df).drop j) : Nat)) => TabFrom.set HTB2.out (by simpa using hil) (by simpa using hjl) (by have h1 := HXL.out; have h2 := HNN.out; rw [List.length_map, List.length_map]; omega) hv)
            have HNA := Lib.hid (need_at (la.map Ld.df) (lb.map Ld.df) i j (by simpa using hil) (by simpa using hjl))
            have hcell : ∀ i' j', i' ≤ la.length → j' ≤ lb.length → (i + 1 ≤ i' ∨ (i' = i ∧ j + 1 ≤ j')) → wr.cell? ⟨w.heap.size + 1, i' * (lb.length + 1) + j', none⟩ = some (.int .i64 (needL ((la.map Ld.df).drop i') ((lb.map Ld.df).drop j') : Nat)) ∧ i' * (lb.length + 1) + j' < NN := fun i' j' h1 h2 h3 => by
              have h4 : xs[i' * (lb.length + 1) + j']? = some (.int .i64 (needL ((la.map Ld.df).drop i') ((lb.map Ld.df).drop j') : Nat)) := by
                rcases h3 with h3 | ⟨rfl, h3⟩
                · have := HTB2.out.1 i' j' h3 (by simpa using h1) (by simpa using h2); simpa using this
                · have := HTB2.out.2 i' j' rfl h3 (by simpa using h2); simpa using this
              have h5 := (List.getElem?_eq_some_iff.1 h4).1
              have h6 := HXL.out
              exact ⟨own_cell HO.out _ (by omega) h4, by omega⟩
            have HCE := Lib.hid hcell; clear hcell
            have hP : (i : Int) * ((lb.length : Int) + 1) = ((i * (lb.length + 1) : Nat) : Int) := by simp
            have hPN : i * (lb.length + 1) + j < NN := by
              have h1 : i * (lb.length + 1) ≤ la.length * (lb.length + 1) := Nat.mul_le_mul_right _ hil
              have h2 := HNN.out
              rw [Nat.add_mul] at h2; omega
            have HPE := Lib.hid hP; clear hP
            have HKW' := Lib.hid (show wr.heap[w.heap.size]? = some (.cells #[.int .i64 ((lb.length : Int) + 1)] 3 (0, 0)) by have h := HKW.out; simpa using h)
            obtain ⟨p1, _⟩ := blk1 HKC.out
            obtain ⟨p2, _⟩ := blk1 HKW'.out
            obtain ⟨u0, hu0⟩ : ∃ u, wr.cell? ⟨w.heap.size + 1, i * (lb.length + 1) + j, none⟩ = some u := ⟨_, own_cell HO.out _ hPN (List.getElem?_eq_getElem (by have := HXL.out; omega))⟩
            have hf0 := World.ownsRow.frozenAt HO.out (i * (lb.length + 1) + j)
            have hBH := hBcH.out
            by_cases hin : i = la.length
            · have HV := Lib.hid (show (lb.length : Int) - (j : Int) = (needL ((la.map Ld.df).drop i) ((lb.map Ld.df).drop j) : Nat) by
                rw [HNA.out, if_pos (by simpa using hin)]; simp; omega)
              have e1 : ((i : Int) == (la.length : Int)) = true := by simp [hin]
              generalize hPP : i * (lb.length + 1) = P at *
              have HPP := Lib.hid hPP
              have hmulP := HPE.out
              clear hPP hin
              go_wp2_with fail
              exact ⟨⟨j, by omega, rfl, _, Lib.hid (World.ownsRow.stored HO.out _ _).1, Lib.hid (by have h := HSET.out ((lb.length : Int) - (j : Int)) HV.out; simp only [List.length_map, HPP.out] at h; exact h), Lib.hid ((Below.heap_setCell _ _ _ _ (by show Bc ≠ w.heap.size + 1; omega)).trans HKC.out), Lib.hid ((Below.heap_setCell _ _ _ _ (by show w.heap.size ≠ w.heap.size + 1; omega)).trans HKW.out), Lib.hid (HB.out.setCell (p := ⟨w.heap.size + 1, P + j, none⟩) (by simp) _)⟩, by simp only [intOf]; omega⟩
            · have e1 : ((i : Int) == (la.length : Int)) = false := by simp; omega
              by_cases hjn : j = lb.length
              · have HV := Lib.hid (show (la.length : Int) - (i : Int) = (needL ((la.map Ld.df).drop i) ((lb.map Ld.df).drop j) : Nat) by
                  rw [HNA.out, if_neg (by simpa using hin), if_pos (by simpa using hjn)]; simp; omega)
                have e2 : ((j : Int) == (lb.length : Int)) = true := by simp [hjn]
                generalize hPP : i * (lb.length + 1) = P at *
                have HPP := Lib.hid hPP
                have hmulP := HPE.out
                clear hPP hjn
                go_wp2_with fail
                exact ⟨⟨j, by omega, rfl, _, Lib.hid (World.ownsRow.stored HO.out _ _).1, Lib.hid (by have h := HSET.out ((la.length : Int) - (i : Int)) HV.out; simp only [List.length_map, HPP.out] at h; exact h), Lib.hid ((Below.heap_setCell _ _ _ _ (by show Bc ≠ w.heap.size + 1; omega)).trans HKC.out), Lib.hid ((Below.heap_setCell _ _ _ _ (by show w.heap.size ≠ w.heap.size + 1; omega)).trans HKW.out), Lib.hid (HB.out.setCell (p := ⟨w.heap.size + 1, P + j, none⟩) (by simp) _)⟩, by simp only [intOf]; omega⟩
              · have e2 : ((j : Int) == (lb.length : Int)) = false := by simp; omega
                have hil2 : i < la.length := by omega
                have hjl2 : j < lb.length := by omega
                have i1 : (i : Int) < (la.length : Int) := by omega
                have i2 : (j : Int) < (lb.length : Int) := by omega
                obtain ⟨ab, ao, rfl, _, _, x0, x1, x2⟩ := dfRow (HTA.out.agree (below_all HB.out)) i hil2
                obtain ⟨bb, bo, rfl, _, _, y0, y1, y2⟩ := dfRow (HTB.out.agree (below_all HB.out)) j hjl2
                have HIA := Lib.hid ((HTA.out.agree (below_all HB.out)).sub i hil2)
                have HIB := Lib.hid ((HTB.out.agree (below_all HB.out)).sub j hjl2)
                have HCW := Lib.hid (HC.out.below HB.out)
                have HM1 := Lib.hid (HMA.out la[i] (List.getElem_mem hil2)); have HM2 := Lib.hid (HMB.out lb[j] (List.getElem_mem hjl2))
                have HSB := Lib.hid (show ∀ w', Below wr.heap.size wr w' → (w'.cell? ⟨ab, ao + i * 3, none⟩ = some (.string la[i].name) ∧ w'.cell? ⟨ab, ao + i * 3 + 1, none⟩ = some (.slice la[i].t.A la[i].t.ls.length la[i].t.c) ∧ w'.cell? ⟨ab, ao + i * 3 + 2, none⟩ = some (.int .i64 la[i].t.root)) ∧ w'.cell? ⟨bb, bo + j * 3, none⟩ = some (.string lb[j].name) ∧ w'.cell? ⟨bb, bo + j * 3 + 1, none⟩ = some (.slice lb[j].t.A lb[j].t.ls.length lb[j].t.c) ∧ w'.cell? ⟨bb, bo + j * 3 + 2, none⟩ = some (.int .i64 lb[j].t.root) from fun w' hb =>
                  ⟨⟨(hb.cell (cellLt x0)).trans x0, (hb.cell (cellLt x1)).trans x1, (hb.cell (cellLt x2)).trans x2⟩, (hb.cell (cellLt y0)).trans y0, (hb.cell (cellLt y1)).trans y1, (hb.cell (cellLt y2)).trans y2⟩)
                clear x0 x1 x2 y0 y1 y2 p1 p2 hu0 hf0
                go_wp2_with fail
                go_region_held3 (fun w' => (w'.cell? ⟨ab, ao + i * 3, none⟩ = some (.string la[i].name) ∧ w'.cell? ⟨ab, ao + i * 3 + 1, none⟩ = some (.slice la[i].t.A la[i].t.ls.length la[i].t.c) ∧ w'.cell? ⟨ab, ao + i * 3 + 2, none⟩ = some (.int .i64 la[i].t.root)) ∧ w'.cell? ⟨bb, bo + j * 3, none⟩ = some (.string lb[j].name) ∧ w'.cell? ⟨bb, bo + j * 3 + 1, none⟩ = some (.slice lb[j].t.A lb[j].t.ls.length lb[j].t.c) ∧ w'.cell? ⟨bb, bo + j * 3 + 2, none⟩ = some (.int .i64 lb[j].t.root))
                  (first | exact HSB.out _ (Below.refl _ _).drew | exact HSB.out _ HB3.out)
                  (((go_at_call 77; (with_reducible refine (dsame_any la[i] lb[j] S T _ (dfL.agree HIA.out (drew_agree _ _)) (dfL.agree HIB.out (drew_agree _ _)) HM1.out HM2.out (HCW.out.below (Below.refl _ _).drew)).mono ?_)); rintro e w3 ⟨rfl, hb3⟩; have HB3 := Lib.hid (show Below wr.heap.size wr w3 from (Below.refl _ wr).drew.trans hb3); clear hb3))
                have HO3 := Lib.hid (own_below HO.out HB3.out)
                have HKC3 := Lib.hid (bx_kept HB3.out HKC.out)
                have HKW3 := Lib.hid (bx_kept HB3.out HKW.out)
                have HKW4 := Lib.hid (bx_kept HB3.out HKW'.out)
                have HCE3 := Lib.hid (show ∀ i' j', i' ≤ la.length → j' ≤ lb.length → (i + 1 ≤ i' ∨ (i' = i ∧ j + 1 ≤ j')) → w3.cell? ⟨w.heap.size + 1, i' * (lb.length + 1) + j', none⟩ = some (.int .i64 (needL ((la.map Ld.df).drop i') ((lb.map Ld.df).drop j') : Nat)) ∧ i' * (lb.length + 1) + j' < NN from fun i' j' h1 h2 h3 => by
                  have h := HCE.out i' j' h1 h2 h3
                  exact ⟨(HB3.out.cell (cellLt h.1)).trans h.1, h.2⟩)
                have HASK := Lib.hid (show ∀ i' j', i' ≤ la.length → j' ≤ lb.length → (i + 1 ≤ i' ∨ (i' = i ∧ j + 1 ≤ j')) → Calls Tryz.prog 117 #[.int .i64 (i' : Int), .int .i64 (j' : Int), .pointer (some ⟨Bc, 0, none⟩), .pointer (some ⟨w.heap.size, 0, none⟩)] w3 fun e w' => e = .returned (.int .i64 (needL ((la.map Ld.df).drop i') ((lb.map Ld.df).drop j') : Nat)) ∧ w3 = w' from fun i' j' h1 h2 h3 =>
                  ask_any i' j' (lb.length + 1) NN (w.heap.size + 1) Bc w.heap.size _ w3 HKC3.out (by have h := HKW4.out; simpa using h) (HCE3.out i' j' h1 h2 h3).1 (HCE3.out i' j' h1 h2 h3).2 (by omega))
                have ha1 := HASK.out (i + 1) (j + 1) (by omega) (by omega) (Or.inl (Nat.le_refl _))
                have ha2 := HASK.out (i + 1) j (by omega) (by omega) (Or.inl (Nat.le_refl _))
                have ha3 := HASK.out i (j + 1) (by omega) (by omega) (Or.inr ⟨rfl, Nat.le_refl _⟩)
                have hn1 : needL ((la.map Ld.df).drop (i + 1)) ((lb.map Ld.df).drop (j + 1)) ≤ 300000 := by
                  have := need_le ((la.map Ld.df).drop (i + 1)) ((lb.map Ld.df).drop (j + 1)); simp only [List.length_drop, List.length_map] at this; omega
                have hn2 : needL ((la.map Ld.df).drop (i + 1)) ((lb.map Ld.df).drop j) ≤ 300000 := by
                  have := need_le ((la.map Ld.df).drop (i + 1)) ((lb.map Ld.df).drop j); simp only [List.length_drop, List.length_map] at this; omega
                have hn3 : needL ((la.map Ld.df).drop i) ((lb.map Ld.df).drop (j + 1)) ≤ 300000 := by
                  have := need_le ((la.map Ld.df).drop i) ((lb.map Ld.df).drop (j + 1)); simp only [List.length_drop, List.length_map] at this; omega
                have HNB := Lib.hid HNA.out
                rw [if_neg (by simpa using hin), if_neg (by simpa using hjn), show (la.map Ld.df).getD i ⟨⟨#[]⟩, ⟨[], 0⟩⟩ = la[i].df by simp [List.getD, hil2], show (lb.map Ld.df).getD j ⟨⟨#[]⟩, ⟨[], 0⟩⟩ = lb[j].df by simp [List.getD, hjl2]] at HNB
                generalize needL ((la.map Ld.df).drop (i + 1)) ((lb.map Ld.df).drop (j + 1)) = z1 at *
                generalize needL ((la.map Ld.df).drop (i + 1)) ((lb.map Ld.df).drop j) = z2 at *
                generalize needL ((la.map Ld.df).drop i) ((lb.map Ld.df).drop (j + 1)) = z3 at *
                have HA1 := Lib.hid ha1; have HA2 := Lib.hid ha2; have HA3 := Lib.hid ha3
                clear ha1 ha2 ha3
                simp only [Int.natCast_add, Int.natCast_one] at HA1 HA2 HA3
                obtain ⟨p1, _⟩ := blk1 HKC3.out
                obtain ⟨p2, _⟩ := blk1 HKW4.out
                obtain ⟨u0, hu0⟩ : ∃ u, w3.cell? ⟨w.heap.size + 1, i * (lb.length + 1) + j, none⟩ = some u := ⟨_, own_cell HO3.out _ hPN (List.getElem?_eq_getElem (by have := HXL.out; omega))⟩
                have hf0 := World.ownsRow.frozenAt HO3.out (i * (lb.length + 1) + j)
                generalize hPP : i * (lb.length + 1) = P at *
                have HPP := Lib.hid hPP
                have hmulP := HPE.out
                clear hPP hin hjn
                cases hsd : sameD la[i].df lb[j].df
                · have HV := Lib.hid (show 1 + min (z2 : Int) (z3 : Int) = (needL ((la.map Ld.df).drop i) ((lb.map Ld.df).drop j) : Nat) by
                    have h := HNB.out; rw [hsd] at h; rw [h]; simp; omega)
                  go_wp2_with (go_at_call 117; first | ((with_reducible refine (HA2.out).mono ?_); rintro e w' ⟨rfl, rfl⟩) | ((with_reducible refine (HA3.out).mono ?_); rintro e w' ⟨rfl, rfl⟩))
                  all_goals
                    exact ⟨⟨j, by omega, rfl, _, Lib.hid (World.ownsRow.stored HO3.out _ _).1, Lib.hid (by have h := HSET.out _ HV.out; simp only [List.length_map, HPP.out] at h; exact h), Lib.hid ((Below.heap_setCell _ _ _ _ (by show Bc ≠ w.heap.size + 1; omega)).trans HKC3.out), Lib.hid ((Below.heap_setCell _ _ _ _ (by show w.heap.size ≠ w.heap.size + 1; omega)).trans HKW3.out), Lib.hid ((Below.step HB.out HB3.out).setCell (p := ⟨w.heap.size + 1, P + j, none⟩) (by simp) _)⟩, by simp only [intOf]; omega⟩
                · have HV := Lib.hid (show (z1 : Int) = (needL ((la.map Ld.df).drop i) ((lb.map Ld.df).drop j) : Nat) by
                    have h := HNB.out; rw [hsd] at h; rw [h]; simp)
                  go_wp2_with (go_at_call 117; refine (HA1.out).mono ?_; rintro e w' ⟨rfl, rfl⟩)
                  exact ⟨⟨j, by omega, rfl, _, Lib.hid (World.ownsRow.stored HO3.out _ _).1, Lib.hid (by have h := HSET.out ((z1 : Nat) : Int) HV.out; simp only [List.length_map, HPP.out] at h; exact h), Lib.hid ((Below.heap_setCell _ _ _ _ (by show Bc ≠ w.heap.size + 1; omega)).trans HKC3.out), Lib.hid ((Below.heap_setCell _ _ _ _ (by show w.heap.size ≠ w.heap.size + 1; omega)).trans HKW3.out), Lib.hid ((Below.step HB.out HB3.out).setCell (p := ⟨w.heap.size + 1, P + j, none⟩) (by simp) _)⟩, by simp only [intOf]; omega⟩
end Go.Proofs.YtmjkgnknfgoadaaGreatDoor
/- The contracts of diff.May and diff.Count. -/
namespace Go.Proofs.YtmjkgnknfgoadaaGreatDoor
open Go.RowKit
set_option linter.unusedSimpArgs false
set_option linter.unusedVariables false
def Le.ed (e : Le) : Ed := ⟨e.kind, e.d.df⟩
set_option maxRecDepth 100000 in
set_option maxHeartbeats 1600000 in
theorem emay_any (e : Le) (w : World) (hk : 0 ≤ e.kind ∧ e.kind ≤ 255) :
    Calls Tryz.prog 116 #[.agg #[.int .u8 e.kind, .string e.d.name, .slice e.d.t.A e.d.t.ls.length e.d.t.c, .int .i64 e.d.t.root]] w fun en w' => en = .returned (.bool (mayE e.ed)) ∧ Below w.heap.size w w' := by
  obtain ⟨k, ⟨n, ⟨A, c, ls, r⟩⟩⟩ := e
  simp only at hk ⊢
  by_cases h2 : k = 2
  · subst h2
    go_enter Tryz.func116, Tryz.ntmps116
    go_wp2_with fail
    go_ret
    exact ⟨ret_bool (by simp [mayE, Le.ed]), bx1 w _⟩
  · have e2 : (k == 2) = false := by simpa using h2
    by_cases h3 : k < 3
    · have h01 : k = 0 ∨ k = 1 := by omega
      rcases Nat.lt_or_ge 0 n.size with h0 | h0
      · have ⟨e3, e4⟩ := bytes_ne n h0
        have HX := Lib.hid (show mayE (Le.ed ⟨k, n, A, c, ls, r⟩) = false from (by
          have hn : ¬ n.size = 0 := by omega
          show (decide (k = 2) || decide ((k = 0 ∨ k = 1) ∧ n.size = 0 ∧ _)) = false
          rw [decide_eq_false h2, Bool.false_or]
          exact decide_eq_false (fun h => hn h.2.1)))
        clear h01 h2
        go_enter Tryz.func116, Tryz.ntmps116
        go_wp2_with fail
        go_ret
        exact ⟨ret_bool HX.out.symm, bx1 w _⟩
      · have ⟨e3, e4, e5⟩ := bytes_none n (by omega)
        have hn0 : n = ByteArray.empty := str_ext (by rw [e5]; rfl)
        have HX := Lib.hid (show mayE (Le.ed ⟨k, n, A, c, ls, r⟩) = (decide (ls.length = 0) && decide (r = 0)) by
          have : k = 0 ∨ k = 1 := h01
          rw [Bool.eq_iff_iff]
          simp [mayE, Le.ed, Ld.df, Lt.tr, h2, hn0]
          intro _ _; exact h01)
        clear e5 hn0 h01 h2
        by_cases hl : ls.length = 0
        · have e6 : ((ls.length : Int) == 0) = true := by simp [hl]
          by_cases hr : r = 0
          · have e7 : (r == 0) = true := by simp [hr]
            have HY := Lib.hid (HX.out.trans (show _ = true by rw [decide_eq_true hl, decide_eq_true hr]; rfl))
            clear hl hr
            go_enter Tryz.func116, Tryz.ntmps116
            go_wp2_with fail
            go_ret
            exact ⟨ret_bool HY.out.symm, bx1 w _⟩
          · have e7 : (r == 0) = false := by simpa using hr
            have HY := Lib.hid (HX.out.trans (show _ = false by rw [decide_eq_false hr, Bool.and_false]))
            clear hl hr
            go_enter Tryz.func116, Tryz.ntmps116
            go_wp2_with fail
            go_ret
            exact ⟨ret_bool HY.out.symm, bx1 w _⟩
        · have e6 : ((ls.length : Int) == 0) = false := by rw [beq_eq_false_iff_ne]; omega
          have HY := Lib.hid (HX.out.trans (show _ = false by rw [decide_eq_false hl, Bool.false_and]))
          clear hl
          go_enter Tryz.func116, Tryz.ntmps116
          go_wp2_with fail
          go_ret
          exact ⟨ret_bool HY.out.symm, bx1 w _⟩
    · have HX := Lib.hid (show mayE (Le.ed ⟨k, n, A, c, ls, r⟩) = false by simp [mayE, Le.ed, h2]; omega)
      clear h2
      go_enter Tryz.func116, Tryz.ntmps116
      go_wp2_with fail
      go_ret
      exact ⟨ret_bool HX.out.symm, bx1 w _⟩
set_option maxRecDepth 100000 in
set_option maxHeartbeats 1600000 in
theorem ecount_any (es : List Le) (A : Option Addr) (c : Nat) (S : Nat → Prop) (w : World) (hA : edL.row w S A es) (hl : es.length ≤ 4294967296) :
    Calls Tryz.prog 25 #[.slice A es.length c] w fun en w' => en = .returned (.tuple #[.int .i64 (countK 0 (es.map Le.ed) : Nat), .int .i64 (countK 1 (es.map Le.ed) : Nat), .int .i64 (countK 2 (es.map Le.ed) : Nat)]) ∧ Below w.heap.size w w' := by
  have HA := Lib.hid hA; clear hA
  have hcb : ∀ (k : Int) (l : List Ed), countK k l ≤ l.length := fun k l => List.countP_le_length
  have hcs : ∀ (k : Int) (i : Nat) (hi : i < es.length), countK k ((es.map Le.ed).take (i + 1)) = countK k ((es.map Le.ed).take i) + if es[i].kind = k then 1 else 0 := fun k i hi => by
    rw [List.take_succ_eq_append_getElem (by simpa using hi)]
    simp [countK, List.countP_append, List.countP_cons, Le.ed]
  have HCB := Lib.hid hcb; have HCS := Lib.hid hcs; clear hcb hcs
  go_enter Tryz.func25, Tryz.ntmps25
  go_wp2_with fail
  go_loopw [9, 2, 3, 4] (fun i x y z wr => ∃ k : Nat, k ≤ es.length ∧ i = .int .i64 k ∧ x = .int .i64 (countK 0 ((es.map Le.ed).take k) : Nat) ∧ y = .int .i64 (countK 1 ((es.map Le.ed).take k) : Nat) ∧ z = .int .i64 (countK 2 ((es.map Le.ed).take k) : Nat) ∧ Hid (Below w.heap.size w wr)) (fun i _ _ _ _ => es.length - (intOf i).toNat)
  case atStart => exact ⟨0, by omega, rfl, rfl, rfl, rfl, Lib.hid (Below.refl _ _)⟩
  case round =>
    obtain ⟨k, hk, rfl, rfl, rfl, rfl, HB⟩ := hrel
    have b0 := HCB.out 0 ((es.map Le.ed).take k); have b1 := HCB.out 1 ((es.map Le.ed).take k); have b2 := HCB.out 2 ((es.map Le.ed).take k)
    simp only [List.length_take, List.length_map] at b0 b1 b2
    by_cases hlt : k < es.length
    · obtain ⟨b, o, rfl, _, _, x0, x1, x2, x3⟩ := edRow (HA.out.agree (below_all HB.out)) k hlt
      have i1 : (k : Int) < (es.length : Int) := by omega
      have HN := Lib.hid (And.intro (HCS.out 0 k hlt) (And.intro (HCS.out 1 k hlt) (HCS.out 2 k hlt)))
      have HKD := Lib.hid (HA.out.sub k hlt).1
      generalize countK 0 ((es.map Le.ed).take k) = n0 at *
      generalize countK 1 ((es.map Le.ed).take k) = n1 at *
      generalize countK 2 ((es.map Le.ed).take k) = n2 at *
      have hn : n0 ≤ 4294967296 ∧ n1 ≤ 4294967296 ∧ n2 ≤ 4294967296 := by omega
      obtain ⟨hn0, hn1, hn2⟩ := hn
      generalize es[k].kind = kk at *
      by_cases h0 : kk = 0
      · subst h0
        go_wp2_with fail
        exact ⟨⟨k + 1, by omega, by go_num, by rw [HN.out.1]; go_num, by rw [HN.out.2.1]; rfl, by rw [HN.out.2.2]; rfl, Lib.hid (Below.step HB.out (bx1 wr _))⟩, by simp only [intOf]; omega⟩
      · by_cases h1 : kk = 1
        · subst h1
          go_wp2_with fail
          exact ⟨⟨k + 1, by omega, by go_num, by rw [HN.out.1]; rfl, by rw [HN.out.2.1]; go_num, by rw [HN.out.2.2]; rfl, Lib.hid (Below.step HB.out (bx1 wr _))⟩, by simp only [intOf]; omega⟩
        · by_cases h2 : kk = 2
          · subst h2
            go_wp2_with fail
            exact ⟨⟨k + 1, by omega, by go_num, by rw [HN.out.1]; rfl, by rw [HN.out.2.1]; rfl, by rw [HN.out.2.2]; go_num, Lib.hid (Below.step HB.out (bx1 wr _))⟩, by simp only [intOf]; omega⟩
          · have e0 : (kk == 0) = false := by simpa using h0
            have e1 : (kk == 1) = false := by simpa using h1
            have e2 : (kk == 2) = false := by simpa using h2
            go_wp2_with fail
            exact ⟨⟨k + 1, by omega, by go_num, by rw [HN.out.1, if_neg h0]; rfl, by rw [HN.out.2.1, if_neg h1]; rfl, by rw [HN.out.2.2, if_neg h2]; rfl, Lib.hid (Below.step HB.out (bx1 wr _))⟩, by simp only [intOf]; omega⟩
    · have HE := Lib.hid (show (es.map Le.ed).take k = es.map Le.ed from List.take_of_length_le (by simp; omega))
      go_wp2_with fail
      go_ret3
      exact ⟨by rw [HE.out]; rfl, HB.out⟩
end Go.Proofs.YtmjkgnknfgoadaaGreatDoor
