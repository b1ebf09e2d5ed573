/- The walk of DiffBack: it returns true. -/
import Derived.Test.YtbfjanfhgpgmdaaDoorEe
import Derived.Test.YtbfjanfhgpgmdaaDoorEh
namespace Go.Proofs.YtbfjanfhgpgmdaaDoor
open Go.RowKit
set_option linter.unusedSimpArgs false
set_option linter.unusedVariables false

/-! ### plain laws -/
theorem of_head {x y : List Df} {e : Ed} {l : List Ed} (h : ofL x y = e :: l) :
    (e.kind = 0 ∧ ∃ a x' b y', x = a :: x' ∧ y = b :: y' ∧ l = ofL x' y' ∧ mergeL x y = a :: mergeL x' y') ∨ (e.kind = 1 ∧ ∃ a x', x = a :: x' ∧ l = ofL x' y ∧ mergeL x y = mergeL x' y) ∨ (e.kind = 2 ∧ ∃ b y', y = b :: y' ∧ l = ofL x y' ∧ mergeL x y = b :: mergeL x y') := by
  cases x with
  | nil =>
    cases y with
    | nil => rw [ofL] at h; cases h
    | cons b y =>
      rw [ofL] at h; cases h
      exact .inr (.inr ⟨rfl, b, y, rfl, rfl, by rw [mergeL]⟩)
  | cons a x =>
    cases y with
    | nil =>
      rw [ofL] at h; cases h
      exact .inr (.inl ⟨rfl, a, x, rfl, rfl, by rw [mergeL]⟩)
    | cons b y =>
      rw [ofL] at h
      split at h
      · rename_i hs; cases h
        exact .inl ⟨rfl, a, x, b, y, rfl, rfl, rfl, by rw [mergeL, if_pos hs]⟩
      · rename_i hs
        split at h
        · rename_i hn; cases h
          exact .inr (.inl ⟨rfl, a, x, rfl, rfl, by rw [mergeL, if_neg hs, if_pos hn]⟩)
        · rename_i hn; cases h
          exact .inr (.inr ⟨rfl, b, y, rfl, rfl, by rw [mergeL, if_neg hs, if_neg hn]⟩)
theorem of_nil {x y : List Df} (h : ofL x y = []) : mergeL x y = [] := by
  cases x with
  | nil =>
    cases y with
    | nil => rw [mergeL]
    | cons b y => rw [ofL] at h; cases h
  | cons a x =>
    cases y with
    | nil => rw [ofL] at h; cases h
    | cons b y =>
      rw [ofL] at h
      split at h
      · cases h
      · split at h <;> cases h
theorem drop_cons {α : Type} {l r : List α} {p : Nat} {a : α} (h : l.drop p = a :: r) : ∃ hp : p < l.length, l[p] = a ∧ l.drop (p + 1) = r := by
  have hp : p < l.length := by
    rcases Nat.lt_or_ge p l.length with h1 | h1
    · exact h1
    · rw [List.drop_of_length_le h1] at h; cases h
  rw [List.drop_eq_getElem_cons hp] at h
  cases h
  exact ⟨hp, rfl, rfl⟩
theorem of_all (P : Df → Prop) (h0 : P ⟨⟨#[]⟩, ⟨[], 0⟩⟩) (n : Nat) : ∀ a b : List Df, a.length + b.length ≤ n → (∀ y ∈ b, P y) → ∀ e ∈ ofL a b, P e.d := by
  induction n with
  | zero =>
    intro a b h hb e he
    obtain rfl : a = [] := List.eq_nil_of_length_eq_zero (by omega)
    obtain rfl : b = [] := List.eq_nil_of_length_eq_zero (by omega)
    rw [ofL] at he; simp at he
  | succ n ih =>
    intro a b h hb e he
    cases a with
    | nil =>
      cases b with
      | nil => rw [ofL] at he; simp at he
      | cons y b =>
        rw [ofL, List.mem_cons] at he
        rcases he with rfl | he
        · exact hb y List.mem_cons_self
        · exact ih [] b (by simp only [List.length_cons] at h; omega) (fun z hz => hb z (List.mem_cons_of_mem _ hz)) e he
    | cons x a =>
      cases b with
      | nil =>
        rw [ofL, List.mem_cons] at he
        rcases he with rfl | he
        · exact h0
        · exact ih a [] (by simp only [List.length_cons] at h; omega) (by simp) e he
      | cons y b =>
        have hb' : ∀ z ∈ b, P z := fun z hz => hb z (List.mem_cons_of_mem _ hz)
        rw [ofL] at he
        split at he
        · rcases List.mem_cons.1 he with rfl | he
          · exact h0
          · exact ih a b (by simp only [List.length_cons] at h; omega) hb' e he
        · split at he
          · rcases List.mem_cons.1 he with rfl | he
            · exact h0
            · exact ih a (y :: b) (by simp only [List.length_cons] at h ⊢; omega) hb e he
          · rcases List.mem_cons.1 he with rfl | he
            · exact hb y List.mem_cons_self
            · exact ih (x :: a) b (by simp only [List.length_cons] at h ⊢; omega) hb' e he
def BackRel (w w6 : World) (H Hw : Nat) (S T : Nat → Prop) (A B : Option Addr) (c d : Nat) (la lb : List Ld) (es : List Le) (X : Obj) (i p q : Value) (wr : World) : Prop :=
  ∃ (i' p' q' n : Nat) (V : Option Addr) (vc : Nat), i' ≤ es.length ∧ n ≤ i' ∧ p' ≤ la.length ∧ q' ≤ lb.length ∧ i = .int .i64 i' ∧ p = .int .i64 p' ∧ q = .int .i64 q' ∧
    Hid (∃ made : List Ld, made.length = n ∧ (es.map Le.ed).drop i' = ofL ((la.map Ld.df).drop p') ((lb.map Ld.df).drop q') ∧ made.map Ld.df ++ mergeL ((la.map Ld.df).drop p') ((lb.map Ld.df).drop q') = mergeL (la.map Ld.df) (lb.map Ld.df) ∧
      (∀ d ∈ made, dfL.inn w S d ∨ dfL.inn w T d) ∧ wr.ownsRow (Hw + 1) 36 3 (.slice V n vc) n (dfL.all made)) ∧
    Hid (wr.heap[Hw]? = some (.cells #[.slice V n vc] 24 (0, 0))) ∧ Hid (wr.heap[H]? = some (.cells #[.slice A la.length c] 24 (0, 0))) ∧ Hid (wr.heap[H + 1]? = some (.cells #[.slice B lb.length d] 24 (0, 0))) ∧
    Hid (Below w6.heap.size w6 wr) ∧ Hid (Hw + 1 ≤ wr.heap.size)

set_option maxRecDepth 100000 in
set_option maxHeartbeats 12800000 in
theorem back_walk (A B : Option Addr) (c d : Nat) (la lb : List Ld) (S T : Nat → Prop) (w : World) (hA : dfL.row w S A la) (hB : dfL.row w T B lb) (hl : la.length ≤ 281474976710656) (hl2 : lb.length ≤ 281474976710656) (hc : la.length ≤ c ∧ c ≤ 9223372036854775807) (ht : CntTab w) :
    Calls Tryd.prog 3 #[.agg #[.slice A la.length c], .agg #[.slice B lb.length d]] w fun e w' => e = .returned (.bool true) ∧ Below w.heap.size w w' := by
  obtain ⟨j0, hj, hy0, hy1, hy2⟩ := info_parts infoDef
  have hzc : (Value.agg #[.string ByteArray.empty, .slice none 0 0, .int .i64 0]).cells.size = 3 := rfl
  have HA := Lib.hid hA; have HB := Lib.hid hB; have HT := Lib.hid ht; have HC := Lib.hid hc
  clear hA hB ht hc
  have HGR := Lib.hid (show grL.row (((w.alloc (.cells #[.slice A la.length c] 24)).alloc (.cells #[.slice B lb.length d] 24)).alloc (.cells #[.slice A la.length c, .slice B lb.length d] 24)) (fun _ => True) (some ⟨w.heap.size + 1 + 1, 0, none⟩) [⟨A, c, la⟩, ⟨B, d, lb⟩] from by
    refine ⟨⟨?_, fun _ _ _ => trivial⟩, fun g hg => ?_⟩
    · have h := bx_new ((w.alloc (.cells #[.slice A la.length c] 24)).alloc (.cells #[.slice B lb.length d] 24)) (.cells #[.slice A la.length c, .slice B lb.length d] 24)
      rw [World.size_alloc, World.size_alloc] at h
      have h2 := row_blk (cs := [.slice A la.length c, .slice B lb.length d]) h
      have e : grL.all [⟨A, c, la⟩, ⟨B, d, lb⟩] = [.slice A la.length c, .slice B lb.length d] := rfl
      rw [e]; exact h2
    · simp only [List.mem_cons, List.not_mem_nil, or_false] at hg
      rcases hg with rfl | rfl
      · exact ⟨hl, (HA.out.below (bx3 w _ _ _)).mono (fun _ _ _ => trivial)⟩
      · exact ⟨hl2, (HB.out.below (bx3 w _ _ _)).mono (fun _ _ _ => trivial)⟩)
  go_enter Tryd.func3, Tryd.ntmps3
  go_wp2_with fail
  refine (large_any [⟨A, c, la⟩, ⟨B, d, lb⟩] (some ⟨w.heap.size + 1 + 1, 0, none⟩) 2 (fun _ => True) _ HGR.out (by simp)).mono ?_
  rintro e w1 ⟨r, rfl, hr1, hb1⟩
  have HB1 := Lib.hid (Below.step (bx3 w _ _ _) hb1)
  have HK1 := Lib.hid (show w1.heap[w.heap.size]? = some (.cells #[.slice A la.length c] 24 (0, 0)) ∧ w1.heap[w.heap.size + 1]? = some (.cells #[.slice B lb.length d] 24 (0, 0)) from bx2_kept (Below.trans (bx1 _ _) (hb1.mono (by simp))))
  clear hb1 HGR
  cases r
  · have HS1 := Lib.hid (show SmallG la ∧ SmallG lb from ⟨hr1 rfl ⟨A, c, la⟩ (by simp), hr1 rfl ⟨B, d, lb⟩ (by simp)⟩)
    clear hr1
    have hs1 := HS1.out.1.1; have hs2 := HS1.out.2.1
    go_wp2_with (go_at_call 10; refine (awake_any _ (HT.out.below HB1.out)).mono ?_; rintro e w2 ⟨rfl, hb2⟩; have HK2 := Lib.hid (And.intro (bx_kept hb2 HK1.out.1) (bx_kept hb2 HK1.out.2)); have HB2 := Lib.hid (Below.step HB1.out hb2); obtain ⟨p1, _⟩ := blk1 HK2.out.1; obtain ⟨q1, _⟩ := blk1 HK2.out.2; clear hb2)
    refine (of_any la lb A B c d S T w2 (HA.out.below HB2.out) (HB.out.below HB2.out) (by omega) (by omega) (fun x hx => ((HS1.out.1.2 x hx).mod).1) (fun x hx => (HS1.out.2.2 x hx).mod) (HT.out.below HB2.out)).mono ?_
    rintro e w3 ⟨V3, c3, es, rfl, hes, heo, hb3⟩
    have HES := Lib.hid hes; have HER := Lib.hid heo.inn; have HB3 := Lib.hid (Below.step HB2.out hb3); have HK3 := Lib.hid (And.intro (bx_kept hb3 HK2.out.1) (bx_kept hb3 HK2.out.2))
    clear hes heo hb3 p1 q1 HK1 HK2 HB1 HB2
    have hel : es.length ≤ 1000 := by
      have h1 := of_counts _ (la.map Ld.df) (lb.map Ld.df) (Nat.le_refl _)
      rw [← HES.out] at h1
      simp only [List.length_map] at h1
      omega
    obtain ⟨p1, _⟩ := blk1 HK3.out.1
    have HMM := Lib.hid (show ∀ e ∈ es, DMod e.d from fun e he => SmallD.mod (DfSmall.ld (of_all DfSmall ⟨by simp, by simp⟩ _ _ _ (Nat.le_refl _) (fun y hy => by
      obtain ⟨z, hz, rfl⟩ := List.mem_map.1 hy
      exact (HS1.out.2.2 z hz).df) e.ed (by rw [← HES.out]; exact List.mem_map.2 ⟨e, he, rfl⟩))))
    go_wp2_with fail
    refine (apply_any A V3 c c3 la es S _ w3 (HA.out.below HB3.out) HER.out (by omega) HC.out (by omega) (fun x hx => (HS1.out.1.2 x hx).mod) HMM.out).mono ?_
    rintro e w4 ⟨V4, c4, d4, rfl, hd4, hgo, hb4⟩
    have hap : applyL (la.map Ld.df) (es.map Le.ed) = (mergeL (la.map Ld.df) (lb.map Ld.df), 0) := by rw [HES.out]; exact apply_of _ _ _ (Nat.le_refl _)
    rw [hap] at hd4 ⊢
    have HD4 := Lib.hid (show d4.map Ld.df = mergeL (la.map Ld.df) (lb.map Ld.df) from hd4)
    have HR4 := Lib.hid hgo.inn; have HL4 := Lib.hid hgo.len; have HB4 := Lib.hid (Below.step HB3.out hb4); have HK4 := Lib.hid (And.intro (bx_kept hb4 HK3.out.1) (bx_kept hb4 HK3.out.2)); have HE4 := Lib.hid (HER.out.below hb4)
    clear hap hd4 hgo hb4 p1 HK3 HER
    have HW := Lib.hid (bx2 w4 (.cells #[.slice V4 d4.length c4] 24) (.cells #[.slice none 0 0] 24))
    have HKX := Lib.hid (bx_old (p := .cells #[.slice none 0 0] 24) (bx_new w4 (.cells #[.slice V4 d4.length c4] 24)))
    have HKY := Lib.hid (show ((w4.alloc (.cells #[.slice V4 d4.length c4] 24)).alloc (.cells #[.slice none 0 0] 24)).heap[w4.heap.size + 1]? = some (.cells #[.slice none 0 0] 24 (0, 0)) from by have h := bx_new (w4.alloc (.cells #[.slice V4 d4.length c4] 24)) (.cells #[.slice none 0 0] 24); rw [World.size_alloc] at h; exact h)
    go_wp2_with fail
    have HZ := Lib.hid (show ((w4.alloc (.cells #[.slice V4 d4.length c4] 24)).alloc (.cells #[.slice none 0 0] 24)).heap.size = w4.heap.size + 2 from by simp)
    generalize ((w4.alloc (.cells #[.slice V4 d4.length c4] 24)).alloc (.cells #[.slice none 0 0] 24)) = w6 at *
    go_loopw [11, 9, 10] (fun i p q wr => BackRel w w4 w.heap.size (w4.heap.size + 1) S T A B c d la lb es (.cells #[.slice V4 d4.length c4] 24 (0, 0)) i p q wr ∧ Hid (wr.heap[w4.heap.size]? = some (.cells #[.slice V4 d4.length c4] 24 (0, 0)))) (fun i _ _ _ => es.length - (intOf i).toNat)
    case atStart =>
      exact ⟨⟨0, 0, 0, 0, none, 0, Nat.zero_le _, Nat.zero_le _, Nat.zero_le _, Nat.zero_le _, rfl, rfl, rfl, Lib.hid ⟨[], rfl, by simpa using HES.out, by simp, by simp, World.ownsRow_nil _ _ _ _⟩, HKY, Lib.hid (bx_kept HW.out HK4.out.1), Lib.hid (bx_kept HW.out HK4.out.2), HW, Lib.hid (by rw [HZ.out]; omega)⟩, HKX⟩
    case round =>
      clear HKX HKY HZ HW
      obtain ⟨⟨i, p, q, n, V, vc, hi, hn, hp, hq, rfl, rfl, rfl, HM, HKW, HKA, HKB, HBR, HZR⟩, HKX⟩ := hrel
      have HBW := Lib.hid (show Below w.heap.size w wr from Below.step HB4.out HBR.out)
      by_cases hlt : i < es.length
      · obtain ⟨made, rfl, hdr, hme, hmi, hown⟩ := HM.out
        clear HM
        obtain ⟨eb, eo, rfl, _, _, x0, _, _, _⟩ := edRow (HE4.out.below HBR.out) i hlt
        have i1 : (i : Int) < (es.length : Int) := by omega
        have i2 : (0 : Int) ≤ (i : Int) := by omega
        have hst : (es.map Le.ed).drop i = es[i].ed :: (es.map Le.ed).drop (i + 1) := by rw [List.drop_eq_getElem_cons (by simpa using hlt)]; simp
        have hkd : es[i].ed.kind = es[i].kind := rfl
        rw [hst] at hdr
        generalize es[i].ed = ed at *
        generalize es[i].kind = kd at *
        subst hkd
        have HME := Lib.hid hme
        clear hst hme
        rcases of_head hdr.symm with ⟨hk, ya, x', yb, y', hx, hy, hl', hmg⟩ | ⟨hk, ya, x', hx, hl', hmg⟩ | ⟨hk, yb, y', hy, hl', hmg⟩
        · obtain ⟨hpl, hpe, hpr⟩ := drop_cons hx
          obtain ⟨hql, hqe, hqr⟩ := drop_cons hy
          rw [← hpr, ← hqr] at hl' hmg
          simp only [List.getElem_map] at hpe
          rw [List.length_map] at hpl hql
          rw [hk] at x0
          clear hdr hx hy hpr hqr hqe hk
          as_aux_lemma =>
            obtain ⟨ab, ao, hAA, _, _, y0, y1, y2⟩ := dfRow (HA.out.below HBW.out) p hpl
            have HIX := Lib.hid (HA.out.sub p hpl)
            have HDX := Lib.hid hpe
            generalize la[p] = x at *
            subst hAA
            obtain ⟨a1, _⟩ := blk1 HKA.out
            obtain ⟨p1, p2⟩ := blk1 HKW.out
            have i3 : (p : Int) < (la.length : Int) := by omega
            have i4 : (0 : Int) ≤ (p : Int) := by omega
            go_upto_region 14 with (fail)
            have z1 := cellLt y0
            have HVN := Lib.hid (show ∀ y, blkOf V = some y → w4.heap.size + 1 + 1 ≤ y from fun y hy => (own_blk hown y hy).1)
            have HF := Lib.hid (show made.length + 1 ≤ maxLen ∧ (made.length + 1) * 48 ≤ 140737488355328 from ⟨by unfold maxLen; omega, by omega⟩)
            have HOW2 := Lib.hid (show (wr.drew.alloc (.cells #[.string x.name, .slice x.t.A x.t.ls.length x.t.c, .int .i64 x.t.root] 36)).ownsRow (w4.heap.size + 1 + 1) 36 3 (.slice V made.length vc) made.length (dfL.all made) from World.ownsRow.alloc (own_agree hown (fun _ _ => rfl)) _)
            have HKB2 := Lib.hid (show (wr.drew.alloc (.cells #[.string x.name, .slice x.t.A x.t.ls.length x.t.c, .int .i64 x.t.root] 36)).heap[w4.heap.size + 1]? = some (.cells #[.slice V made.length vc] 24 (0, 0)) from bx_old (w := wr.drew) (by have h := HKW.out; exact h))
            have hHw : w4.heap.size + 1 < wr.heap.size := by have := HZR.out; omega
            clear hown
            go_region_law ((refine step_append_at (by rfl) (.tmp 60) (.tmp 66) 22 (by rfl) (w4.heap.size + 1 + 1) 36 j0 (.agg #[.string ByteArray.empty, .slice none 0 0, .int .i64 0]) 3 48 Tryd.underlying22 hj hy0 hy1 hy2 hzc (by decide) V vc made.length (dfL.all made) (by rfl) HOW2.out (some ⟨wr.heap.size, 0, none⟩) 1 1 [.string x.name, .slice x.t.A x.t.ls.length x.t.c, .int .i64 x.t.root] (by rfl) rfl (row_blk (bx_new wr.drew _)) (fun u hu => by simp only [List.mem_cons, List.not_mem_nil, or_false] at hu; rcases hu with rfl | rfl | rfl <;> rfl) HF.out.1 HF.out.2 (by have := HZR.out; simp; omega) ?_; intro V' vc' w7 HO7 HG7 HA7; have HK7 := Lib.hid ((HG7.out.block (w4.heap.size + 1) (heap_lt' HKB2.out) (fun e => by have := HVN.out _ e.symm; omega)).trans HKB2.out); obtain ⟨t1, t2⟩ := blk1 HK7.out))
            all_goals
              clear p1 p2 a1 y0 y1 y2 x0
              go_wp2_with fail
              have hz := HZR.out
              have hz4 := HBR.out.size
              have ho7 := HO7.out
              rw [show dfL.all made ++ [Value.string x.name, .slice x.t.A x.t.ls.length x.t.c, .int .i64 x.t.root] = dfL.all (made ++ [x]) by rw [dfL.all_append, dfL.all_one]; rfl] at ho7
              have hkeep : ∀ y, y < wr.heap.size → y ≠ w4.heap.size + 1 → blkOf V ≠ some y → (w7.setCell ⟨w4.heap.size + 1, 0, none⟩ (.slice V' (made.length + 1) vc')).heap[y]? = wr.heap[y]? := fun y h1 h2 h3 => (Below.heap_setCell _ _ _ _ h2).trans ((HG7.out.block y (by simp; omega) (fun e => h3 e.symm)).trans (by first | exact Below.heap_alloc wr _ y h1 | exact Below.heap_alloc wr.drew _ y h1))
              have hk4 := heap_lt' HK4.out.1; have hk5 := heap_lt' HK4.out.2
              have h5 : Below w4.heap.size w4 (w7.setCell ⟨w4.heap.size + 1, 0, none⟩ (.slice V' (made.length + 1) vc')) := by
                refine Below.setCell (p := ⟨w4.heap.size + 1, 0, none⟩) ?_ (by show w4.heap.size ≤ w4.heap.size + 1; omega) _
                have h6 : Below w4.heap.size w4 (wr.alloc (.cells #[.string x.name, .slice x.t.A x.t.ls.length x.t.c, .int .i64 x.t.root] 36)) := HBR.out.trans ((bx1 wr _).mono (by omega))
                first
                  | exact (h6.drew).grown HG7.out (by simp; omega) (fun y hy => by have := HVN.out y hy; omega)
                  | exact (show Below w4.heap.size w4 (wr.drew.alloc _) from ⟨h6.1, h6.2, h6.3, h6.4, h6.5⟩).grown HG7.out (by simp; omega) (fun y hy => by have := HVN.out y hy; omega)
              have hrel' : BackRel w w4 w.heap.size (w4.heap.size + 1) S T (some ⟨ab, ao, none⟩) B c d la lb es (.cells #[.slice V4 d4.length c4] 24 (0, 0)) (.int .i64 ((i : Int) + 1)) (.int .i64 ((p : Int) + 1)) (.int .i64 ((q : Int) + 1)) (w7.setCell ⟨w4.heap.size + 1, 0, none⟩ (.slice V' (made.length + 1) vc')) := ⟨i + 1, p + 1, q + 1, made.length + 1, V', vc', by omega, by omega, by omega, by omega, by go_num, by first | rfl | go_num, by first | rfl | go_num, Lib.hid ⟨made ++ [x], by simp, hl', by rw [List.map_append, List.append_assoc, ← HME.out, hmg, ← HDX.out]; rfl, fun dd hd => by
                rcases List.mem_append.1 hd with hd | hd
                · exact hmi dd hd
                · simp only [List.mem_singleton] at hd; subst hd; exact Or.inl HIX.out, own_agree ho7 (fun y hy => Below.heap_setCell _ _ _ _ (by have := (own_blk ho7 y hy).1; show y ≠ w4.heap.size + 1; omega))⟩, Lib.hid (set_blk1 HK7.out), Lib.hid ((h5.block _ hk4).trans HK4.out.1), Lib.hid ((h5.block _ hk5).trans HK4.out.2), Lib.hid h5, Lib.hid (by have := HG7.out.size; simp at this; simp; omega)⟩
              have hkx' := Lib.hid ((hkeep w4.heap.size (by omega) (by omega) (fun e => by have := HVN.out _ e; omega)).trans HKX.out)
              refine ⟨?_, by simp only [intOf]; omega⟩
              first
                | exact ⟨hrel', hkx'⟩
                | exact ⟨_, _, _, ⟨hrel', hkx'⟩, rfl, rfl, rfl⟩
                | exact ⟨_, _, ⟨hrel', hkx'⟩, rfl, rfl⟩
        · obtain ⟨hpl, hpe, hpr⟩ := drop_cons hx
          rw [← hpr] at hl' hmg
          rw [List.length_map] at hpl
          rw [hk] at x0
          clear hdr hx hpr hk hpe
          as_aux_lemma =>
            go_wp2_with fail
            exact ⟨⟨⟨i + 1, p + 1, q, made.length, V, vc, by omega, by omega, by omega, hq, by go_num, by go_num, rfl, Lib.hid ⟨made, rfl, hl', by rw [← hmg]; exact HME.out, hmi, hown⟩, HKW, HKA, HKB, HBR, HZR⟩, HKX⟩, by simp only [intOf]; omega⟩
        · obtain ⟨hpl, hpe, hpr⟩ := drop_cons hy
          rw [← hpr] at hl' hmg
          simp only [List.getElem_map] at hpe
          rw [List.length_map] at hpl
          rw [hk] at x0
          clear hdr hy hpr hk
          as_aux_lemma =>
            obtain ⟨ab, ao, hAA, _, _, y0, y1, y2⟩ := dfRow (HB.out.below HBW.out) q hpl
            have HIX := Lib.hid (HB.out.sub q hpl)
            have HDX := Lib.hid hpe
            generalize lb[q] = x at *
            subst hAA
            obtain ⟨a1, _⟩ := blk1 HKB.out
            obtain ⟨p1, p2⟩ := blk1 HKW.out
            have i3 : (q : Int) < (lb.length : Int) := by omega
            have i4 : (0 : Int) ≤ (q : Int) := by omega
            go_upto_region 11 with (fail)
            have z1 := cellLt y0
            have HVN := Lib.hid (show ∀ y, blkOf V = some y → w4.heap.size + 1 + 1 ≤ y from fun y hy => (own_blk hown y hy).1)
            have HF := Lib.hid (show made.length + 1 ≤ maxLen ∧ (made.length + 1) * 48 ≤ 140737488355328 from ⟨by unfold maxLen; omega, by omega⟩)
            have HOW2 := Lib.hid (show (wr.drew.alloc (.cells #[.string x.name, .slice x.t.A x.t.ls.length x.t.c, .int .i64 x.t.root] 36)).ownsRow (w4.heap.size + 1 + 1) 36 3 (.slice V made.length vc) made.length (dfL.all made) from World.ownsRow.alloc (own_agree hown (fun _ _ => rfl)) _)
            have HKB2 := Lib.hid (show (wr.drew.alloc (.cells #[.string x.name, .slice x.t.A x.t.ls.length x.t.c, .int .i64 x.t.root] 36)).heap[w4.heap.size + 1]? = some (.cells #[.slice V made.length vc] 24 (0, 0)) from bx_old (w := wr.drew) (by have h := HKW.out; exact h))
            have hHw : w4.heap.size + 1 < wr.heap.size := by have := HZR.out; omega
            clear hown
            go_region_law ((refine step_append_at (by rfl) (.tmp 46) (.tmp 52) 22 (by rfl) (w4.heap.size + 1 + 1) 36 j0 (.agg #[.string ByteArray.empty, .slice none 0 0, .int .i64 0]) 3 48 Tryd.underlying22 hj hy0 hy1 hy2 hzc (by decide) V vc made.length (dfL.all made) (by rfl) HOW2.out (some ⟨wr.heap.size, 0, none⟩) 1 1 [.string x.name, .slice x.t.A x.t.ls.length x.t.c, .int .i64 x.t.root] (by rfl) rfl (row_blk (bx_new wr.drew _)) (fun u hu => by simp only [List.mem_cons, List.not_mem_nil, or_false] at hu; rcases hu with rfl | rfl | rfl <;> rfl) HF.out.1 HF.out.2 (by have := HZR.out; simp; omega) ?_; intro V' vc' w7 HO7 HG7 HA7; have HK7 := Lib.hid ((HG7.out.block (w4.heap.size + 1) (heap_lt' HKB2.out) (fun e => by have := HVN.out _ e.symm; omega)).trans HKB2.out); obtain ⟨t1, t2⟩ := blk1 HK7.out))
            all_goals
              clear p1 p2 a1 y0 y1 y2 x0
              go_wp2_with fail
              have hz := HZR.out
              have hz4 := HBR.out.size
              have ho7 := HO7.out
              rw [show dfL.all made ++ [Value.string x.name, .slice x.t.A x.t.ls.length x.t.c, .int .i64 x.t.root] = dfL.all (made ++ [x]) by rw [dfL.all_append, dfL.all_one]; rfl] at ho7
              have hkeep : ∀ y, y < wr.heap.size → y ≠ w4.heap.size + 1 → blkOf V ≠ some y → (w7.setCell ⟨w4.heap.size + 1, 0, none⟩ (.slice V' (made.length + 1) vc')).heap[y]? = wr.heap[y]? := fun y h1 h2 h3 => (Below.heap_setCell _ _ _ _ h2).trans ((HG7.out.block y (by simp; omega) (fun e => h3 e.symm)).trans (by first | exact Below.heap_alloc wr _ y h1 | exact Below.heap_alloc wr.drew _ y h1))
              have hk4 := heap_lt' HK4.out.1; have hk5 := heap_lt' HK4.out.2
              have h5 : Below w4.heap.size w4 (w7.setCell ⟨w4.heap.size + 1, 0, none⟩ (.slice V' (made.length + 1) vc')) := by
                refine Below.setCell (p := ⟨w4.heap.size + 1, 0, none⟩) ?_ (by show w4.heap.size ≤ w4.heap.size + 1; omega) _
                have h6 : Below w4.heap.size w4 (wr.alloc (.cells #[.string x.name, .slice x.t.A x.t.ls.length x.t.c, .int .i64 x.t.root] 36)) := HBR.out.trans ((bx1 wr _).mono (by omega))
                first
                  | exact (h6.drew).grown HG7.out (by simp; omega) (fun y hy => by have := HVN.out y hy; omega)
                  | exact (show Below w4.heap.size w4 (wr.drew.alloc _) from ⟨h6.1, h6.2, h6.3, h6.4, h6.5⟩).grown HG7.out (by simp; omega) (fun y hy => by have := HVN.out y hy; omega)
              have hrel' : BackRel w w4 w.heap.size (w4.heap.size + 1) S T A (some ⟨ab, ao, none⟩) c d la lb es (.cells #[.slice V4 d4.length c4] 24 (0, 0)) (.int .i64 ((i : Int) + 1)) (.int .i64 (p : Int)) (.int .i64 ((q : Int) + 1)) (w7.setCell ⟨w4.heap.size + 1, 0, none⟩ (.slice V' (made.length + 1) vc')) := ⟨i + 1, p, q + 1, made.length + 1, V', vc', by omega, by omega, by omega, by omega, by go_num, by first | rfl | go_num, by first | rfl | go_num, Lib.hid ⟨made ++ [x], by simp, hl', by rw [List.map_append, List.append_assoc, ← HME.out, hmg, ← HDX.out]; rfl, fun dd hd => by
                rcases List.mem_append.1 hd with hd | hd
                · exact hmi dd hd
                · simp only [List.mem_singleton] at hd; subst hd; exact Or.inr HIX.out, own_agree ho7 (fun y hy => Below.heap_setCell _ _ _ _ (by have := (own_blk ho7 y hy).1; show y ≠ w4.heap.size + 1; omega))⟩, Lib.hid (set_blk1 HK7.out), Lib.hid ((h5.block _ hk4).trans HK4.out.1), Lib.hid ((h5.block _ hk5).trans HK4.out.2), Lib.hid h5, Lib.hid (by have := HG7.out.size; simp at this; simp; omega)⟩
              have hkx' := Lib.hid ((hkeep w4.heap.size (by omega) (by omega) (fun e => by have := HVN.out _ e; omega)).trans HKX.out)
              refine ⟨?_, by simp only [intOf]; omega⟩
              first
                | exact ⟨hrel', hkx'⟩
                | exact ⟨_, _, _, ⟨hrel', hkx'⟩, rfl, rfl, rfl⟩
                | exact ⟨_, _, ⟨hrel', hkx'⟩, rfl, rfl⟩
      · obtain rfl : i = es.length := by omega
        obtain ⟨x1, _⟩ := blk1 HKX.out
        obtain ⟨y1, _⟩ := blk1 HKW.out
        obtain ⟨made, rfl, hdr, hme, hmi, hown⟩ := HM.out
        have HMF := Lib.hid (show d4.map Ld.df = made.map Ld.df from by
          rw [List.drop_of_length_le (by simp)] at hdr
          rw [HD4.out, ← hme, of_nil hdr.symm, List.append_nil])
        have HMR := Lib.hid (show dfL.row wr (fun _ => True) V made from ⟨own_rowIn hown (fun _ _ => trivial), fun d hd => by
          rcases hmi d hd with h | h
          · exact dfL.mono (dfL.agree h (below_all HBW.out)) (fun _ _ _ => trivial)
          · exact dfL.mono (dfL.agree h (below_all HBW.out)) (fun _ _ _ => trivial)⟩)
        clear hdr hme hmi hown HM
        as_aux_lemma =>
          go_wp2_with (go_at_call 13; refine (exactL_any V4 V c4 vc d4 made _ _ wr (HR4.out.below HBR.out) HMR.out HMF.out HL4.out).mono ?_; rintro e w9 ⟨rfl, hb9⟩; have HB9 := Lib.hid (Below.step HBW.out hb9); clear hb9)
          go_ret
          exact ⟨rfl, HB9.out⟩
  · as_aux_lemma =>
      go_wp2_with (go_at_call 10; refine (awake_any _ (HT.out.below HB1.out)).mono ?_; rintro e w3 ⟨rfl, hb3⟩; have HB3 := Lib.hid (Below.step HB1.out hb3); clear hb3)
      go_ret
      exact ⟨rfl, HB3.out⟩
end Go.Proofs.YtbfjanfhgpgmdaaDoor
