/- Plain: the law of ParseRight. The words of a text, LF, and another text; plain. Plain: the law of ParseRows. -/
import Derived.Test.YtpfokabdpmjobaaDoorJi
import Derived.Test.YtpfokabdpmjobaaDoorJh
namespace Go.Proofs.YtpfokabdpmjobaaDoor
set_option linter.unusedSimpArgs false
set_option linter.unusedVariables false
theorem ReadsP.gram {s : List UInt8} {W : List Wd} {l : List (Nat × TT)} {cs : List Nat} (h : ReadsP s W l cs) : gramP s = if (judgeW W s.length l cs).2 ≠ 0 then ([], judgeW W s.length l cs) else (l.map (defW W), 0, 0) := by
  unfold gramP
  rw [h.read, h.begun]
  simp
theorem ReadsP.names {s : List UInt8} {W : List Wd} {l : List (Nat × TT)} {cs : List Nat} (h : ReadsP s W l cs) : namesP s = namesW W l := by
  unfold namesP
  rw [h.read, h.begun]
  simp
theorem gram_err {s : List UInt8} {l cs p e} (h : readW s = ((l, cs), p, e)) (he : e ≠ 0) : gramP s = ([], p, e) := by unfold gramP; rw [h]; simp [he]
def NoTwice (nm : List (List UInt8)) : Prop := ∀ i (hi : i < nm.length) k (hk : k < i), nm[k] ≠ nm[i]
theorem twice_none {nm : List (List UInt8)} (h : twiceW nm = none) : NoTwice nm := by
  intro i hi k hk e
  unfold twiceW at h
  have h1 := List.find?_eq_none.1 h i (List.mem_range.2 hi)
  simp only [decide_eq_true_eq] at h1
  apply h1
  rw [show nm.getD i [] = nm[k] by simp [List.getD, hi, e]]
  exact List.mem_take_iff_getElem.2 ⟨k, by omega, rfl⟩
theorem lack_none {W : List Wd} {nm : List (List UInt8)} {cs : List Nat} (h : lackW W nm cs = none) : ∀ c ∈ cs, textW W c ∈ nm := by
  intro c hc
  have h1 := List.find?_eq_none.1 h c hc
  simpa using h1
end Go.Proofs.YtpfokabdpmjobaaDoor
namespace Go.Proofs.YtpfokabdpmjobaaDoor
set_option linter.unusedSimpArgs false
set_option linter.unusedVariables false
theorem skip_in : ∀ (b : Bool) (l r : List UInt8), skipM b l < l.length → skipM b (l ++ r) = skipM b l
  | b, [], r, h => by simp at h
  | true, c :: l, r, h => by
    simp only [skipM, List.length_cons] at h
    simp only [List.cons_append, skipM]
    rw [skip_in _ l r (by omega)]
  | false, c :: l, r, h => by
    simp only [skipM, List.length_cons] at h
    simp only [List.cons_append, skipM]
    split
    · rename_i h1
      rw [if_pos h1] at h
      rw [skip_in _ l r (by omega)]
    · rename_i h1
      rw [if_neg h1] at h
      split
      · rename_i h2
        rw [if_pos h2] at h
        rw [skip_in _ l r (by omega)]
      · rfl
theorem skip_line : ∀ (b : Bool) (l t : List UInt8), skipM b l = l.length → skipM b (l ++ 10 :: t) = l.length + 1 + skipM false t
  | true, [], t, h => by simp [skipM]
  | false, [], t, h => by simp [skipM, partB]
  | true, c :: l, t, h => by
    simp only [skipM, List.length_cons] at h
    simp only [List.cons_append, skipM, List.length_cons]
    rw [skip_line _ l t (by omega)]; omega
  | false, c :: l, t, h => by
    simp only [skipM, List.length_cons] at h
    simp only [List.cons_append, skipM, List.length_cons]
    split
    · rename_i h1
      rw [if_pos h1] at h
      rw [skip_line _ l t (by omega)]; omega
    · rename_i h1
      rw [if_neg h1] at h
      split
      · rename_i h2
        rw [if_pos h2] at h
        rw [skip_line _ l t (by omega)]; omega
      · rename_i h2
        rw [if_neg h2] at h; omega
def moveW (a : Nat) (x : Wd) : Wd := { x with frm := a + x.frm, til := a + x.til }
theorem bare_move (a : Nat) (l : List Wd) : (l.map (moveW a)).map bareW = l.map bareW := by rw [List.map_map]; rfl
section
variable (p t : List UInt8)
theorem drop_pre (a : Nat) : (p ++ t).drop (p.length + a) = t.drop a := by
  rw [List.drop_append]; simp
theorem word_shift (a : Nat) : wordL (p ++ t) (p.length + a) = (wordL t a).map (moveW p.length) := by
  unfold wordL
  rw [drop_pre p t a]
  cases headW (t.drop a) with
  | none => rfl
  | some w => simp [moveW, Nat.add_assoc]
theorem next_shift (a : Nat) : nextL (p ++ t) (p.length + a) = p.length + nextL t a := by
  unfold nextL
  rw [drop_pre]; omega
theorem raw_shift : ∀ (f a : Nat), rawL (p ++ t) f (p.length + a) = ((rawL t f a).1.map (moveW p.length), (rawL t f a).2.map (p.length + ·))
  | 0, a => rfl
  | f + 1, a => by
    rw [rawL, rawL, word_shift]
    by_cases h : t.length ≤ a
    · rw [if_pos h, if_pos (by rw [List.length_append]; omega)]; rfl
    · rw [if_neg h, if_neg (by rw [List.length_append]; omega)]
      cases hw : wordL t a with
      | none => rfl
      | some w =>
        simp only [Option.map_some]
        have e : (moveW p.length w).til = p.length + w.til := rfl
        rw [e, next_shift, raw_shift f]
        rfl
theorem RW_shift (a : Nat) : RW (p ++ t) (p.length + a) = ((RW t a).1.map (moveW p.length), (RW t a).2.map (p.length + ·)) := by
  unfold RW
  rw [show (p ++ t).length + 1 - (p.length + a) = t.length + 1 - a by rw [List.length_append]; omega]
  exact raw_shift p t _ a
end
theorem drop_left' {s r : List UInt8} {a : Nat} (h : a ≤ s.length) : (s ++ r).drop a = s.drop a ++ r := List.drop_append_of_le_length h
theorem line_run (s t : List UInt8) : ∀ (ls : List Wd) (a : Nat), a ≤ s.length → Stand s a ls →
    RW (s ++ 10 :: t) (nextL (s ++ 10 :: t) a) = (ls ++ (RW (s ++ 10 :: t) (nextL (s ++ 10 :: t) (s.length + 1))).1, (RW (s ++ 10 :: t) (nextL (s ++ 10 :: t) (s.length + 1))).2)
  | [], a, ha, hst => by
    have h1 : s.length ≤ nextL s a := hst
    have e : nextL (s ++ 10 :: t) a = nextL (s ++ 10 :: t) (s.length + 1) := by
      have h2 : skipM false (s.drop a) = (s.drop a).length := by
        have h3 := skipM_le false (s.drop a)
        unfold nextL at h1
        rw [List.length_drop] at h3 ⊢; omega
      unfold nextL
      rw [drop_left' ha, skip_line _ _ _ h2, List.length_drop]
      have e2 : (s ++ 10 :: t).drop (s.length + 1) = t := by rw [List.drop_append]; simp
      rw [e2]; omega
    rw [e]; rfl
  | x :: r, a, ha, hst => by
    obtain ⟨h1, h2, h3⟩ := hst
    have hn : nextL (s ++ 10 :: t) a = nextL s a := by
      unfold nextL at h1 ⊢
      rw [drop_left' ha, skip_in _ _ _ (by rw [List.length_drop]; omega)]
    rw [hn]
    have hq2 := h2
    unfold wordL at hq2
    cases hq : headW (s.drop (nextL s a)) with
    | none => rw [hq] at hq2; cases hq2
    | some z =>
      rw [hq] at hq2
      have hl := head_len hq
      rw [List.length_drop] at hl
      have hz : headW ((s ++ 10 :: t).drop (nextL s a)) = some z := by
        rw [drop_left' (by omega)]
        refine head_ag hq (fun j hj => ?_) ⟨fun hk c hc => ?_, fun hk hc => ?_⟩
        · rw [List.getElem?_append_left (by rw [List.length_drop]; omega)]
        · rcases Nat.lt_or_ge z.til (s.drop (nextL s a)).length with h4 | h4
          · rw [List.getElem?_append_left h4] at hc
            exact head_name hq hk c hc
          · have e : z.til = (s.drop (nextL s a)).length := by rw [List.length_drop] at h4 ⊢; omega
            rw [e, List.getElem?_append_right (Nat.le_refl _), Nat.sub_self] at hc
            simp at hc
            subst hc; decide
        · have hh := head_sign hq hk
          rcases Nat.lt_or_ge 1 (s.drop (nextL s a)).length with h4 | h4
          · rw [List.getElem?_append_left h4] at hc
            exact hh.2 hc
          · have e : (s.drop (nextL s a)).length = 1 := by rw [List.length_drop] at h4 ⊢; omega
            rw [List.getElem?_append_right (by omega), e] at hc
            simp at hc
      have hw : wordL (s ++ 10 :: t) (nextL s a) = some x := by
        unfold wordL; rw [hz]; exact hq2
      have ht : x.til ≤ s.length := by
        simp only [Option.map_some, Option.some.injEq] at hq2
        rw [← hq2]; simp only; omega
      rw [RW_word (by rw [List.length_append]; omega) hw, line_run s t r x.til ht h3]
      rfl
theorem words_line {s t : List UInt8} {ls lt : List Wd} (hb : s.length + t.length + 1 ≤ 65536) (hs : wordsL s = (ls, 0, 0)) (ht : wordsL t = (lt, 0, 0)) : wordsL (s ++ 10 :: t) = (ls ++ lt.map (moveW (s.length + 1)), 0, 0) := by
  have h1 := (words_stand (by omega) hs).2
  have h2 := line_run s t ls 0 (Nat.zero_le _) h1
  have e : s ++ 10 :: t = (s ++ [10]) ++ t := by simp
  have h3 : RW (s ++ 10 :: t) (nextL (s ++ 10 :: t) (s.length + 1)) = (lt.map (moveW (s.length + 1)), none) := by
    have h4 := RW_shift (s ++ [10]) t (nextL t 0)
    have h5 := next_shift (s ++ [10]) t 0
    have el : (s ++ [10]).length = s.length + 1 := by simp
    rw [el, ← e] at h4 h5
    rw [Nat.add_zero] at h5
    rw [h5, h4]
    rw [wordsL_of (by omega)] at ht
    cases hr : (RW t (nextL t 0)).2 with
    | some p => rw [hr] at ht; simp at ht
    | none =>
      rw [hr] at ht
      simp only [Prod.mk.injEq] at ht
      rw [ht.1]; rfl
  rw [h3] at h2
  rw [wordsL_of (by rw [List.length_append, List.length_cons]; omega), h2]
end Go.Proofs.YtpfokabdpmjobaaDoor
namespace Go.Proofs.YtpfokabdpmjobaaDoor
set_option linter.unusedSimpArgs false
set_option linter.unusedVariables false
theorem mem_take_idx {α : Type} {l : List α} {x : α} {i : Nat} : x ∈ l.take i ↔ ∃ k, ∃ h : k < l.length, k < i ∧ l[k] = x := by
  rw [List.mem_take_iff_getElem]
  constructor
  · rintro ⟨k, hk, rfl⟩; exact ⟨k, by omega, by omega, rfl⟩
  · rintro ⟨k, hk, hi, rfl⟩; exact ⟨k, by omega, rfl⟩
def TwiceAt (nm : List (List UInt8)) (i : Nat) : Prop := ∃ k, ∃ h : i < nm.length, ∃ h2 : k < i, nm[k] = nm[i]
theorem twice_at {nm : List (List UInt8)} {i : Nat} (hi : i < nm.length) : (decide (nm.getD i [] ∈ nm.take i) = true) ↔ TwiceAt nm i := by
  rw [decide_eq_true_eq, show nm.getD i [] = nm[i] by simp [List.getD, hi], mem_take_idx]
  constructor
  · rintro ⟨k, hk, hki, e⟩; exact ⟨k, hi, hki, e⟩
  · rintro ⟨k, _, hki, e⟩; exact ⟨k, by omega, hki, e⟩
theorem twice_some {nm : List (List UInt8)} {i : Nat} (h : twiceW nm = some i) : TwiceAt nm i := by
  have h1 := List.mem_range.1 (List.mem_of_find?_eq_some h)
  have h2 := List.find?_some h
  exact (twice_at h1).1 h2
theorem twice_no {nm : List (List UInt8)} (h : ∀ i, ¬ TwiceAt nm i) : twiceW nm = none :=
  List.find?_eq_none.2 fun i hi h2 => h i ((twice_at (List.mem_range.1 hi)).1 h2)
theorem twice_yes {nm : List (List UInt8)} {i : Nat} (h : TwiceAt nm i) : ∃ j, twiceW nm = some j := by
  cases e : twiceW nm with
  | some j => exact ⟨j, rfl⟩
  | none =>
    obtain ⟨k, hi, hk, e2⟩ := h
    exact absurd e2 (twice_none e i hi k hk)
theorem twice_two {n m : List (List UInt8)} (hn : NoTwice n) (hm : NoTwice m) : (∃ x, x ∈ n ∧ x ∈ m) → ∃ i, twiceW (n ++ m) = some i ∧ n.length ≤ i ∧ i < n.length + m.length := by
  rintro ⟨x, hx, hy⟩
  obtain ⟨k, hk, rfl⟩ := List.mem_iff_getElem.1 hx
  obtain ⟨j, hj, e⟩ := List.mem_iff_getElem.1 hy
  have h1 : TwiceAt (n ++ m) (n.length + j) := ⟨k, by rw [List.length_append]; omega, by omega, by
    rw [List.getElem_append_left hk, List.getElem_append_right (by omega)]
    simp only [Nat.add_sub_cancel_left]; exact e.symm⟩
  obtain ⟨i, hi⟩ := twice_yes h1
  obtain ⟨a, ha, hai, e2⟩ := twice_some hi
  refine ⟨i, hi, ?_, by rw [List.length_append] at ha; exact ha⟩
  rcases Nat.lt_or_ge i n.length with h2 | h2
  · rw [List.getElem_append_left (by omega), List.getElem_append_left h2] at e2
    exact absurd e2 (hn i h2 a hai)
  · exact h2
theorem twice_two_no {n m : List (List UInt8)} (hn : NoTwice n) (hm : NoTwice m) (h : ¬ ∃ x, x ∈ n ∧ x ∈ m) : twiceW (n ++ m) = none := by
  refine twice_no fun i ⟨a, ha, hai, e⟩ => ?_
  rcases Nat.lt_or_ge i n.length with h2 | h2
  · rw [List.getElem_append_left (by omega), List.getElem_append_left h2] at e
    exact hn i h2 a hai e
  · rw [List.getElem_append_right h2] at e
    have hl : i - n.length < m.length := by rw [List.length_append] at ha; omega
    rcases Nat.lt_or_ge a n.length with h3 | h3
    · rw [List.getElem_append_left h3] at e
      exact h ⟨n[a], List.getElem_mem h3, by rw [e]; exact List.getElem_mem hl⟩
    · rw [List.getElem_append_right h3] at e
      exact hm (i - n.length) hl (a - n.length) (by omega) e
structure GoodG (s : List UInt8) (W : List Wd) (l : List (Nat × TT)) (cs : List Nat) : Prop where
  reads : ReadsP s W l cs
  twice : NoTwice (namesW W l)
  calls : ∀ c ∈ cs, textW W c ∈ namesW W l
  small : l.length ≤ 64
  may : ∀ p ∈ l, mayT (bodyT p.2) = true
  gram : gramP s = (l.map (defW W), 0, 0)
theorem good_of {s : List UInt8} (hs : ¬ 65536 < s.length) (h : (gramP s).2.2 = 0) : ∃ W l cs, GoodG s W l cs := by
  rcases read_cases hs with ⟨W, l, cs, hr⟩ | ⟨p, hr, _⟩ | ⟨l, cs, p, hr, _⟩
  · have hg := hr.gram
    cases ht : twiceW (namesW W l) with
    | some i =>
      have hj : judgeW W s.length l cs = ((wdW W ((l.map Prod.fst).getD i 0)).frm, 6) := by unfold judgeW; rw [ht]
      rw [hg, hj] at h; simp at h
    | none =>
      cases hk : lackW W (namesW W l) cs with
      | some c =>
        have hj : judgeW W s.length l cs = ((wdW W c).frm, 41) := by unfold judgeW; rw [ht, hk]
        rw [hg, hj] at h; simp at h
      | none =>
        cases hl : largeW l with
        | true =>
          have hj : judgeW W s.length l cs = (s.length, 40) := by unfold judgeW; rw [ht, hk]; simp [hl]
          rw [hg, hj] at h; simp at h
        | false =>
          have hj : judgeW W s.length l cs = (0, 0) := by unfold judgeW; rw [ht, hk]; simp [hl]
          rw [hj] at hg
          simp at hg
          unfold largeW at hl
          simp only [Bool.or_eq_false_iff, List.any_eq_false, decide_eq_false_iff_not] at hl
          exact ⟨W, l, cs, hr, twice_none ht, lack_none hk, by omega, fun p hp => by have := hl.2 p hp; simpa using this, by rw [hg]⟩
  · rw [gram_err hr (by decide)] at h; simp at h
  · rw [gram_err hr (by decide)] at h; simp at h
theorem text_left {V Z : List Wd} {i : Nat} (h : i < V.length) : textW (V ++ Z) i = textW V i := by unfold textW; rw [wd_left h]
theorem text_move {V Z : List Wd} {a i : Nat} : textW (V ++ Z.map (moveW a)) (V.length + i) = textW Z i := by
  unfold textW
  rw [wd_shift]
  unfold wdW
  rw [List.getElem?_map]
  cases Z[i]? <;> rfl
theorem reads_words {s : List UInt8} (hs : ¬ 65536 < s.length) {W : List Wd} {l cs} (h : ReadsP s W l cs) : wordsL s = (W, 0, 0) := by
  have := (begun_of hs h.begun).2.1
  rwa [List.take_length] at this
theorem reads_line {s t : List UInt8} (hb : s.length + t.length + 1 ≤ 65536) {Wa Wb : List Wd} {la lb ca cb} (h : ReadsP s Wa la ca) (k : ReadsP t Wb lb cb) :
    ReadsP (s ++ 10 :: t) (Wa ++ Wb.map (moveW (s.length + 1))) (la ++ moveA Wa.length lb) (ca ++ cb.map (Wa.length + ·)) := by
  have h1 := words_line hb (reads_words (by omega) h) (reads_words (by omega) k)
  have hbeg : begunW (s ++ 10 :: t) = (Wa ++ Wb.map (moveW (s.length + 1)), (s ++ 10 :: t).length, 0) := by unfold begunW; rw [h1]; simp
  have hz : rulesP (Wb.map (moveW (s.length + 1))) = .done lb cb := by rw [rules_same (bare_move _ _)]; exact k.rules
  have hr := rules_append h.rules hz
  have hrd : readW (s ++ 10 :: t) = ((la ++ moveA Wa.length lb, ca ++ cb.map (Wa.length + ·)), (s ++ 10 :: t).length, 0) := by unfold readW; rw [hbeg]; simp [hr]
  have hmay : ∀ x ∈ Wa ++ Wb.map (moveW (s.length + 1)), mayS x := fun x hx => by
    rcases List.mem_append.1 hx with hx | hx
    · exact h.may x hx
    · obtain ⟨y, hy, rfl⟩ := List.mem_map.1 hx
      exact k.may y hy
  have hi := rules_inv (makes_and (makes_fit hmay) (makes_called _)) hmay _ 0 [] [] (by simp) (by simp) _ _ hr
  exact ⟨hbeg, hr, hrd, hmay, hi.1.1, hi.1.2, hi.2⟩
theorem names_line {s : List UInt8} {Wa Wb : List Wd} {la lb : List (Nat × TT)} {a : Nat} (h : ∀ p ∈ la, p.1 < Wa.length) : namesW (Wa ++ Wb.map (moveW a)) (la ++ moveA Wa.length lb) = namesW Wa la ++ namesW Wb lb := by
  unfold namesW moveA
  rw [List.map_append, List.map_map]
  congr 1
  · exact List.map_congr_left fun p hp => text_left (h p hp)
  · exact List.map_congr_left fun p hp => text_move
theorem defs_line {Wa Wb : List Wd} {la lb : List (Nat × TT)} {a : Nat} (h : ∀ p ∈ la, p.1 < Wa.length) : (la ++ moveA Wa.length lb).map (defW (Wa ++ Wb.map (moveW a))) = la.map (defW Wa) ++ lb.map (defW Wb) := by
  unfold moveA
  rw [List.map_append, List.map_map]
  congr 1
  · exact List.map_congr_left fun p hp => by unfold defW; rw [text_left (h p hp)]
  · exact List.map_congr_left fun p hp => by
      show defW _ (Wa.length + p.1, p.2) = _
      unfold defW; rw [text_move]
theorem rows_p {s t : List UInt8} (hb : s.length + t.length + 1 ≤ 65536) (h : (gramP s).2.2 = 0) (k : (gramP t).2.2 = 0) (hn : (gramP s).1.length + (gramP t).1.length ≤ 64) :
    ((∃ x ∈ (gramP s).1, ∃ y ∈ (gramP t).1, x.name = y.name) → (gramP (s ++ 10 :: t)).2.2 = 6 ∧ s.length < (gramP (s ++ 10 :: t)).2.1) ∧
    ((¬ ∃ x ∈ (gramP s).1, ∃ y ∈ (gramP t).1, x.name = y.name) → gramP (s ++ 10 :: t) = ((gramP s).1 ++ (gramP t).1, 0, 0)) := by
  obtain ⟨Wa, la, ca, ha⟩ := good_of (by omega) h
  obtain ⟨Wb, lb, cb, hb'⟩ := good_of (by omega) k
  have hr := reads_line hb ha.reads hb'.reads
  have hla : ∀ p ∈ la, p.1 < Wa.length := fun p hp => kd_lt (by have := (ha.reads.ofs p hp).1; omega)
  have hnm := names_line (s := s) (lb := lb) (Wb := Wb) (a := s.length + 1) hla
  have hdf := defs_line (lb := lb) (Wb := Wb) (a := s.length + 1) hla
  have hg := hr.gram
  have hcross : (∃ x ∈ (gramP s).1, ∃ y ∈ (gramP t).1, x.name = y.name) ↔ ∃ x, x ∈ namesW Wa la ∧ x ∈ namesW Wb lb := by
    rw [ha.gram, hb'.gram]
    constructor
    · rintro ⟨x, hx, y, hy, e⟩
      obtain ⟨p, hp, rfl⟩ := List.mem_map.1 hx
      obtain ⟨q, hq, rfl⟩ := List.mem_map.1 hy
      have e2 : textW Wa p.1 = textW Wb q.1 := by
        have := congrArg (fun b : ByteArray => b.data.toList) e
        simpa [defW] using this
      exact ⟨textW Wa p.1, List.mem_map.2 ⟨p, hp, rfl⟩, by rw [e2]; exact List.mem_map.2 ⟨q, hq, rfl⟩⟩
    · rintro ⟨x, hx, hy⟩
      obtain ⟨p, hp, rfl⟩ := List.mem_map.1 hx
      obtain ⟨q, hq, e⟩ := List.mem_map.1 hy
      exact ⟨defW Wa p, List.mem_map.2 ⟨p, hp, rfl⟩, defW Wb q, List.mem_map.2 ⟨q, hq, rfl⟩, by unfold defW; rw [← e]⟩
  rw [hcross]
  rw [ha.gram, hb'.gram] at hn ⊢
  simp only [List.length_map] at hn
  constructor
  · intro hx
    obtain ⟨i, hi, h1, h2⟩ := twice_two ha.twice hb'.twice hx
    have hla2 : (namesW Wa la).length = la.length := by simp [namesW]
    have hlb2 : (namesW Wb lb).length = lb.length := by simp [namesW]
    rw [hla2] at h1 h2
    rw [hlb2] at h2
    have hj : ∀ fin, judgeW (Wa ++ Wb.map (moveW (s.length + 1))) fin (la ++ moveA Wa.length lb) (ca ++ cb.map (Wa.length + ·)) = ((wdW (Wa ++ Wb.map (moveW (s.length + 1))) (((la ++ moveA Wa.length lb).map Prod.fst).getD i 0)).frm, 6) := fun fin => by
      unfold judgeW; rw [hnm, hi]
    rw [hg, hj]
    simp only [ne_eq, Nat.reduceEqDiff, not_false_eq_true, if_true, true_and]
    have e1 : ((la ++ moveA Wa.length lb).map Prod.fst).getD i 0 = Wa.length + (lb[i - la.length]'(by omega)).1 := by
      have hl : i < ((la ++ moveA Wa.length lb).map Prod.fst).length := by simp [moveA]; omega
      simp only [List.getD, List.getElem?_eq_getElem hl, Option.getD_some, List.getElem_map]
      rw [List.getElem_append_right h1]
      simp [moveA]
    rw [e1, wd_shift]
    have hq : (lb[i - la.length]'(by omega)).1 < Wb.length := kd_lt (by have := (hb'.reads.ofs _ (List.getElem_mem (show i - la.length < lb.length by omega))).1; omega)
    simp only [wdW, List.getElem?_map, List.getElem?_eq_getElem hq, Option.map_some, Option.getD_some, moveW]
    omega
  · intro hx
    have ht := twice_two_no ha.twice hb'.twice hx
    have hlk : lackW (Wa ++ Wb.map (moveW (s.length + 1))) (namesW Wa la ++ namesW Wb lb) (ca ++ cb.map (Wa.length + ·)) = none := by
      refine List.find?_eq_none.2 fun c hc => ?_
      simp only [decide_eq_true_eq, Decidable.not_not, List.mem_append]
      rcases List.mem_append.1 hc with hc | hc
      · have hl : c < Wa.length := kd_lt (by have := ha.reads.calls c hc; omega)
        rw [text_left hl]
        exact .inl (ha.calls c hc)
      · obtain ⟨d, hd, rfl⟩ := List.mem_map.1 hc
        rw [text_move]
        exact .inr (hb'.calls d hd)
    have hlg : largeW (la ++ moveA Wa.length lb) = false := by
      unfold largeW
      simp only [Bool.or_eq_false_iff, List.any_eq_false, decide_eq_false_iff_not]
      refine ⟨by simp [moveA]; omega, fun p hp => ?_⟩
      rcases List.mem_append.1 hp with hp | hp
      · simp [ha.may p hp]
      · obtain ⟨q, hq, rfl⟩ := List.mem_map.1 hp
        simp [hb'.may q hq]
    have hj : ∀ fin, judgeW (Wa ++ Wb.map (moveW (s.length + 1))) fin (la ++ moveA Wa.length lb) (ca ++ cb.map (Wa.length + ·)) = (0, 0) := fun fin => by
      unfold judgeW; rw [hnm, ht, hlk]; simp [hlg]
    rw [hg, hj, hdf]
    simp
end Go.Proofs.YtpfokabdpmjobaaDoor
