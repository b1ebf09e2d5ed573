/- Parsing, plain: the words' places do not matter; words in front, and behind. Rules behind rules, plain. -/
import Derived.Test.YtpfokabdpmjobaaDoorJb
import Derived.Test.YtpfokabdpmjobaaDoorJv
namespace Go.Proofs.YtpfokabdpmjobaaDoor
set_option linter.unusedSimpArgs false
set_option linter.unusedVariables false
def bareW (x : Wd) : Wd := { x with frm := 0, til := 0 }
theorem kd_bare (W : List Wd) (i : Nat) : kdW (W.map bareW) i = kdW W i := by
  simp only [kdW, List.getElem?_map, Option.map_map]; rfl
theorem wd_bare (W : List Wd) (i : Nat) : wdW (W.map bareW) i = bareW (wdW W i) := by
  simp only [wdW, List.getElem?_map]
  cases W[i]? <;> rfl
theorem suf_bare (W : List Wd) (i : Nat) : sufW (W.map bareW) i = sufW W i := by simp only [sufW, kd_bare, wd_bare]; rfl
theorem leaf_bare (W : List Wd) (i : Nat) : leafW (wdW (W.map bareW) i) = leafW (wdW W i) := by rw [wd_bare]; rfl
theorem isLeaf_bare (W : List Wd) (i : Nat) : isLeaf (W.map bareW) i = isLeaf W i := by simp only [isLeaf, kd_bare]
theorem suff_bare (W : List Wd) : ∀ (f i : Nat) (t : TT), suffT (W.map bareW) f i t = suffT W f i t
  | 0, i, t => rfl
  | f + 1, i, t => by
    rw [suffT, suffT, suf_bare]
    cases sufW W i with
    | none => rfl
    | some p => exact suff_bare W f (i + 1) _
theorem prim_bare (W : List Wd) (top : Op) (i : Nat) (t : TT) : primT (W.map bareW) top i t = primT W top i t := by simp only [primT, suff_bare, List.length_map]
theorem text_bare (W : List Wd) (i : Nat) : (wdW (W.map bareW) i).text = (wdW W i).text := by rw [wd_bare]; rfl
theorem step_bare (W : List Wd) (s : PS) : stepP (W.map bareW) s = stepP W s := by
  simp only [stepP, isLeaf_bare, kd_bare, leaf_bare, prim_bare, text_bare]
theorem run_bare (W : List Wd) : ∀ (f : Nat) (s : PS), runP (W.map bareW) f s = runP W f s
  | 0, s => rfl
  | f + 1, s => by
    rw [runP, runP, step_bare]
    cases stepP W s with
    | inl s' => exact run_bare W f s'
    | inr r => rfl
theorem choice_bare (W : List Wd) (i : Nat) (C : List Nat) : choiceP (W.map bareW) i C = choiceP W i C := by simp only [choiceP, run_bare, List.length_map]
theorem rules_bare' (W : List Wd) : ∀ (f i : Nat) (a : List (Nat × TT)) (C : List Nat), rulesF (W.map bareW) f i a C = rulesF W f i a C
  | 0, i, a, C => rfl
  | f + 1, i, a, C => by
    rw [rulesF, rulesF]
    simp only [kd_bare, choice_bare, List.length_map, rules_bare' W f]
theorem rules_bare (W : List Wd) : rulesP (W.map bareW) = rulesP W := by simp only [rulesP, rules_bare', List.length_map]
theorem rules_same {W V : List Wd} (h : W.map bareW = V.map bareW) : rulesP W = rulesP V := by rw [← rules_bare W, h, rules_bare]
section
variable (A V : List Wd)
theorem kd_shift (i : Nat) : kdW (A ++ V) (A.length + i) = kdW V i := by
  simp only [kdW, List.getElem?_append_right (Nat.le_add_right A.length i), Nat.add_sub_cancel_left]
theorem wd_shift (i : Nat) : wdW (A ++ V) (A.length + i) = wdW V i := by
  simp only [wdW, List.getElem?_append_right (Nat.le_add_right A.length i), Nat.add_sub_cancel_left]
theorem kd_shift1 (i j : Nat) : kdW (A ++ V) (A.length + i + j) = kdW V (i + j) := by rw [Nat.add_assoc]; exact kd_shift A V _
theorem wd_shift1 (i j : Nat) : wdW (A ++ V) (A.length + i + j) = wdW V (i + j) := by rw [Nat.add_assoc]; exact wd_shift A V _
theorem suf_shift (i : Nat) : sufW (A ++ V) (A.length + i) = sufW V i := by simp only [sufW, kd_shift, wd_shift]
theorem isLeaf_shift (i : Nat) : isLeaf (A ++ V) (A.length + i) = isLeaf V i := by simp only [isLeaf, kd_shift, kd_shift1]
theorem suff_shift : ∀ (f i : Nat) (t : TT), suffT (A ++ V) f (A.length + i) t = ((suffT V f i t).1, A.length + (suffT V f i t).2)
  | 0, i, t => rfl
  | f + 1, i, t => by
    rw [suffT, suffT, suf_shift]
    cases sufW V i with
    | none => rfl
    | some p => exact suff_shift f (i + 1) _
theorem prim_shift (top : Op) (i : Nat) (t : TT) : primT (A ++ V) top (A.length + i) t = ((primT V top i t).1, A.length + (primT V top i t).2) := by
  simp only [primT]
  rw [show (A ++ V).length - (A.length + i) = V.length - i by rw [List.length_append]; omega, suff_shift]
def movePR (a : Nat) : PR → PR
  | .fail k => .fail (a + k)
  | .done j t => .done (a + j) t
def movePS (a : Nat) (D : List Nat) (s : PS) : PS := ⟨a + s.i, s.st, D ++ s.calls.map (a + ·)⟩
def moveS (a : Nat) (D : List Nat) : PS ⊕ PR → PS ⊕ PR
  | .inl s => .inl (movePS a D s)
  | .inr r => .inr (movePR a r)
theorem step_shift (D : List Nat) (s : PS) : stepP (A ++ V) (movePS A.length D s) = moveS A.length D (stepP V s) := by
  obtain ⟨i, st, C⟩ := s
  have p1 := fun top t => prim_shift A V top (i + 1) t
  have e1 : A.length + (i + 1) = A.length + i + 1 := rfl
  rw [e1] at p1
  cases st with
  | nil => rfl
  | cons top rest =>
    simp only [stepP, movePS, isLeaf_shift, kd_shift, kd_shift1, wd_shift, wd_shift1, p1]
    split
    · simp only [moveS, movePS]
      split <;> simp
    split
    · simp only [moveS, movePS, Nat.add_assoc]
    split
    · simp only [moveS, movePS, Nat.add_assoc]
    split
    · split
      · split
        · simp only [moveS, movePS, Nat.add_assoc]
        · simp only [moveS, movePR, Nat.add_assoc]
      · simp only [moveS, movePR, Nat.add_assoc]
    split
    · simp only [moveS, movePR]
    split
    · simp only [moveS, movePS, Nat.add_assoc]
    split
    · simp only [moveS, movePR]
    split
    · simp only [moveS, movePR]
    · cases rest with
      | nil => simp only [moveS, movePR]
      | cons up rest => simp only [moveS, movePS]
theorem run_shift (D : List Nat) : ∀ (f : Nat) (s : PS), runP (A ++ V) f (movePS A.length D s) = (movePR A.length (runP V f s).1, D ++ (runP V f s).2.map (A.length + ·))
  | 0, s => rfl
  | f + 1, s => by
    rw [runP, runP, step_shift]
    cases h : stepP V s with
    | inl s' => exact run_shift D f s'
    | inr r => rfl
theorem choice_shift (D : List Nat) (i : Nat) (C : List Nat) : choiceP (A ++ V) (A.length + i) (D ++ C.map (A.length + ·)) = (movePR A.length (choiceP V i C).1, D ++ (choiceP V i C).2.map (A.length + ·)) := by
  unfold choiceP
  rw [show (A ++ V).length + 1 - (A.length + i) = V.length + 1 - i by rw [List.length_append]; omega]
  exact run_shift A V D _ ⟨i, [botP], C⟩
def moveA (a : Nat) (l : List (Nat × TT)) : List (Nat × TT) := l.map fun p => (a + p.1, p.2)
theorem rules_shift (D : List Nat) (E : List (Nat × TT)) : ∀ (f i : Nat) (acc : List (Nat × TT)) (C : List Nat), rulesF (A ++ V) f (A.length + i) (E ++ moveA A.length acc) (D ++ C.map (A.length + ·)) =
    match rulesF V f i acc C with
    | .fail k => .fail (A.length + k)
    | .done l cs => .done (E ++ moveA A.length l) (D ++ cs.map (A.length + ·))
  | 0, i, acc, C => rfl
  | f + 1, i, acc, C => by
    rw [rulesF, rulesF, kd_shift, kd_shift1]
    split
    · rfl
    split
    · rfl
    rw [show A.length + i + 2 = A.length + (i + 2) from rfl, choice_shift]
    cases h : choiceP V (i + 2) C with
    | mk r cs =>
      cases r with
      | fail k => rfl
      | done j t =>
        simp only [movePR, List.length_append, Nat.add_le_add_iff_left]
        have e : E ++ moveA A.length acc ++ [(A.length + i, t)] = E ++ moveA A.length (acc ++ [(i, t)]) := by simp [moveA]
        rw [e]
        split
        · rfl
        · exact rules_shift D E f j (acc ++ [(i, t)]) cs
end
section
variable {V Z : List Wd}
theorem kd_left {i : Nat} (h : i < V.length) : kdW (V ++ Z) i = kdW V i := by simp only [kdW, List.getElem?_append_left h]
theorem wd_left {i : Nat} (h : i < V.length) : wdW (V ++ Z) i = wdW V i := by simp only [wdW, List.getElem?_append_left h]
def Stops (Z : List Wd) : Prop := kdW Z 0 ≠ 2 ∧ kdW Z 0 ≠ 6 ∧ kdW Z 0 ≠ 7 ∧ kdW Z 0 ≠ 8 ∧ kdW Z 0 ≠ 14
theorem kd_edge : kdW (V ++ Z) V.length = kdW Z 0 := kd_shift V Z 0
theorem suf_left {i : Nat} (h : i < V.length) : sufW (V ++ Z) i = sufW V i := by simp only [sufW, kd_left h, wd_left h]
theorem suf_edge (hz : Stops Z) : sufW (V ++ Z) V.length = none := by
  obtain ⟨_, h1, h2, h3, h4⟩ := hz
  simp only [sufW, kd_edge, if_neg h1, if_neg h2, if_neg h3, if_neg h4]
theorem suf_end {i : Nat} (h : V.length ≤ i) : sufW V i = none := by simp [sufW, kd_end h]
theorem suff_left (hz : Stops Z) : ∀ (n i : Nat) (t : TT), V.length - i = n → i ≤ V.length → suffT (V ++ Z) ((V ++ Z).length - i) i t = suffT V (V.length - i) i t
  | 0, i, t, hn, hi => by
    obtain rfl : i = V.length := by omega
    rw [suff_none (suf_edge hz), suff_none (suf_end (Nat.le_refl _))]
  | n + 1, i, t, hn, hi => by
    have hlt : i < V.length := by omega
    cases h : sufW V i with
    | none => rw [suff_none h, suff_none (by rw [suf_left hlt]; exact h)]
    | some p =>
      obtain ⟨lo, hi'⟩ := p
      rw [suff_some h, suff_some (by rw [suf_left hlt]; exact h)]
      exact suff_left hz n (i + 1) _ (by omega) (by omega)
theorem prim_left (hz : Stops Z) {top : Op} {i : Nat} {t : TT} (hi : i ≤ V.length) : primT (V ++ Z) top i t = primT V top i t := by simp only [primT, suff_left hz _ i _ rfl hi]
theorem isLeaf_left (hz : Stops Z) {i : Nat} (h : i < V.length) : isLeaf (V ++ Z) i = isLeaf V i := by
  simp only [isLeaf, kd_left h]
  rcases Nat.lt_or_ge (i + 1) V.length with h1 | h1
  · rw [kd_left h1]
  · obtain e : i + 1 = V.length := by omega
    rw [e, kd_edge, kd_end (Nat.le_refl _)]
    simp [hz.1]
theorem step_left (hz : Stops Z) {s : PS} (h : s.i < V.length) (hn : ∀ k, stepP V s ≠ .inr (.fail k)) : stepP (V ++ Z) s = stepP V s := by
  obtain ⟨i, st, C⟩ := s
  cases st with
  | nil => rfl
  | cons top rest =>
    have p1 := fun top t => prim_left (Z := Z) hz (top := top) (i := i + 1) (t := t) (show i + 1 ≤ V.length from h)
    simp only at h
    by_cases h11 : kdW V i = 11
    · have hl : isLeaf V i = false := by simp [isLeaf, h11]
      simp only [stepP, hl, h11] at hn
      simp at hn
      by_cases h1 : kdW V (i + 1) = 1
      · by_cases h2 : kdW V (i + 2) = 13
        · have l2 : i + 2 < V.length := kd_lt (by omega)
          simp only [stepP, isLeaf_left hz h, kd_left h, kd_left (show i + 1 < V.length by omega), kd_left l2, wd_left (show i + 1 < V.length by omega), hl, h11, h1, h2]
          simp
        · simp [h1, h2] at hn
      · simp [h1] at hn
    · simp only [stepP, isLeaf_left hz h, kd_left h, wd_left h, p1, if_neg h11]
end
end Go.Proofs.YtpfokabdpmjobaaDoor
namespace Go.Proofs.YtpfokabdpmjobaaDoor
set_option linter.unusedSimpArgs false
set_option linter.unusedVariables false
theorem run_le {W : List Wd} : ∀ (f : Nat) (s : PS), s.i ≤ W.length → ∀ j t C, runP W f s = (.done j t, C) → s.i ≤ j ∧ j ≤ W.length
  | 0, s, h, j, t, C, hr => by simp [runP] at hr
  | f + 1, s, h, j, t, C, hr => by
    rw [runP] at hr
    cases hs : stepP W s with
    | inl s' =>
      rw [hs] at hr
      have h1 := step_lt hs
      have h2 := run_le f s' h1.2 j t C hr
      omega
    | inr r =>
      rw [hs] at hr
      obtain ⟨i, st, C'⟩ := s
      simp only [Prod.mk.injEq] at hr
      obtain ⟨rfl, rfl⟩ := hr
      have : j = i := by
        cases st with
        | nil => simp [stepP] at hs
        | cons top rest =>
          simp only [stepP] at hs
          repeat' (split at hs)
          all_goals first | (injection hs with hs; injection hs with e1 e2; exact e1.symm) | cases hs
      subst this
      exact ⟨Nat.le_refl _, h⟩
theorem choice_le {W : List Wd} {i j : Nat} {C C' : List Nat} {t : TT} (hi : i ≤ W.length) (h : choiceP W i C = (.done j t, C')) : i ≤ j ∧ j ≤ W.length := run_le _ ⟨i, [botP], C⟩ hi j t C' h
theorem rules_fuel {W : List Wd} : ∀ (f g i : Nat) (acc : List (Nat × TT)) (C : List Nat), W.length < i + f → W.length < i + g → rulesF W f i acc C = rulesF W g i acc C
  | 0, 0, _, _, _, _, _ => rfl
  | 0, g + 1, i, acc, C, hf, hg => by rw [rulesF, rulesF, if_pos (by rw [kd_end (by omega)]; decide)]
  | f + 1, 0, i, acc, C, hf, hg => by rw [rulesF, rulesF, if_pos (by rw [kd_end (by omega)]; decide)]
  | f + 1, g + 1, i, acc, C, hf, hg => by
    rw [rulesF, rulesF]
    split
    · rfl
    split
    · rfl
    rename_i h1 h2
    have hl : i + 1 < W.length := kd_lt (by omega)
    cases h : choiceP W (i + 2) C with
    | mk r cs =>
      cases r with
      | fail k => rfl
      | done j t =>
        have hj := choice_le (by omega) h
        simp only
        split
        · rfl
        · exact rules_fuel f g j _ cs (by omega) (by omega)
section
variable {V Z : List Wd}
def Ends (Z : List Wd) : Prop := Stops Z ∧ isLeaf Z 0 = false ∧ kdW Z 0 ≠ 3 ∧ kdW Z 0 ≠ 4 ∧ kdW Z 0 ≠ 5 ∧ kdW Z 0 ≠ 9 ∧ kdW Z 0 ≠ 11
theorem isLeaf_edge : isLeaf (V ++ Z) V.length = isLeaf Z 0 := isLeaf_shift V Z 0
theorem step_end {W : List Wd} {i : Nat} {st : List Op} {C : List Nat} {j : Nat} {t : TT} (hi : W.length ≤ i) (h : stepP W ⟨i, st, C⟩ = .inr (.done j t)) :
    j = i ∧ ∃ top rest, st = top :: rest ∧ top.heads = [] ∧ top.fin = 0 ∧ t = joinP choN (wayT top).ways := by
  cases st with
  | nil => simp [stepP] at h
  | cons top rest =>
    have h0 : kdW W i = 0 := kd_end hi
    have hl : isLeaf W i = false := by simp [isLeaf, h0]
    simp only [stepP, hl, h0] at h
    simp only [Bool.false_eq_true, if_false, Nat.reduceEqDiff, or_self, ne_eq] at h
    split at h
    · cases h
    · rename_i h1
      split at h
      · rename_i h2
        injection h with h; injection h with e1 e2
        exact ⟨e1.symm, top, rest, rfl, by simpa using h1, h2, e2.symm⟩
      · rename_i h2
        split at h
        · cases h
        · cases rest with
          | nil => cases h
          | cons up rest => cases h
theorem step_edge (hz : Ends Z) {st : List Op} {C : List Nat} {j : Nat} {t : TT} (h : stepP V ⟨V.length, st, C⟩ = .inr (.done j t)) : stepP (V ++ Z) ⟨V.length, st, C⟩ = .inr (.done j t) := by
  obtain ⟨rfl, top, rest, rfl, hh, hf, rfl⟩ := step_end (Nat.le_refl _) h
  obtain ⟨_, h1, h3, h4, h5, h9, h11⟩ := hz
  simp only [stepP, isLeaf_edge, kd_edge, h1, hh, hf, h3, h4, h5, h9, h11]
  simp
theorem run_done_left (hz : Ends Z) : ∀ (f : Nat) (s : PS), s.i ≤ V.length → ∀ j t C, runP V f s = (.done j t, C) → goP (V ++ Z) s = (.done j t, C)
  | 0, s, hi, j, t, C, h => by simp [runP] at h
  | f + 1, s, hi, j, t, C, h => by
    rw [runP] at h
    have hi2 : s.i ≤ (V ++ Z).length := by rw [List.length_append]; omega
    cases hs : stepP V s with
    | inl s' =>
      rw [hs] at h
      have hl : s.i < V.length := by have := step_lt hs; omega
      have he := step_left hz.1 hl (by rw [hs]; intro k e; cases e)
      rw [go_more hi2 (he.trans hs)]
      exact run_done_left hz f s' (step_lt hs).2 j t C h
    | inr r =>
      rw [hs] at h
      simp only [Prod.mk.injEq] at h
      obtain ⟨rfl, rfl⟩ := h
      refine go_end hi2 ?_
      rcases Nat.lt_or_ge s.i V.length with hl | hl
      · rw [step_left hz.1 hl (by rw [hs]; intro k e; cases e)]; exact hs
      · obtain ⟨i, st, C⟩ := s
        obtain rfl : i = V.length := Nat.le_antisymm hi hl
        exact step_edge hz hs
theorem choice_left (hz : Ends Z) {i j : Nat} {C C' : List Nat} {t : TT} (hi : i ≤ V.length) (h : choiceP V i C = (.done j t, C')) : choiceP (V ++ Z) i C = (.done j t, C') :=
  run_done_left hz _ ⟨i, [botP], C⟩ hi j t C' h
theorem rules_left (hz : Ends Z) (hne : Z ≠ []) : ∀ (f i : Nat) (acc : List (Nat × TT)) (C : List Nat) (l : List (Nat × TT)) (cs : List Nat), rulesF V f i acc C = .done l cs →
    rulesF (V ++ Z) ((V ++ Z).length + 1 - i) i acc C = rulesF (V ++ Z) (Z.length + 1) V.length l cs
  | 0, i, acc, C, l, cs, h => by simp [rulesF] at h
  | f + 1, i, acc, C, l, cs, h => by
    rw [rulesF] at h
    split at h
    · cases h
    rename_i h1
    split at h
    · cases h
    rename_i h2
    have hl : i + 1 < V.length := kd_lt (by omega)
    have hzl : 0 < Z.length := List.length_pos_iff.2 hne
    obtain ⟨g, hg⟩ : ∃ g, (V ++ Z).length + 1 - i = g + 1 := ⟨(V ++ Z).length - i, by rw [List.length_append]; omega⟩
    rw [hg, rulesF, kd_left (show i < V.length by omega), kd_left hl, if_neg h1, if_neg h2]
    rw [List.length_append] at hg
    cases hc : choiceP V (i + 2) C with
    | mk r cs' =>
      rw [hc] at h
      cases r with
      | fail k => cases h
      | done j t =>
        have hj := choice_le (by omega) hc
        rw [choice_left hz (by omega) hc]
        simp only at h ⊢
        rw [if_neg (by rw [List.length_append]; omega)]
        split at h
        · rename_i hjl
          injection h with e1 e2
          subst e1 e2
          obtain rfl : j = V.length := Nat.le_antisymm hj.2 hjl
          exact rules_fuel _ _ _ _ _ (by rw [List.length_append]; omega) (by rw [List.length_append]; omega)
        · rw [← rules_left hz hne f j _ cs' l cs h]
          exact rules_fuel _ _ _ _ _ (by rw [List.length_append]; omega) (by rw [List.length_append]; omega)
theorem rules_append {l lz : List (Nat × TT)} {cs cz : List Nat} (h : rulesP V = .done l cs) (hz : rulesP Z = .done lz cz) : rulesP (V ++ Z) = .done (l ++ moveA V.length lz) (cs ++ cz.map (V.length + ·)) := by
  have h12 : kdW Z 0 = 1 ∧ kdW Z 1 = 2 := by
    unfold rulesP at hz
    rw [rulesF] at hz
    split at hz
    · cases hz
    rename_i h1
    split at hz
    · cases hz
    rename_i h2
    exact ⟨by omega, by simpa using h2⟩
  have hne : Z ≠ [] := fun e => by rw [e] at h12; simp [kdW] at h12
  have hE : Ends Z := by
    obtain ⟨h1, h2⟩ := h12
    simp [Ends, Stops, isLeaf, h1, h2]
  have h3 := rules_left hE hne _ 0 [] [] l cs h
  unfold rulesP
  rw [Nat.sub_zero] at h3
  rw [h3]
  have h4 := rules_shift V Z cs l (Z.length + 1) 0 [] []
  simp only [moveA, List.map_nil, List.append_nil, Nat.add_zero] at h4
  rw [h4]
  unfold rulesP at hz
  rw [hz]
  rfl
end
def allTT (p : Nd → Prop) : TT → Prop
  | .mk n ks => p n ∧ go ks
  where go : List TT → Prop
    | [] => True
    | t :: ts => allTT p t ∧ go ts
theorem allTT_go (p : Nd → Prop) : ∀ ts, allTT.go p ts ↔ ∀ t ∈ ts, allTT p t
  | [] => by simp [allTT.go]
  | t :: ts => by rw [allTT.go, allTT_go p ts]; simp
theorem allTT_mk {p : Nd → Prop} {n : Nd} {ks : List TT} : allTT p (.mk n ks) ↔ p n ∧ ∀ t ∈ ks, allTT p t := by rw [allTT, allTT_go]
theorem allTT_mono {p q : Nd → Prop} (h : ∀ n, p n → q n) {x : TT} : allTT p x → allTT q x := by
  induction x using TT.ind with
  | h n ks ih => exact fun hx => allTT_mk.2 ⟨h _ (allTT_mk.1 hx).1, fun t ht => ih t ht ((allTT_mk.1 hx).2 t ht)⟩
def calledN (W : List Wd) (C : List Nat) (n : Nd) : Prop := n.kind = 3 → ∃ i ∈ C, n.text = ⟨(wdW W i).text.toArray⟩
theorem makes_called (W : List Wd) : Makes W fun C t => allTT (calledN W C) t where
  mono C D t h := allTT_mono (fun n hn hk => by obtain ⟨i, hi, e⟩ := hn hk; exact ⟨i, List.mem_append_left _ hi, e⟩) h
  empty C := allTT_mk.2 ⟨fun h => by simp [emptyN] at h, by simp⟩
  leaf C i h := allTT_mk.2 ⟨fun hk => by
    by_cases h1 : kdW W i = 1
    · rw [if_pos h1]
      have hl := leaf_lt h
      have h1' : (wdW W i).kind = 1 := by rw [wd_at hl, ← kd_at hl]; exact h1
      exact ⟨i, by simp, by simp [leafW, h1', ruleN]⟩
    · have hl := leaf_lt h
      have h1' : ¬ (wdW W i).kind = 1 := by rw [wd_at hl, ← kd_at hl]; exact h1
      unfold leafW at hk
      rw [if_neg h1'] at hk
      split at hk
      · split at hk <;> simp [emptyN, textN] at hk
      · simp [setW] at hk, by simp⟩
  rep C i lo hi t hs h := allTT_mk.2 ⟨fun hk => by simp [repN] at hk, fun x hx => by obtain rfl := List.mem_singleton.1 hx; exact h⟩
  head C k t hk h := allTT_mk.2 ⟨fun h3 => by rcases hk with rfl | rfl <;> simp [kindN] at h3, fun x hx => by obtain rfl := List.mem_singleton.1 hx; exact h⟩
  seq C n l hn hl h := allTT_mk.2 ⟨fun h3 => by rcases hn with rfl | rfl <;> simp [seqN, choN] at h3, h⟩
  cap C nm t hm h := allTT_mk.2 ⟨fun h3 => by simp [capN] at h3, fun x hx => by obtain rfl := List.mem_singleton.1 hx; exact h⟩
end Go.Proofs.YtpfokabdpmjobaaDoor
