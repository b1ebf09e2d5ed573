/- Plain law of LexParted: with whatever parts words between them, the words are the same. -/
import Derived.Test.YtidcoldoalimfaaKd
namespace Go.Proofs.Ytidcoldoalimfaa
set_option linter.unusedSimpArgs false
set_option linter.unusedVariables false

/-- A word without its place. -/
def bareP (x : Wd) : Wd := { x with frm := 0, til := 0 }
/-- What is put between. -/
def gapsL : List (List UInt8) := [[], [32], [10], [9, 13, 10], [35, 120, 10], [32, 35, 32, 34, 97, 10, 10], [35, 35, 10, 35, 10]]
def endL : List UInt8 := [35, 32, 116, 104, 101, 32, 101, 110, 100]
def gapAt (k : Nat) : List UInt8 := gapsL.getD k []
theorem gap_cases (k : Nat) : gapAt k = [] ∨ gapAt k = [32] ∨ gapAt k = [10] ∨ gapAt k = [9, 13, 10] ∨ gapAt k = [35, 120, 10] ∨ gapAt k = [32, 35, 32, 34, 97, 10, 10] ∨ gapAt k = [35, 35, 10, 35, 10] := by
  match k with
  | 0 => exact .inl rfl
  | 1 => exact .inr (.inl rfl)
  | 2 => exact .inr (.inr (.inl rfl))
  | 3 => exact .inr (.inr (.inr (.inl rfl)))
  | 4 => exact .inr (.inr (.inr (.inr (.inl rfl))))
  | 5 => exact .inr (.inr (.inr (.inr (.inr (.inl rfl)))))
  | 6 => exact .inr (.inr (.inr (.inr (.inr (.inr rfl)))))
  | k + 7 => exact .inl rfl
theorem gap_skip (k : Nat) (t : List UInt8) : skipM false (gapAt k ++ t) = (gapAt k).length + skipM false t := by
  rcases gap_cases k with h | h | h | h | h | h | h <;> rw [h] <;> simp [skipM, partB] <;> omega
theorem gap_first {k : Nat} {t : List UInt8} {c : UInt8} (h : (gapAt k ++ t)[0]? = some c) (hg : gapAt k ≠ []) : alnum c = false ∧ c ≠ 45 := by
  rcases gap_cases k with e | e | e | e | e | e | e <;> rw [e] at h hg <;> simp at h hg <;> subst h <;> decide
theorem gap_none {k : Nat} (hk : k < 7) (h : gapAt k = []) : k = 0 := by
  match k, hk with
  | 0, _ => rfl
  | 1, _ => cases h
  | 2, _ => cases h
  | 3, _ => cases h
  | 4, _ => cases h
  | 5, _ => cases h
  | 6, _ => cases h
theorem gap_len (k : Nat) : (gapAt k).length ≤ 7 := by
  rcases gap_cases k with e | e | e | e | e | e | e <;> rw [e] <;> decide
/-- Which gap stands ahead of a word. -/
def kOf (wh : List UInt8) (x : Wd) (frm i : Nat) : Nat := if (wh.getD (i % wh.length) 0).toNat % 7 = 0 ∧ frm < x.frm ∧ 0 < i then 1 else (wh.getD (i % wh.length) 0).toNat % 7
theorem kOf_lt (wh : List UInt8) (x : Wd) (frm i : Nat) : kOf wh x frm i < 7 := by
  unfold kOf
  split
  · decide
  · exact Nat.mod_lt _ (by decide)
theorem kOf_zero {wh : List UInt8} {x : Wd} {frm i : Nat} (h : kOf wh x frm i = 0) (hi : 0 < i) : x.frm ≤ frm := by
  unfold kOf at h
  split at h
  · cases h
  · rename_i hn
    rcases Nat.lt_or_ge frm x.frm with h1 | h1
    · exact absurd ⟨h, h1, hi⟩ hn
    · exact h1
def ownB (s : List UInt8) (x : Wd) : List UInt8 := (s.drop x.frm).take (x.til - x.frm)
/-- The text that is put together, from a word on. -/
def partL (s wh : List UInt8) : Nat → Nat → List Wd → List UInt8
  | _, _, [] => gapAt ((wh.getD 0 0).toNat % 7) ++ endL
  | i, frm, x :: r => gapAt (kOf wh x frm i) ++ (ownB s x ++ partL s wh (i + 1) x.til r)
theorem part_first {s wh : List UInt8} {i frm p : Nat} {ls : List Wd} {x : Wd} (hst : Stand s frm ls) (hx : wordL s p = some x) (ht : x.til = frm) (hi : 0 < i) (c : UInt8) (hc : (partL s wh i frm ls)[0]? = some c) :
    (x.kind = 1 → alnum c = false) ∧ (x.kind = 11 → c ≠ 45) := by
  cases ls with
  | nil =>
    simp only [partL] at hc
    by_cases hg : gapAt ((wh.getD 0 0).toNat % 7) = []
    · rw [hg] at hc
      simp [endL] at hc
      subst hc
      exact ⟨fun _ => by decide, fun _ => by decide⟩
    · have := gap_first hc hg
      exact ⟨fun _ => this.1, fun _ => this.2⟩
  | cons y r =>
    simp only [partL] at hc
    by_cases hg : gapAt (kOf wh y frm i) = []
    · have h0 := kOf_zero (gap_none (kOf_lt _ _ _ _) hg) hi
      rw [hg, List.nil_append] at hc
      obtain ⟨h1, h2, h3⟩ := hst
      have hn := next_ge s frm
      have hy := word_til h2
      have hyf : y.frm = nextL s frm := by
        unfold wordL at h2
        cases hq : headW (s.drop (nextL s frm)) with
        | none => rw [hq] at h2; cases h2
        | some z => rw [hq] at h2; cases h2; rfl
      have e0 : y.frm = frm := by omega
      have hs : s[frm]? = some c := by
        rw [List.getElem?_append_left (by unfold ownB; rw [List.length_take, List.length_drop]; omega)] at hc
        unfold ownB at hc
        rw [List.getElem?_take_of_lt (by omega), List.getElem?_drop, Nat.add_zero, e0] at hc
        exact hc
      unfold wordL at hx
      cases hq : headW (s.drop p) with
      | none => rw [hq] at hx; cases hx
      | some z =>
        rw [hq] at hx; cases hx
        simp only at ht ⊢
        have hz : (s.drop p)[z.til]? = some c := by rw [List.getElem?_drop, ht]; exact hs
        refine ⟨fun hk => head_name hq hk c hz, fun hk hc => ?_⟩
        have hh := head_sign hq hk
        rw [hh.1] at hz
        exact hh.2 (by rw [hz, hc])
    · have := gap_first hc hg
      exact ⟨fun _ => this.1, fun _ => this.2⟩
/-- The words of the text that is put together. -/
theorem part_run (s wh : List UInt8) : ∀ (ls : List Wd) (i frm : Nat), Stand s frm ls → ∀ pre : List UInt8,
    (RW (pre ++ partL s wh i frm ls) (nextL (pre ++ partL s wh i frm ls) pre.length)).2 = none ∧ (RW (pre ++ partL s wh i frm ls) (nextL (pre ++ partL s wh i frm ls) pre.length)).1.map bareP = ls.map bareP
  | [], i, frm, hst, pre => by
    have e : nextL (pre ++ partL s wh i frm []) pre.length = (pre ++ partL s wh i frm []).length := by
      unfold nextL
      rw [List.drop_left]
      simp only [partL]
      rw [gap_skip, List.length_append, List.length_append]
      rfl
    rw [e, RW_end (Nat.le_refl _)]
    exact ⟨rfl, rfl⟩
  | x :: r, i, frm, hst, pre => by
    obtain ⟨h1, h2, h3⟩ := hst
    have hq2 := h2
    unfold wordL at hq2
    cases hq : headW (s.drop (nextL s frm)) with
    | none => rw [hq] at hq2; cases hq2
    | some z =>
      rw [hq] at hq2
      cases hq2
      have hl := head_len hq
      rw [List.length_drop] at hl
      generalize hO : partL s wh (i + 1) (nextL s frm + z.til) r = O at *
      have hPF : ∀ c, O[0]? = some c → (z.kind = 1 → alnum c = false) ∧ (z.kind = 11 → c ≠ 45) := fun c hc => part_first (wh := wh) (i := i + 1) h3 h2 rfl (by omega) c (by simp only; rw [hO]; exact hc)
      have hown : ownB s { z with frm := nextL s frm, til := nextL s frm + z.til } = (s.drop (nextL s frm)).take z.til := by
        unfold ownB
        simp only
        rw [show nextL s frm + z.til - nextL s frm = z.til by omega]
      have hol : ((s.drop (nextL s frm)).take z.til).length = z.til := by rw [List.length_take, List.length_drop]; omega
      have hz : headW ((s.drop (nextL s frm)).take z.til ++ O) = some z := by
        refine head_ag hq (fun j hj => ?_) ⟨fun hk c hc => ?_, fun hk hc => ?_⟩
        · rw [List.getElem?_append_left (by rw [hol]; exact hj), List.getElem?_take_of_lt hj]
        · rw [List.getElem?_append_right (by rw [hol]; exact Nat.le_refl _), hol, Nat.sub_self] at hc
          exact (hPF c hc).1 hk
        · have hh := head_sign hq hk
          rw [List.getElem?_append_right (by rw [hol]; omega), hol, hh.1] at hc
          exact (hPF 45 hc).2 hk rfl
      have ep : partL s wh i frm ({ z with frm := nextL s frm, til := nextL s frm + z.til } :: r) = gapAt (kOf wh { z with frm := nextL s frm, til := nextL s frm + z.til } frm i) ++ ((s.drop (nextL s frm)).take z.til ++ O) := by
        simp only [partL]
        rw [hown, hO]
      rw [ep]
      have hg := gap_skip (kOf wh { z with frm := nextL s frm, til := nextL s frm + z.til } frm i) ((s.drop (nextL s frm)).take z.til ++ O)
      rw [head_stop hz, Nat.add_zero] at hg
      generalize gapAt (kOf wh { z with frm := nextL s frm, til := nextL s frm + z.til } frm i) = g at *
      have ih := part_run s wh r (i + 1) _ h3 (pre ++ g ++ (s.drop (nextL s frm)).take z.til)
      simp only [hO] at ih
      clear ep hown
      generalize (s.drop (nextL s frm)).take z.til = W at *
      have en : nextL (pre ++ (g ++ (W ++ O))) pre.length = (pre ++ g).length := by unfold nextL; rw [List.drop_left, hg, List.length_append]
      have ea : pre ++ (g ++ (W ++ O)) = (pre ++ g) ++ (W ++ O) := by simp
      have eb : (pre ++ g) ++ (W ++ O) = (pre ++ g ++ W) ++ O := by simp
      have el : (pre ++ g).length + z.til = (pre ++ g ++ W).length := by rw [show (pre ++ g ++ W).length = (pre ++ g).length + W.length from List.length_append, hol]
      have hw : wordL ((pre ++ g) ++ (W ++ O)) (pre ++ g).length = some { z with frm := (pre ++ g).length, til := (pre ++ g).length + z.til } := by unfold wordL; rw [List.drop_left, hz]; rfl
      have hlt : (pre ++ g).length < ((pre ++ g) ++ (W ++ O)).length := by rw [show ((pre ++ g) ++ (W ++ O)).length = (pre ++ g).length + (W ++ O).length from List.length_append, show (W ++ O).length = W.length + O.length from List.length_append]; omega
      rw [en, ea, RW_word hlt hw]
      simp only
      rw [eb, el]
      refine ⟨ih.1, ?_⟩
      rw [List.map_cons, List.map_cons, ih.2]
      rfl
theorem part_len (s wh : List UInt8) : ∀ (ls : List Wd) (i frm : Nat), Stand s frm ls → frm ≤ s.length → (partL s wh i frm ls).length + frm ≤ s.length + 7 * ls.length + 16
  | [], i, frm, hst, hf => by
    have := gap_len ((wh.getD 0 0).toNat % 7)
    simp only [partL, List.length_append, endL, List.length_cons, List.length_nil]
    omega
  | x :: r, i, frm, hst, hf => by
    obtain ⟨h1, h2, h3⟩ := hst
    have ht := word_til h2
    have hn := next_ge s frm
    have hxf : x.frm = nextL s frm := by
      unfold wordL at h2
      cases hq : headW (s.drop (nextL s frm)) with
      | none => rw [hq] at h2; cases h2
      | some z => rw [hq] at h2; cases h2; rfl
    have ih := part_len s wh r (i + 1) x.til h3 (by omega)
    have := gap_len (kOf wh x frm i)
    simp only [partL, List.length_append, List.length_cons]
    have : (ownB s x).length ≤ x.til - x.frm := by unfold ownB; rw [List.length_take]; omega
    omega
theorem stand_len (s : List UInt8) : ∀ (ls : List Wd) (frm : Nat), Stand s frm ls → ls.length + frm ≤ s.length + frm ∧ (frm ≤ s.length → ls.length + frm ≤ s.length)
  | [], frm, _ => by simp
  | x :: r, frm, ⟨h1, h2, h3⟩ => by
    have ht := word_til h2
    have hn := next_ge s frm
    have ih := (stand_len s r x.til h3).2 (by omega)
    simp only [List.length_cons]
    omega
/-- The words are the same. -/
theorem words_parted {s wh : List UInt8} {ls : List Wd} {a : Nat} (hs : s.length ≤ 3000) (h : wordsL s = (ls, a, 0)) : ∃ m, wordsL (partL s wh 0 0 ls) = (m, 0, 0) ∧ m.map bareP = ls.map bareP := by
  have hst := (words_stand (by omega) h).2
  have h1 := part_len s wh ls 0 0 hst (by omega)
  have h2 := (stand_len s ls 0 hst).2 (by omega)
  have h3 := part_run s wh ls 0 0 hst []
  simp only [List.nil_append, List.length_nil] at h3
  refine ⟨_, ?_, h3.2⟩
  rw [wordsL_of (by omega), h3.1]
end Go.Proofs.Ytidcoldoalimfaa
