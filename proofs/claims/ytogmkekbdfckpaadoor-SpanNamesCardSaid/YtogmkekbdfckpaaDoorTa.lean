/- Plain laws of layer 14: a text read line by line, strictly. -/
import Derived.Test.YtogmkekbdfckpaaDoorSz
import Derived.Test.YtogmkekbdfckpaaDoorSx
namespace Go.Proofs.YtogmkekbdfckpaaDoor
open Go.RowKit
set_option linter.unusedSimpArgs false
set_option linter.unusedVariables false

/-- A text's lines, each with whether it is ended; acc: what of the line was seen. -/
def seqA (acc : List UInt8) : List UInt8 → List (List UInt8 × Bool)
  | [] => if acc = [] then [] else [(acc, false)]
  | b :: l => if b = 10 then (acc, true) :: seqA [] l else seqA (acc ++ [b]) l
theorem seqA_cut : ∀ (l acc : List UInt8), acc ++ l ≠ [] → seqA acc l = (acc ++ (cut1 10 l).1, (cut1 10 l).2.2) :: seqA [] (cut1 10 l).2.1
  | [], acc, h => by simp at h; simp [seqA, cut1, h]
  | b :: l, acc, h => by
    by_cases hb : b = 10
    · simp [seqA, cut1, hb]
    · have ih := seqA_cut l (acc ++ [b]) (by simp)
      simp only [seqA, if_neg hb, cut1]
      rw [ih]; simp
def seqL (s : List UInt8) : List (List UInt8 × Bool) := seqA [] s
theorem seqL_nil : seqL [] = [] := rfl
theorem seqL_cut {s : List UInt8} (h : s ≠ []) : seqL s = ((cut1 10 s).1, (cut1 10 s).2.2) :: seqL (cut1 10 s).2.1 := by
  have := seqA_cut s [] (by simpa using h); simpa [seqL] using this
/-- A text that begins with a line. -/
theorem seqA_line (x acc rest : List UInt8) (h : 10 ∉ x) : seqA acc (x ++ [10] ++ rest) = (acc ++ x, true) :: seqL rest := by
  induction x generalizing acc with
  | nil => simp [seqA, seqL]
  | cons b x ih =>
    have hb : b ≠ 10 := fun e => h (by simp [e])
    have := ih (acc ++ [b]) (fun hh => h (by simp [hh]))
    simp only [List.cons_append, seqA, if_neg hb]
    simpa using this
theorem splitB_line (x rest : List UInt8) (c : UInt8) (h : c ∉ x) : splitB c (x ++ [c] ++ rest) = x :: splitB c rest := by
  induction x with
  | nil => simp [splitB]
  | cons b x ih =>
    have hb : b ≠ c := fun e => h (by simp [e])
    have := ih (fun hh => h (by simp [hh]))
    simp only [List.cons_append, splitB, if_neg hb, this, glue]; simp
theorem splitB_last (x : List UInt8) (c : UInt8) (h : c ∉ x) : splitB c x = [x] := by
  induction x with
  | nil => rfl
  | cons b x ih =>
    have hb : b ≠ c := fun e => h (by simp [e])
    rw [splitB, if_neg hb, ih (fun hh => h (by simp [hh]))]; rfl
theorem cut1_line (x rest : List UInt8) (c : UInt8) (h : c ∉ x) : cut1 c (x ++ [c] ++ rest) = (x, rest, true) := by
  induction x with
  | nil => simp [cut1]
  | cons b x ih =>
    have hb : b ≠ c := fun e => h (by simp [e])
    have := ih (fun hh => h (by simp [hh]))
    simp only [List.cons_append, cut1, if_neg hb, this]
theorem cut1_back {c : UInt8} {l : List UInt8} (h : (cut1 c l).2.2 = true) : l = (cut1 c l).1 ++ [c] ++ (cut1 c l).2.1 := by
  induction l with
  | nil => simp [cut1] at h
  | cons b l ih =>
    by_cases hb : b = c
    · simp [cut1, hb]
    · simp only [cut1, if_neg hb] at h ⊢
      simp only [List.cons_append]; rw [← ih h]

def capOf (r : List UInt8 × Int × Int) : Cap := ⟨⟨r.1.toArray⟩, r.2.1, r.2.2⟩
/-- One more line. -/
def stepP (st : Option (Nat × Outc)) (x : List UInt8 × Bool) : Option (Nat × Outc) := match st with
  | none => none
  | some (row, o) =>
    if x.2 = true ∧ row ≤ 65536 then
      if row = 0 then (if (headL x.1).2 = true then some (1, (headL x.1).1) else none)
      else (if (capL x.1).2 = true then some (row + 1, ⟨o.ok, o.to, o.caps ++ [capOf (capL x.1).1]⟩) else none)
    else none
def strict (xs : List (List UInt8 × Bool)) : Option (Nat × Outc) := xs.foldl stepP (some (0, ⟨false, 0, []⟩))
theorem strict_snoc (xs : List (List UInt8 × Bool)) (x : List UInt8 × Bool) : strict (xs ++ [x]) = stepP (strict xs) x := by simp [strict]
theorem stepP_none (xs : List (List UInt8 × Bool)) : xs.foldl stepP none = none := by induction xs with | nil => rfl | cons x xs ih => exact ih

/-! ### what the lines say is the text -/
def linesT (xs : List (List UInt8 × Bool)) : List UInt8 := xs.flatMap fun x => x.1 ++ [10]
def headT (o : Outc) : List UInt8 := if o.ok then headO o else [102, 97, 105, 108, 10]
theorem head_text {l : List UInt8} (h : (headL l).2 = true) : l ++ [10] = headT (headL l).1 := by
  unfold headL at h ⊢
  split
  · rename_i h1; rw [h1]; rfl
  · rename_i h1
    rw [if_neg h1] at h
    split
    · rename_i h2
      rw [if_pos h2] at h
      have hb := num_back (l.drop 6) 4096 (by simpa using h)
      have hp : l = [109, 97, 116, 99, 104, 32] ++ l.drop 6 := by
        obtain ⟨r, hr⟩ := List.isPrefixOf_iff_prefix.1 (show [109, 97, 116, 99, 104, 32].isPrefixOf l = true from h2)
        rw [← hr]; simp
      simp only [headT, headO, if_true, hb.1]
      rw [← hp]
    · rename_i h2
      rw [if_neg h2] at h; simp at h
theorem cap_text {l : List UInt8} (h : (capL l).2 = true) : l ++ [10] = lineC (capOf (capL l).1) := by
  simp only [capL, Bool.and_eq_true, beq_iff_eq] at h
  obtain ⟨⟨h1, h2⟩, h3⟩ := h
  have e2 := cut1_back h1
  have h0 : (cut1 32 l).2.2 = true := by
    rcases cut1_index 32 l with ⟨_, h⟩ | ⟨k, _, _, h⟩
    · rw [h] at h1; simp [cut1] at h1
    · rw [h]
  have e1 := cut1_back h0
  have b1 := num_back _ _ h2
  have b2 := num_back _ _ h3
  simp only [lineC, capOf, capL, b1.1, b2.1]
  show l ++ [10] = (cut1 32 l).1 ++ [32] ++ _ ++ [32] ++ _ ++ [10]
  conv => { lhs; rw [e1, e2] }
  simp
theorem strict_text : ∀ (xs : List (List UInt8 × Bool)) (row : Nat) (o : Outc), strict xs = some (row, o) →
    (∀ x ∈ xs, x.2 = true) ∧ row = xs.length ∧ ((row = 0 ∧ o = ⟨false, 0, []⟩) ∨ (row ≠ 0 ∧ row = o.caps.length + 1 ∧ linesT xs = headT o ++ o.caps.flatMap lineC)) := by
  intro xs
  induction xs using snocRec with
  | nil => intro row o h; simp [strict] at h; obtain ⟨rfl, rfl⟩ := h; exact ⟨by simp, rfl, .inl ⟨rfl, rfl⟩⟩
  | snoc xs x ih =>
    intro row o h
    rw [strict_snoc] at h
    cases hst : strict xs with
    | none => rw [hst] at h; cases h
    | some st =>
      obtain ⟨row', o'⟩ := st
      rw [hst] at h
      simp only [stepP] at h
      obtain ⟨i1, i2, i3⟩ := ih row' o' hst
      split at h
      · rename_i hx
        split at h
        · rename_i hr
          split at h
          · rename_i hh
            injection h with h; injection h with ha hb
            subst ha hb
            rcases i3 with ⟨_, _⟩ | ⟨hne, _⟩
            · refine ⟨fun y hy => ?_, by rw [List.length_append]; simp only [List.length_cons, List.length_nil]; omega, .inr ⟨by omega, by rw [head_caps]; rfl, ?_⟩⟩
              · rcases List.mem_append.1 hy with hy | hy
                · exact i1 y hy
                · simp only [List.mem_singleton] at hy; subst hy; exact hx.1
              · have : xs = [] := List.eq_nil_of_length_eq_zero (by omega)
                subst this
                rw [head_caps]
                simp only [linesT, List.nil_append, List.flatMap_cons, List.flatMap_nil, List.append_nil]
                exact head_text hh
            · exact absurd hr hne
          · cases h
        · rename_i hr
          split at h
          · rename_i hh
            injection h with h; injection h with ha hb
            subst ha hb
            rcases i3 with ⟨h0, _⟩ | ⟨hne, hl, ht⟩
            · exact absurd h0 hr
            · refine ⟨fun y hy => ?_, by simp; omega, .inr ⟨by omega, by simp; omega, ?_⟩⟩
              · rcases List.mem_append.1 hy with hy | hy
                · exact i1 y hy
                · simp only [List.mem_singleton] at hy; subst hy; exact hx.1
              · have : linesT (xs ++ [x]) = linesT xs ++ (x.1 ++ [10]) := by simp [linesT]
                rw [this, ht, cap_text hh, List.flatMap_append]
                simp only [headT, headO, List.flatMap_cons, List.flatMap_nil, List.append_nil, List.append_assoc]
          · cases h
      · cases h
/-- All lines ended: the lines are the text. -/
theorem seqA_text : ∀ (l acc : List UInt8), (∀ x ∈ seqA acc l, x.2 = true) → linesT (seqA acc l) = acc ++ l
  | [], acc, h => by
    by_cases ha : acc = []
    · simp [seqA, ha, linesT]
    · simp [seqA, ha] at h
  | b :: l, acc, h => by
    by_cases hb : b = 10
    · subst hb
      simp only [seqA, if_true] at h ⊢
      have := seqA_text l [] (fun x hx => h x (by simp [hx]))
      simp only [linesT, List.flatMap_cons] at this ⊢
      rw [this]; simp
    · simp only [seqA, if_neg hb] at h ⊢
      rw [seqA_text l (acc ++ [b]) h]; simp
theorem strict_sound {s : List UInt8} {row : Nat} {o : Outc} (h : strict (seqL s) = some (row, o)) (h0 : row ≠ 0) (hm : mayO o 4096 = true) : textO o = s := by
  obtain ⟨h1, h2, h3⟩ := strict_text _ _ _ h
  have ht := seqA_text s [] h1
  rcases h3 with ⟨h3, _⟩ | ⟨_, _, h4⟩
  · exact absurd h3 h0
  · rw [show seqA [] s = seqL s from rfl, h4, List.nil_append] at ht
    rw [← ht]
    unfold textO headT
    cases hk : o.ok
    · rw [mayO_false_caps' hm hk]; simp
    · simp
end Go.Proofs.YtogmkekbdfckpaaDoor
