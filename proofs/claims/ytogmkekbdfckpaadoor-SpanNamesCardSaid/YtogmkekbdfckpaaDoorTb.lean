/- Plain laws of layer 14: an outcome's text is read as that outcome. -/
import Derived.Test.YtogmkekbdfckpaaDoorTa
namespace Go.Proofs.YtogmkekbdfckpaaDoor
open Go.RowKit
set_option linter.unusedSimpArgs false
set_option linter.unusedVariables false

theorem may_alnum {l : List UInt8} (h : mayL l = true) : ∀ b ∈ l, alnum b = true := by
  simp only [mayL, decide_eq_true_eq] at h
  obtain ⟨_, _, h⟩ := h
  cases l with
  | nil => simp
  | cons c r =>
    by_cases hc : isLetter c.toNat = true
    · simp only [takeL, hc, if_true, List.cons.injEq, true_and] at h
      intro b hb
      rcases List.mem_cons.1 hb with rfl | hb
      · simp [alnum, hc]
      · rw [← h] at hb
        exact List.all_eq_true.1 (List.all_takeWhile (p := alnum) (l := r)) b hb
    · simp [takeL, hc] at h
theorem alnum_not {b : UInt8} (h : alnum b = true) : b ≠ 10 ∧ b ≠ 32 := by
  constructor <;> (rintro rfl; exact absurd h (by decide))
theorem name_no {l : List UInt8} (h : mayL l = true) : 10 ∉ l ∧ 32 ∉ l := ⟨fun hb => (alnum_not (may_alnum h _ hb)).1 rfl, fun hb => (alnum_not (may_alnum h _ hb)).2 rfl⟩
theorem itoa_no {n : Int} (h : 0 ≤ n) : 10 ∉ Lib.itoa n ∧ 32 ∉ Lib.itoa n := by
  obtain ⟨m, rfl⟩ := Int.eq_ofNat_of_zero_le h
  rw [itoa_nat]
  have hd := List.all_eq_true.1 (dd_allDig m)
  constructor
  · intro hb; exact absurd (hd _ hb) (by decide)
  · intro hb; exact absurd (hd _ hb) (by decide)
theorem num_itoa {n : Int} (h0 : 0 ≤ n) (h1 : n ≤ 4096) : numL (Lib.itoa n) 4096 = (n, 0) := by
  obtain ⟨m, rfl⟩ := Int.eq_ofNat_of_zero_le h0
  rw [itoa_nat, numL, if_pos (dd_numText m), decVal_digits, if_neg (by omega)]

def body (c : Cap) : List UInt8 := c.name.data.toList ++ [32] ++ Lib.itoa c.frm ++ [32] ++ Lib.itoa c.to
def hbody (o : Outc) : List UInt8 := [109, 97, 116, 99, 104, 32] ++ Lib.itoa o.to
def CapFine (c : Cap) : Prop := mayL c.name.data.toList = true ∧ 0 ≤ c.frm ∧ c.frm ≤ c.to ∧ c.to ≤ 4096
theorem body_no {c : Cap} (h : CapFine c) : 10 ∉ body c := by
  have h1 := name_no h.1
  have h2 := itoa_no h.2.1
  have h3 := itoa_no (show 0 ≤ c.to by have := h.2.1; have := h.2.2.1; omega)
  simp only [body, List.mem_append, List.mem_singleton]
  rintro ((((h | h) | h) | h) | h)
  · exact h1.1 h
  · exact absurd h (by decide)
  · exact h2.1 h
  · exact absurd h (by decide)
  · exact h3.1 h
theorem body_split {c : Cap} (h : CapFine c) : splitB 32 (body c) = [c.name.data.toList, Lib.itoa c.frm, Lib.itoa c.to] := by
  have h1 := name_no h.1
  have h2 := itoa_no h.2.1
  have h3 := itoa_no (show 0 ≤ c.to by have := h.2.1; have := h.2.2.1; omega)
  rw [show body c = c.name.data.toList ++ [32] ++ (Lib.itoa c.frm ++ [32] ++ Lib.itoa c.to) by simp [body], splitB_line _ _ _ h1.2, splitB_line _ _ _ h2.2, splitB_last _ _ h3.2]
theorem body_cap {c : Cap} (h : CapFine c) : capL (body c) = ((c.name.data.toList, c.frm, c.to), true) := by
  have h1 := name_no h.1
  have h2 := itoa_no h.2.1
  have n1 := num_itoa h.2.1 (by have := h.2.2.1; have := h.2.2.2; omega)
  have n2 := num_itoa (show 0 ≤ c.to by have := h.2.1; have := h.2.2.1; omega) h.2.2.2
  have e : cut1 32 (body c) = (c.name.data.toList, Lib.itoa c.frm ++ [32] ++ Lib.itoa c.to, true) := by
    rw [show body c = c.name.data.toList ++ [32] ++ (Lib.itoa c.frm ++ [32] ++ Lib.itoa c.to) by simp [body], cut1_line _ _ _ h1.2]
  simp only [capL, e, cut1_line _ _ _ h2.2, n1, n2]; rfl
theorem cap_eta (c : Cap) : capOf (c.name.data.toList, c.frm, c.to) = c := by
  obtain ⟨n, f, t⟩ := c; simp only [capOf, ba_eta]
theorem body_lineCap {c : Cap} (h : CapFine c) : lineCap (body c) = some c := by
  have n1 := num_itoa h.2.1 (by have := h.2.2.1; have := h.2.2.2; omega)
  have n2 := num_itoa (show 0 ≤ c.to by have := h.2.1; have := h.2.2.1; omega) h.2.2.2
  obtain ⟨n, f, t⟩ := c
  simp only [lineCap, body_split h, n1, n2, ba_eta]
theorem hbody_head {o : Outc} (h0 : 0 ≤ o.to) (h1 : o.to ≤ 4096) : headL (hbody o) = (⟨true, o.to, []⟩, true) := by
  have hp : Lib.hasPrefix (hbody o) [109, 97, 116, 99, 104, 32] = true := by
    show [109, 97, 116, 99, 104, 32].isPrefixOf (hbody o) = true
    rw [List.isPrefixOf_iff_prefix]; exact ⟨_, rfl⟩
  have hf : hbody o ≠ [102, 97, 105, 108] := by simp [hbody]
  unfold headL
  rw [if_neg hf, if_pos hp, show (hbody o).drop 6 = Lib.itoa o.to by simp [hbody], num_itoa h0 h1]; rfl
theorem hbody_no {o : Outc} (h0 : 0 ≤ o.to) : 10 ∉ hbody o := by
  have h2 := itoa_no h0
  simp only [hbody, List.mem_append]
  rintro (h | h)
  · exact absurd h (by decide)
  · exact h2.1 h
theorem hbody_line {o : Outc} (h0 : 0 ≤ o.to) (h1 : o.to ≤ 4096) : lineHead (hbody o) = some o.to := by
  have h2 := itoa_no h0
  rw [lineHead, show hbody o = [109, 97, 116, 99, 104] ++ [32] ++ Lib.itoa o.to by simp [hbody], splitB_line _ _ _ (by decide), splitB_last _ _ h2.2]
  simp only [num_itoa h0 h1]

theorem seq_caps : ∀ (l : List Cap), (∀ c ∈ l, CapFine c) → seqL (l.flatMap lineC) = l.map fun c => (body c, true)
  | [], _ => rfl
  | c :: r, h => by
    have := seqA_line (body c) [] (r.flatMap lineC) (body_no (h c (by simp)))
    rw [seq_caps r (fun d hd => h d (by simp [hd]))] at this
    rw [List.flatMap_cons, seqL, show lineC c = body c ++ [10] by simp [lineC, body]]
    simpa using this
theorem split_caps : ∀ (l : List Cap), (∀ c ∈ l, CapFine c) → splitB 10 (l.flatMap lineC) = l.map body ++ [[]]
  | [], _ => rfl
  | c :: r, h => by
    have := splitB_line (body c) (r.flatMap lineC) 10 (body_no (h c (by simp)))
    rw [split_caps r (fun d hd => h d (by simp [hd]))] at this
    rw [List.flatMap_cons, show lineC c = body c ++ [10] by simp [lineC, body], this]; simp
theorem fold_caps : ∀ (l : List Cap) (row : Nat) (o : Outc), (∀ c ∈ l, CapFine c) → row ≠ 0 → row + l.length ≤ 65537 →
    (l.map fun c => (body c, true)).foldl stepP (some (row, o)) = some (row + l.length, ⟨o.ok, o.to, o.caps ++ l⟩)
  | [], row, o, _, _, _ => by simp
  | c :: r, row, o, h, h0, hr => by
    simp only [List.length_cons] at hr
    have hs : stepP (some (row, o)) (body c, true) = some (row + 1, ⟨o.ok, o.to, o.caps ++ [c]⟩) := by
      simp only [stepP, body_cap (h c (by simp)), cap_eta, if_neg h0]
      rw [if_pos ⟨trivial, by omega⟩]; simp
    rw [List.map_cons, List.foldl_cons, hs, fold_caps r (row + 1) _ (fun d hd => h d (by simp [hd])) (by omega) (by omega)]
    simp only [List.length_cons, List.append_assoc, List.cons_append, List.nil_append]
    congr 2; omega
theorem strict_of_text {o : Outc} (hm : mayO o 4096 = true) : ∃ n, n ≠ 0 ∧ strict (seqL (textO o)) = some (n, o) := by
  obtain ⟨h0, h1, h2, h3⟩ := mayO_caps' hm
  obtain ⟨ok, tt, l⟩ := o
  simp only at h0 h1 h2 h3
  cases ok
  · have := mayO_false_caps' hm rfl
    simp only at this; subst this
    have ht : tt = 0 := by have := hm; simp [mayO] at this; exact this
    subst ht
    exact ⟨1, by decide, by decide⟩
  · refine ⟨1 + l.length, by omega, ?_⟩
    have e := seqA_line (hbody ⟨true, tt, l⟩) [] (l.flatMap lineC) (hbody_no h0)
    rw [seq_caps l h3] at e
    rw [show textO ⟨true, tt, l⟩ = hbody ⟨true, tt, l⟩ ++ [10] ++ l.flatMap lineC by simp [textO, headO, hbody], seqL, e, strict, List.foldl_cons]
    rw [show stepP (some (0, ⟨false, 0, []⟩)) ([] ++ hbody ⟨true, tt, l⟩, true) = some (1, ⟨true, tt, []⟩) by
      simp only [stepP, List.nil_append, hbody_head (o := ⟨true, tt, l⟩) h0 h1]; rfl]
    rw [fold_caps l 1 _ h3 (by omega) (by omega)]; rfl
theorem lo_caps (h : List UInt8) (l : List Cap) (n : Int) (hf : ∀ c ∈ l, CapFine c) (hh : lineHead h = some n) : ∀ j, j ≤ l.length → loN (h :: (l.map body ++ [[]])) (j + 1) = ⟨true, n, l.take j⟩
  | 0, _ => by simp [loN, hh]
  | j + 1, hj => by
    have ih := lo_caps h l n hf hh j (by omega)
    rw [loN, if_neg (by omega), ih]
    have hg : (h :: (l.map body ++ [[]])).getD (j + 1) [] = body l[j] := by
      simp [List.getD, List.getElem?_append_left (show j < (l.map body).length by simp; omega), List.getElem?_eq_getElem (show j < l.length by omega)]
    rw [hg, body_lineCap (hf _ (List.getElem_mem _))]
    simp only [List.take_succ_eq_append_getElem (show j < l.length by omega)]
theorem lo_of_text {o : Outc} (hm : mayO o 4096 = true) : loO (textO o) = o := by
  obtain ⟨h0, h1, h2, h3⟩ := mayO_caps' hm
  obtain ⟨ok, tt, l⟩ := o
  simp only at h0 h1 h2 h3
  cases ok
  · have := mayO_false_caps' hm rfl
    simp only at this; subst this
    have ht : tt = 0 := by have := hm; simp [mayO] at this; exact this
    subst ht
    decide
  · have e := splitB_line (hbody ⟨true, tt, l⟩) (l.flatMap lineC) 10 (hbody_no h0)
    rw [split_caps l h3] at e
    unfold loO
    rw [show textO ⟨true, tt, l⟩ = hbody ⟨true, tt, l⟩ ++ [10] ++ l.flatMap lineC by simp [textO, headO, hbody], e]
    have hl := lo_caps (hbody ⟨true, tt, l⟩) l tt h3 (hbody_line (o := ⟨true, tt, l⟩) h0 h1) l.length (Nat.le_refl _)
    rw [List.take_length] at hl
    rw [show (hbody ⟨true, tt, l⟩ :: (l.map body ++ [[]])).length = l.length + 1 + 1 by simp, loN, if_neg (by omega), hl]
    have hg : (hbody ⟨true, tt, l⟩ :: (l.map body ++ [[]])).getD (l.length + 1) [] = [] := by simp [List.getD]
    rw [hg]; rfl
/-- Both readings come to the same. -/
theorem strict_parse {s : List UInt8} {row : Nat} {o : Outc} (h : strict (seqL s) = some (row, o)) (h0 : row ≠ 0) (hm : mayO o 4096 = true) : parseO s = (o, 0) := by
  have ht := strict_sound h h0 hm
  have hl := lo_of_text hm
  rw [ht] at hl
  exact parse_yes hl hm ht
theorem strict_none {s : List UInt8} (h : ∀ row o, strict (seqL s) = some (row, o) → row ≠ 0 → mayO o 4096 = false) : parseO s = (⟨false, 0, []⟩, 4) := by
  refine parse_no rfl (fun hm ht => ?_)
  obtain ⟨n, hn, hs⟩ := strict_of_text hm
  rw [ht] at hs
  rw [h n _ hs hn] at hm; cases hm
end Go.Proofs.YtogmkekbdfckpaaDoor
