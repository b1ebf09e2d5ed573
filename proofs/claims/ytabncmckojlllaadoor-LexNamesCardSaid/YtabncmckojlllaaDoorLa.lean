/- Plain laws of reading signs, literals and classes (layer 3) and words (layer 6): lists of bytes, no program in sight. -/
import Derived.Test.YtabncmckojlllaaDoorQb
namespace Go.Proofs.YtabncmckojlllaaDoor
set_option linter.unusedSimpArgs false
set_option linter.unusedVariables false

/-! ### signs -/
/-- What comes of reading a sign: its byte and the place behind it, or the place of what is wrong, and how. -/
inductive SR where
  | ok (b : UInt8) (n : Nat)
  | no (p : Nat) (e : Nat)
deriving DecidableEq
def hexV (b : UInt8) : Option Nat :=
  if 48 ≤ b.toNat ∧ b.toNat ≤ 57 then some (b.toNat - 48)
  else if 97 ≤ b.toNat ∧ b.toNat ≤ 102 then some (b.toNat - 87)
  else if 65 ≤ b.toNat ∧ b.toNat ≤ 70 then some (b.toNat - 55) else none
theorem hexV_lt {b : UInt8} {x : Nat} (h : hexV b = some x) : x < 16 := by
  unfold hexV at h
  split at h
  · cases h; omega
  split at h
  · cases h; omega
  split at h
  · cases h; omega
  · cases h
/-- Two hexadecimal digits. -/
def hexR (t : List UInt8) (a : Nat) : SR :=
  match t[a]? with
  | none => .no t.length 8
  | some c => match hexV c with
    | none => .no a 4
    | some x => match t[a + 1]? with
      | none => .no t.length 8
      | some d => match hexV d with
        | none => .no (a + 1) 4
        | some y => .ok (UInt8.ofNat (16 * x + y)) (a + 2)
/-- What stands behind a backslash. -/
def meantB (left : List UInt8) (c : UInt8) : Option UInt8 :=
  if c ∈ left then some c else if c = 110 then some 10 else if c = 114 then some 13 else if c = 116 then some 9 else if c = 92 then some 92 else none
def signR (left : List UInt8) (t : List UInt8) (a : Nat) : SR :=
  match t[a]? with
  | none => .no t.length 8
  | some b =>
    if b = 92 then
      (match t[a + 1]? with
       | none => .no t.length 8
       | some c => match meantB left c with
         | some v => .ok v (a + 2)
         | none => if c = 120 then hexR t (a + 2) else .no (a + 1) 4)
    else if plainP b left then .ok b (a + 1) else .no a 4
theorem hexR_ok {t : List UInt8} {a n : Nat} {b : UInt8} (h : hexR t a = .ok b n) : n = a + 2 ∧ n ≤ t.length := by
  unfold hexR at h
  split at h
  · cases h
  split at h
  · cases h
  split at h
  · cases h
  rename_i d hd
  split at h
  · cases h
  · cases h
    have := (List.getElem?_eq_some_iff.1 hd).1
    exact ⟨rfl, by omega⟩
theorem hexR_no {t : List UInt8} {a p e : Nat} (h : hexR t a = .no p e) : (e = 8 ∧ p = t.length) ∨ (e = 4 ∧ a ≤ p ∧ p < t.length) := by
  unfold hexR at h
  split at h
  · cases h; exact .inl ⟨rfl, rfl⟩
  rename_i c hc
  have hc := (List.getElem?_eq_some_iff.1 hc).1
  split at h
  · cases h; exact .inr ⟨rfl, by omega, hc⟩
  split at h
  · cases h; exact .inl ⟨rfl, rfl⟩
  rename_i d hd
  have hd := (List.getElem?_eq_some_iff.1 hd).1
  split at h
  · cases h; exact .inr ⟨rfl, by omega, hd⟩
  · cases h
theorem signR_ok {left t : List UInt8} {a n : Nat} {b : UInt8} (h : signR left t a = .ok b n) : a < n ∧ n ≤ t.length := by
  unfold signR at h
  split at h
  · cases h
  rename_i c hc
  have hc := (List.getElem?_eq_some_iff.1 hc).1
  split at h
  · split at h
    · cases h
    rename_i d hd
    have hd := (List.getElem?_eq_some_iff.1 hd).1
    split at h
    · cases h; exact ⟨by omega, by omega⟩
    split at h
    · have := hexR_ok h; omega
    · cases h
  · split at h
    · cases h; exact ⟨by omega, by omega⟩
    · cases h
theorem signR_no {left t : List UInt8} {a p e : Nat} (h : signR left t a = .no p e) : (e = 8 ∧ p = t.length) ∨ (e = 4 ∧ a ≤ p ∧ p < t.length) := by
  unfold signR at h
  split at h
  · cases h; exact .inl ⟨rfl, rfl⟩
  rename_i c hc
  have hc := (List.getElem?_eq_some_iff.1 hc).1
  split at h
  · split at h
    · cases h; exact .inl ⟨rfl, rfl⟩
    rename_i d hd
    have hd := (List.getElem?_eq_some_iff.1 hd).1
    split at h
    · cases h
    split at h
    · rcases hexR_no h with h | ⟨h1, h2, h3⟩
      · exact .inl h
      · exact .inr ⟨h1, by omega, h3⟩
    · cases h; exact .inr ⟨rfl, by omega, hd⟩
  · split at h
    · cases h
    · cases h; exact .inr ⟨rfl, by omega, hc⟩

/-! ### signs, one by one -/
/-- The bytes that are told, and where the reader comes to stand, with which error. -/
def runR (left : List UInt8) (en : UInt8) (t : List UInt8) : Nat → Nat → List UInt8 × Nat × Nat
  | 0, a => ([], a, 0)
  | f + 1, a =>
    if t[a]? = some en then ([], a, 0)
    else match signR left t a with
      | .no p e => ([], p, e)
      | .ok b n => (b :: (runR left en t f n).1, (runR left en t f n).2)

/-! ### literals -/
def unlitR (t : List UInt8) : List UInt8 × Nat × Nat :=
  match t[0]? with
  | none => ([], 0, 8)
  | some c =>
    if c ≠ 34 then ([], 0, 4)
    else
      let r := runR [34] 34 t t.length 1
      if r.2.2 ≠ 0 then ([], r.2.1, r.2.2) else if 255 < r.1.length then ([], 0, 40) else (r.1, r.2.1 + 1, 0)

/-! ### classes -/
abbrev clsL : List UInt8 := [93, 45, 94]
/-- The second sign of a range, or the first one again. -/
def highR (t : List UInt8) (a : UInt8) (n : Nat) : SR := if t[n]? = some 45 then signR clsL t (n + 1) else .ok a n
/-- The ranges, and where the reader comes to stand. -/
def rangesR (t : List UInt8) : Nat → Nat → List (UInt8 × UInt8) × Nat × Nat
  | 0, a => ([], a, 0)
  | f + 1, a =>
    if t[a]? = some 93 then ([], a, 0)
    else match signR clsL t a with
      | .no p e => ([], p, e)
      | .ok b n => match highR t b n with
        | .no p e => ([], p, e)
        | .ok c m => if c.toNat < b.toNat then ([], a, 4) else ((b, c) :: (rangesR t f m).1, (rangesR t f m).2)
def inRanges (l : List (UInt8 × UInt8)) (k : Nat) : Bool := l.any fun r => decide (r.1.toNat ≤ k ∧ k ≤ r.2.toNat)
/-- Four words, of what is in a set. -/
def wordB (f : Nat → Bool) (i : Nat) : Nat → Nat
  | 0 => 0
  | n + 1 => wordB f i n + if f (i * 64 + n) then 2 ^ n else 0
def wordF (f : Nat → Bool) (i : Nat) : Nat := wordB f i 64
def wordsF (f : Nat → Bool) : List Nat := [wordF f 0, wordF f 1, wordF f 2, wordF f 3]
/-- A class that a text begins by: which bytes are in it, how long it is, the error. -/
def unclsR (t : List UInt8) : (Nat → Bool) × Nat × Nat :=
  match t[0]? with
  | none => (fun _ => false, 0, 8)
  | some c =>
    if c ≠ 91 then (fun _ => false, 0, 4)
    else
      let but := decide (t[1]? = some 94)
      let r := rangesR t t.length (if but then 2 else 1)
      if r.2.2 ≠ 0 then (fun _ => false, r.2.1, r.2.2) else (fun k => xor but (inRanges r.1 k), r.2.1 + 1, 0)

/-! ### words -/
structure Wd where
  kind : Nat
  frm : Nat
  til : Nat
  text : List UInt8
  s0 : Nat
  s1 : Nat
  s2 : Nat
  s3 : Nat
  low : Int
  high : Int
deriving DecidableEq
def partB (c : UInt8) : Bool := c = 32 || c = 9 || c = 13 || c = 10
/-- How many bytes part words; whether a comment has begun. -/
def skipM : Bool → List UInt8 → Nat
  | _, [] => 0
  | true, c :: r => 1 + skipM (c != 10) r
  | false, c :: r => if c = 35 then 1 + skipM true r else if partB c then 1 + skipM false r else 0
theorem skipM_le : ∀ (b : Bool) (l : List UInt8), skipM b l ≤ l.length
  | _, [] => by simp [skipM]
  | true, c :: r => by have := skipM_le (c != 10) r; simp only [skipM, List.length_cons]; omega
  | false, c :: r => by
    have h1 := skipM_le true r; have h2 := skipM_le false r
    simp only [skipM, List.length_cons]
    split
    · omega
    split <;> omega
def signK (c : UInt8) : Option Nat :=
  if c = 47 then some 3 else if c = 38 then some 4 else if c = 33 then some 5 else if c = 63 then some 6 else if c = 42 then some 7 else if c = 43 then some 8
  else if c = 40 then some 9 else if c = 41 then some 10 else if c = 62 then some 12 else if c = 58 then some 13 else none
/-- A count behind its first byte: how many bytes stand within, its numbers. -/
def countL (l : List UInt8) : Option (Nat × Int × Int) :=
  let c := cut1 125 l
  if c.2.2 = false then none
  else
    let d := cut1 44 c.1
    let lo := numL d.1 99
    if lo.2 ≠ 0 then none
    else if d.2.2 = false then some (c.1.length, lo.1, lo.1)
    else if d.2.1 = [] then some (c.1.length, lo.1, -1)
    else
      let hi := numL d.2.1 99
      if hi.2 ≠ 0 ∨ hi.1 < lo.1 then none else some (c.1.length, lo.1, hi.1)
def fullN : Nat := 18446744073709551615
/-- The word that a text begins by. -/
def headW (t : List UInt8) : Option Wd :=
  match t[0]? with
  | none => none
  | some c =>
    if isLetter c.toNat then
      (if (takeL t).length ≤ 32 then some ⟨1, 0, (takeL t).length, takeL t, 0, 0, 0, 0, 0, 0⟩ else none)
    else if c = 123 then (countL (t.drop 1)).map fun x => ⟨14, 0, x.1 + 2, [], 0, 0, 0, 0, x.2.1, x.2.2⟩
    else if c = 34 then (if (unlitR t).2.2 = 0 then some ⟨15, 0, (unlitR t).2.1, (unlitR t).1, 0, 0, 0, 0, 0, 0⟩ else none)
    else if c = 91 then (if (unclsR t).2.2 = 0 then some ⟨16, 0, (unclsR t).2.1, [], wordF (unclsR t).1 0, wordF (unclsR t).1 1, wordF (unclsR t).1 2, wordF (unclsR t).1 3, 0, 0⟩ else none)
    else if c = 46 then some ⟨16, 0, 1, [], fullN, fullN, fullN, fullN, 0, 0⟩
    else if c = 60 then (if t[1]? = some 45 then some ⟨2, 0, 2, [], 0, 0, 0, 0, 0, 0⟩ else some ⟨11, 0, 1, [], 0, 0, 0, 0, 0, 0⟩)
    else (signK c).map fun k => ⟨k, 0, 1, [], 0, 0, 0, 0, 0, 0⟩
/-- The word that begins at a place. -/
def wordL (s : List UInt8) (a : Nat) : Option Wd := (headW (s.drop a)).map fun w => { w with frm := a, til := a + w.til }
/-- Where the next word begins. -/
def nextL (s : List UInt8) (a : Nat) : Nat := a + skipM false (s.drop a)
/-- The words from a place on; last the place of what begins none. -/
def rawL (s : List UInt8) : Nat → Nat → List Wd × Option Nat
  | 0, _ => ([], none)
  | f + 1, a =>
    if s.length ≤ a then ([], none)
    else match wordL s a with
      | none => ([], some a)
      | some w => (w :: (rawL s f (nextL s w.til)).1, (rawL s f (nextL s w.til)).2)
/-- A text's words, the place of what is wrong, the error. -/
def wordsL (s : List UInt8) : List Wd × Nat × Nat :=
  if 65536 < s.length then ([], 65536, 40)
  else match (rawL s (s.length + 1) (nextL s 0)).2 with
    | some p => ([], p, 4)
    | none => ((rawL s (s.length + 1) (nextL s 0)).1, 0, 0)
end Go.Proofs.YtabncmckojlllaaDoor

/- Plain laws of these: enough fuel; what lies behind does not matter. -/
namespace Go.Proofs.YtabncmckojlllaaDoor
set_option linter.unusedSimpArgs false
set_option linter.unusedVariables false

theorem runR_stable (left : List UInt8) (en : UInt8) (t : List UInt8) : ∀ (f g a : Nat), a ≤ t.length → t.length < a + f → t.length < a + g → runR left en t f a = runR left en t g a
  | 0, _, a, ha, hf, _ => by omega
  | _, 0, a, ha, _, hg => by omega
  | f + 1, g + 1, a, ha, hf, hg => by
    simp only [runR]
    split
    · rfl
    cases e : signR left t a with
    | no p e => rfl
    | ok b n =>
      have h := signR_ok e
      simp only
      rw [runR_stable left en t f g n h.2 (by omega) (by omega)]
/-- The signs from a place on. -/
def RN (left : List UInt8) (en : UInt8) (t : List UInt8) (a : Nat) : List UInt8 × Nat × Nat := runR left en t (t.length + 1 - a) a
theorem RN_end {left : List UInt8} {en : UInt8} {t : List UInt8} {a : Nat} (h : t[a]? = some en) : RN left en t a = ([], a, 0) := by
  have hl := (List.getElem?_eq_some_iff.1 h).1
  unfold RN
  obtain ⟨k, hk⟩ : ∃ k, t.length + 1 - a = k + 1 := ⟨t.length - a, by omega⟩
  rw [hk, runR, if_pos h]
theorem RN_no {left : List UInt8} {en : UInt8} {t : List UInt8} {a p e : Nat} (ha : a ≤ t.length) (h : t[a]? ≠ some en) (hs : signR left t a = .no p e) : RN left en t a = ([], p, e) := by
  unfold RN
  obtain ⟨k, hk⟩ : ∃ k, t.length + 1 - a = k + 1 := ⟨t.length - a, by omega⟩
  rw [hk, runR, if_neg h, hs]
theorem RN_ok {left : List UInt8} {en : UInt8} {t : List UInt8} {a n : Nat} {b : UInt8} (h : t[a]? ≠ some en) (hs : signR left t a = .ok b n) : RN left en t a = (b :: (RN left en t n).1, (RN left en t n).2) := by
  have hl := signR_ok hs
  unfold RN
  obtain ⟨k, hk⟩ : ∃ k, t.length + 1 - a = k + 1 := ⟨t.length - a, by omega⟩
  rw [hk, runR, if_neg h, hs]
  simp only
  rw [runR_stable left en t k (t.length + 1 - n) n hl.2 (by omega) (by omega)]
theorem RN_len (left : List UInt8) (en : UInt8) (t : List UInt8) : ∀ (f a : Nat), a ≤ t.length → t.length < a + f → (runR left en t f a).1.length + a ≤ t.length ∧ ((runR left en t f a).2.2 = 0 → t[(runR left en t f a).2.1]? = some en ∧ a + (runR left en t f a).1.length ≤ (runR left en t f a).2.1)
  | 0, a, ha, hf => by omega
  | f + 1, a, ha, hf => by
    simp only [runR]
    split
    · rename_i h
      exact ⟨by simpa using ha, fun _ => ⟨h, by simp⟩⟩
    cases e : signR left t a with
    | no p e =>
      have := signR_no (by assumption)
      exact ⟨by simpa using ha, fun h => by simp only at h; omega⟩
    | ok b n =>
      have h := signR_ok e
      have ih := RN_len left en t f n h.2 (by omega)
      simp only [List.length_cons]
      refine ⟨by omega, fun h0 => ?_⟩
      have := ih.2 h0
      exact ⟨this.1, by omega⟩

theorem highR_ok {t : List UInt8} {a b : UInt8} {n m : Nat} (hn : n ≤ t.length) (h : highR t a n = .ok b m) : n ≤ m ∧ m ≤ t.length := by
  unfold highR at h
  split at h
  · have := signR_ok h; omega
  · cases h; exact ⟨by omega, hn⟩
theorem highR_no {t : List UInt8} {a : UInt8} {n p e : Nat} (h : highR t a n = .no p e) : (e = 8 ∧ p = t.length) ∨ (e = 4 ∧ n ≤ p ∧ p < t.length) := by
  unfold highR at h
  split at h
  · rcases signR_no h with h | h
    · exact .inl h
    · exact .inr ⟨h.1, by omega, h.2.2⟩
  · cases h
theorem rangesR_stable (t : List UInt8) : ∀ (f g a : Nat), a ≤ t.length → t.length < a + f → t.length < a + g → rangesR t f a = rangesR t g a
  | 0, _, a, ha, hf, _ => by omega
  | _, 0, a, ha, _, hg => by omega
  | f + 1, g + 1, a, ha, hf, hg => by
    simp only [rangesR]
    split
    · rfl
    cases e : signR clsL t a with
    | no p e => rfl
    | ok b n =>
      have h := signR_ok e
      simp only
      cases e2 : highR t b n with
      | no p e => rfl
      | ok c m =>
        have h2 := highR_ok h.2 e2
        simp only
        rw [rangesR_stable t f g m h2.2 (by omega) (by omega)]
def GN (t : List UInt8) (a : Nat) : List (UInt8 × UInt8) × Nat × Nat := rangesR t (t.length + 1 - a) a
theorem GN_end {t : List UInt8} {a : Nat} (h : t[a]? = some 93) : GN t a = ([], a, 0) := by
  have hl := (List.getElem?_eq_some_iff.1 h).1
  unfold GN
  obtain ⟨k, hk⟩ : ∃ k, t.length + 1 - a = k + 1 := ⟨t.length - a, by omega⟩
  rw [hk, rangesR, if_pos h]
theorem GN_no {t : List UInt8} {a p e : Nat} (ha : a ≤ t.length) (h : t[a]? ≠ some 93) (hs : signR clsL t a = .no p e) : GN t a = ([], p, e) := by
  unfold GN
  obtain ⟨k, hk⟩ : ∃ k, t.length + 1 - a = k + 1 := ⟨t.length - a, by omega⟩
  rw [hk, rangesR, if_neg h, hs]
theorem GN_high {t : List UInt8} {a n p e : Nat} {b : UInt8} (ha : a ≤ t.length) (h : t[a]? ≠ some 93) (hs : signR clsL t a = .ok b n) (hh : highR t b n = .no p e) : GN t a = ([], p, e) := by
  unfold GN
  obtain ⟨k, hk⟩ : ∃ k, t.length + 1 - a = k + 1 := ⟨t.length - a, by omega⟩
  rw [hk, rangesR, if_neg h, hs]
  simp only [hh]
theorem GN_less {t : List UInt8} {a n m : Nat} {b c : UInt8} (ha : a ≤ t.length) (h : t[a]? ≠ some 93) (hs : signR clsL t a = .ok b n) (hh : highR t b n = .ok c m) (hl : c.toNat < b.toNat) : GN t a = ([], a, 4) := by
  unfold GN
  obtain ⟨k, hk⟩ : ∃ k, t.length + 1 - a = k + 1 := ⟨t.length - a, by omega⟩
  rw [hk, rangesR, if_neg h, hs]
  simp only [hh, if_pos hl]
theorem GN_ok {t : List UInt8} {a n m : Nat} {b c : UInt8} (h : t[a]? ≠ some 93) (hs : signR clsL t a = .ok b n) (hh : highR t b n = .ok c m) (hl : ¬ c.toNat < b.toNat) : GN t a = ((b, c) :: (GN t m).1, (GN t m).2) := by
  have h1 := signR_ok hs
  have h2 := highR_ok h1.2 hh
  unfold GN
  obtain ⟨k, hk⟩ : ∃ k, t.length + 1 - a = k + 1 := ⟨t.length - a, by omega⟩
  rw [hk, rangesR, if_neg h, hs]
  simp only [hh, if_neg hl]
  rw [rangesR_stable t k (t.length + 1 - m) m h2.2 (by omega) (by omega)]
theorem GN_place (t : List UInt8) : ∀ f a, a ≤ t.length → (rangesR t f a).2.1 ≤ t.length
  | 0, a, ha => ha
  | f + 1, a, ha => by
    simp only [rangesR]
    split
    · exact ha
    cases e : signR clsL t a with
    | no p k => rcases signR_no e with h | h <;> simp only <;> omega
    | ok b n =>
      have h1 := signR_ok e
      simp only
      cases e2 : highR t b n with
      | no p k => rcases highR_no e2 with h | h <;> simp only <;> omega
      | ok c m =>
        have h2 := highR_ok h1.2 e2
        simp only
        split
        · exact ha
        · exact GN_place t f m h2.2
end Go.Proofs.YtabncmckojlllaaDoor
