/- Plain laws of texts: signs, literals, classes, numbers are read as they were written. -/
import Derived.Test.YtmjkgnknfgoadaaGreatDoorQb
namespace Go.Proofs.YtmjkgnknfgoadaaGreatDoor
set_option linter.unusedSimpArgs false
set_option linter.unusedVariables false

def hexN (c : UInt8) : Nat := if c.toNat < 58 then c.toNat - 48 else c.toNat - 87
theorem hex_back (n : Nat) (h : n < 16) : hexN (hexB n) = n := by
  have : ∀ k : Fin 16, hexN (hexB k.val) = k.val := by decide
  exact this ⟨n, h⟩
theorem hex_byte (n : Nat) (h : n < 16) : hexB n ≠ 34 ∧ hexB n ≠ 93 ∧ hexB n ≠ 92 := by
  have : ∀ k : Fin 16, hexB k.val ≠ 34 ∧ hexB k.val ≠ 93 ∧ hexB k.val ≠ 92 := by decide
  exact this ⟨n, h⟩
/-- One sign is read. -/
def unS (s : List UInt8) : UInt8 × List UInt8 :=
  match s with
  | [] => (0, [])
  | c :: r => if c ≠ 92 then (c, r) else
    match r with
    | [] => (0, [])
    | d :: r => if d = 110 then (10, r) else if d = 114 then (13, r) else if d = 116 then (9, r) else if d = 120 then
        (match r with
        | x :: y :: r => (UInt8.ofNat (hexN x * 16 + hexN y), r)
        | _ => (0, []))
      else (d, r)
def leftOk (left : List UInt8) : Prop := ∀ x ∈ left, x ≠ 110 ∧ x ≠ 114 ∧ x ≠ 116 ∧ x ≠ 120
theorem unS_sign {left : List UInt8} (hl : leftOk left) (b : UInt8) (r : List UInt8) : unS (signB left b ++ r) = (b, r) := by
  unfold signB
  split
  · rename_i h
    simp only [List.singleton_append, unS, if_pos h.2.1]
  split
  · rename_i h; subst h; rfl
  split
  · rename_i h; subst h; rfl
  split
  · rename_i h; subst h; rfl
  split
  · rename_i h
    have hb : b ≠ 110 ∧ b ≠ 114 ∧ b ≠ 116 ∧ b ≠ 120 := by
      rcases h with rfl | h
      · decide
      · exact hl b h
    simp only [List.cons_append, List.nil_append, unS, ne_eq, not_true_eq_false, if_false, if_neg hb.1, if_neg hb.2.1, if_neg hb.2.2.1, if_neg hb.2.2.2]
  · have hb := b.toNat_lt
    have h1 := hex_back (b.toNat / 16) (by omega)
    have h2 := hex_back (b.toNat % 16) (by omega)
    have h3 : UInt8.ofNat (b.toNat / 16 * 16 + b.toNat % 16) = b := by
      rw [show b.toNat / 16 * 16 + b.toNat % 16 = b.toNat by omega]; simp
    simp only [List.cons_append, List.nil_append, unS, ne_eq, not_true_eq_false, if_false, h1, h2, h3]
    simp
theorem left_lit : leftOk [34] := by
  intro x hx; simp only [List.mem_singleton] at hx; subst hx; decide
theorem left_cls : leftOk [93, 45, 94] := by
  intro x hx
  simp only [List.mem_cons, List.not_mem_nil, or_false] at hx
  rcases hx with rfl | rfl | rfl <;> decide
theorem sign_inj {left : List UInt8} (hl : leftOk left) {a b : UInt8} {r s : List UInt8} (h : signB left a ++ r = signB left b ++ s) : a = b ∧ r = s := by
  have h1 := unS_sign hl a r
  rw [h, unS_sign hl b s] at h1
  injection h1 with h1 h2
  exact ⟨h1.symm, h2.symm⟩
theorem sign_ne (left : List UInt8) (b : UInt8) : signB left b ≠ [] := fun h => by
  have := (signB_len left b).1
  rw [h] at this; simp at this
theorem signs_inj {left : List UInt8} (hl : leftOk left) : ∀ a b : List UInt8, a.flatMap (signB left) = b.flatMap (signB left) → a = b
  | [], [], _ => rfl
  | [], y :: b, h => by
    simp only [List.flatMap_nil, List.flatMap_cons] at h
    exact absurd (List.append_eq_nil_iff.1 h.symm).1 (sign_ne left y)
  | x :: a, [], h => by
    simp only [List.flatMap_nil, List.flatMap_cons] at h
    exact absurd (List.append_eq_nil_iff.1 h).1 (sign_ne left x)
  | x :: a, y :: b, h => by
    simp only [List.flatMap_cons] at h
    obtain ⟨rfl, h2⟩ := sign_inj hl h
    rw [signs_inj hl a b h2]

/-! ### up to a closing sign -/
def scanQ (q : UInt8) : Bool → List UInt8 → List UInt8 × List UInt8
  | _, [] => ([], [])
  | true, c :: r => (c :: (scanQ q false r).1, (scanQ q false r).2)
  | false, c :: r => if c = q then ([], r) else (c :: (scanQ q (c == 92) r).1, (scanQ q (c == 92) r).2)
/-- A piece that is passed over. -/
def Passed (q : UInt8) (x : List UInt8) : Prop := ∀ r, scanQ q false (x ++ r) = (x ++ (scanQ q false r).1, (scanQ q false r).2)
theorem passed_nil (q : UInt8) : Passed q [] := fun r => rfl
theorem passed_append {q : UInt8} {x y : List UInt8} (h : Passed q x) (k : Passed q y) : Passed q (x ++ y) := fun r => by
  rw [List.append_assoc, h, k]; simp
theorem passed_byte {q c : UInt8} (h : c ≠ q) (h2 : c ≠ 92) : Passed q [c] := fun r => by
  have : (c == (92 : UInt8)) = false := by simpa using h2
  simp only [List.singleton_append, scanQ, if_neg h, this]
theorem passed_flat {α : Type} {q : UInt8} {f : α → List UInt8} : ∀ l : List α, (∀ x ∈ l, Passed q (f x)) → Passed q (l.flatMap f)
  | [], _ => passed_nil q
  | x :: l, h => by
    rw [List.flatMap_cons]
    exact passed_append (h x List.mem_cons_self) (passed_flat l fun y hy => h y (List.mem_cons_of_mem _ hy))
theorem passed_bytes {q : UInt8} : ∀ l : List UInt8, (∀ c ∈ l, c ≠ q ∧ c ≠ 92) → Passed q l
  | [], _ => passed_nil q
  | c :: l, h => by
    have h1 := h c List.mem_cons_self
    exact passed_append (x := [c]) (passed_byte h1.1 h1.2) (passed_bytes l fun d hd => h d (List.mem_cons_of_mem _ hd))
theorem scan_end {q : UInt8} {x : List UInt8} (h : Passed q x) (r : List UInt8) : scanQ q false (x ++ q :: r) = (x, r) := by
  rw [h]
  simp [scanQ]
theorem passed_sign {left : List UInt8} {q : UInt8} (hq : q = 34 ∨ q = 93) (hm : q ∈ left) (b : UInt8) : Passed q (signB left b) := by
  have h92 : (92 : UInt8) ≠ q := by rcases hq with rfl | rfl <;> decide
  have pair : ∀ d : UInt8, Passed q [92, d] := fun d r => by
    simp only [List.cons_append, List.nil_append, scanQ, if_neg h92, beq_self_eq_true]
  unfold signB
  split
  · rename_i h
    exact passed_byte (fun e => h.2.2 (e ▸ hm)) h.2.1
  split
  · exact pair _
  split
  · exact pair _
  split
  · exact pair _
  split
  · exact pair _
  · have hb := b.toNat_lt
    have h1 := hex_byte (b.toNat / 16) (by omega)
    have h2 := hex_byte (b.toNat % 16) (by omega)
    refine passed_append (x := [92, 120]) (pair _) (passed_append (x := [_]) (passed_byte ?_ h1.2.2) (passed_byte ?_ h2.2.2))
    · rcases hq with rfl | rfl
      · exact h1.1
      · exact h1.2.1
    · rcases hq with rfl | rfl
      · exact h2.1
      · exact h2.2.1
theorem passed_lit (s : List UInt8) : Passed 34 (s.flatMap (signB [34])) := passed_flat s fun x _ => passed_sign (.inl rfl) (by simp) x
theorem passed_run (r : Nat × Nat) : Passed 93 (runB r) := by
  unfold runB
  refine passed_append (passed_append (passed_sign (.inr rfl) (by simp) _) ?_) ?_
  · split
    · exact passed_byte (by decide) (by decide)
    · exact passed_nil _
  · split
    · exact passed_sign (.inr rfl) (by simp) _
    · exact passed_nil _

/-! ### classes -/
/-- What stands in a class: single bytes, and ranges. -/
def itemsR (r : Nat × Nat) : List (UInt8 × UInt8) :=
  if r.1 + 1 < r.2 then [(UInt8.ofNat r.1, UInt8.ofNat r.2)] else if r.1 ≠ r.2 then [(UInt8.ofNat r.1, UInt8.ofNat r.1), (UInt8.ofNat r.2, UInt8.ofNat r.2)] else [(UInt8.ofNat r.1, UInt8.ofNat r.1)]
def decI : Nat → List UInt8 → List (UInt8 × UInt8)
  | 0, _ => []
  | f + 1, s =>
    if s = [] then [] else
    if (unS s).2.head? = some 45 then ((unS s).1, (unS (unS s).2.tail).1) :: decI f (unS (unS s).2.tail).2
    else ((unS s).1, (unS s).1) :: decI f (unS s).2
theorem sign_head (b : UInt8) : (signB [93, 45, 94] b).head? ≠ some 45 := by
  unfold signB
  split
  · rename_i h
    intro e
    simp only [List.head?_cons, Option.some.injEq] at e
    exact h.2.2 (by rw [e]; simp)
  · repeat' (split; · simp)
    simp
theorem runs_head (l : List (Nat × Nat)) : (l.flatMap runB).head? ≠ some 45 := by
  cases l with
  | nil => simp
  | cons r l =>
    rw [List.flatMap_cons]
    have h := sign_head (UInt8.ofNat r.1)
    cases e : signB [93, 45, 94] (UInt8.ofNat r.1) with
    | nil => exact absurd e (sign_ne _ _)
    | cons c t =>
      rw [e] at h
      simp only [runB, e, List.cons_append, List.head?_cons]
      simpa using h
theorem dec_one (f : Nat) (b : UInt8) (s : List UInt8) (hs : s.head? ≠ some 45) : decI (f + 1) (signB [93, 45, 94] b ++ s) = (b, b) :: decI f s := by
  have hne : signB [93, 45, 94] b ++ s ≠ [] := fun h => sign_ne _ b (List.append_eq_nil_iff.1 h).1
  simp only [decI, if_neg hne, unS_sign left_cls, if_neg hs]
theorem dec_two (f : Nat) (a b : UInt8) (s : List UInt8) : decI (f + 1) (signB [93, 45, 94] a ++ (45 :: (signB [93, 45, 94] b ++ s))) = (a, b) :: decI f s := by
  have hne : signB [93, 45, 94] a ++ (45 :: (signB [93, 45, 94] b ++ s)) ≠ [] := fun h => sign_ne _ a (List.append_eq_nil_iff.1 h).1
  simp only [decI, if_neg hne, unS_sign left_cls, List.head?_cons, if_true, List.tail_cons]
theorem dec_runs : ∀ (l : List (Nat × Nat)) (f : Nat), l.length * 2 ≤ f → decI f (l.flatMap runB) = l.flatMap itemsR
  | [], f, _ => by cases f <;> simp [decI]
  | r :: l, f, hf => by
    simp only [List.length_cons] at hf
    have hh := runs_head l
    simp only [List.flatMap_cons]
    have ih := dec_runs l
    generalize l.flatMap runB = rest at *
    generalize l.flatMap itemsR = its at *
    unfold runB itemsR
    by_cases h1 : r.1 + 1 < r.2
    · have h2 : r.1 ≠ r.2 := by omega
      obtain ⟨f, rfl⟩ : ∃ g, f = g + 1 := ⟨f - 1, by omega⟩
      rw [if_pos h1, if_pos h2, if_pos h1]
      simp only [List.append_assoc, List.cons_append, List.nil_append]
      rw [dec_two, ih f (by omega)]
    · rw [if_neg h1, if_neg h1]
      by_cases h2 : r.1 ≠ r.2
      · obtain ⟨f, rfl⟩ : ∃ g, f = g + 1 + 1 := ⟨f - 2, by omega⟩
        rw [if_pos h2, if_pos h2]
        simp only [List.append_nil, List.append_assoc, List.nil_append]
        rw [dec_one, dec_one _ _ _ hh, ih f (by omega)]
        · rfl
        · have h := sign_head (UInt8.ofNat r.2)
          cases e : signB [93, 45, 94] (UInt8.ofNat r.2) with
          | nil => exact absurd e (sign_ne _ _)
          | cons c t => rw [e] at h; simpa using h
      · obtain ⟨f, rfl⟩ : ∃ g, f = g + 1 := ⟨f - 1, by omega⟩
        rw [if_neg h2, if_neg h2]
        simp only [List.append_nil]
        rw [dec_one _ _ _ hh, ih f (by omega)]
        rfl
def inRuns (l : List (Nat × Nat)) (b : Nat) : Prop := ∃ r ∈ l, r.1 ≤ b ∧ b ≤ r.2
def inItems (l : List (UInt8 × UInt8)) (b : Nat) : Prop := ∃ r ∈ l, r.1.toNat ≤ b ∧ b ≤ r.2.toNat
theorem items_iff (l : List (Nat × Nat)) (hl : ∀ r ∈ l, r.1 ≤ r.2 ∧ r.2 ≤ 255) (b : Nat) : inItems (l.flatMap itemsR) b ↔ inRuns l b := by
  unfold inItems inRuns
  constructor
  · rintro ⟨x, hx, h⟩
    obtain ⟨r, hr, hx⟩ := List.mem_flatMap.1 hx
    refine ⟨r, hr, ?_⟩
    have hb := hl r hr
    have e1 : (UInt8.ofNat r.1).toNat = r.1 := by simp; omega
    have e2 : (UInt8.ofNat r.2).toNat = r.2 := by simp; omega
    unfold itemsR at hx
    split at hx
    · simp only [List.mem_singleton] at hx; subst hx
      simp only [e1, e2] at h; exact h
    · split at hx
      · simp only [List.mem_cons, List.not_mem_nil, or_false] at hx
        rcases hx with rfl | rfl
        · simp only [e1] at h; omega
        · simp only [e2] at h; omega
      · simp only [List.mem_singleton] at hx; subst hx
        simp only [e1] at h; omega
  · rintro ⟨r, hr, h⟩
    have hb := hl r hr
    have e1 : (UInt8.ofNat r.1).toNat = r.1 := by simp; omega
    have e2 : (UInt8.ofNat r.2).toNat = r.2 := by simp; omega
    by_cases h1 : r.1 + 1 < r.2
    · exact ⟨_, List.mem_flatMap.2 ⟨r, hr, by unfold itemsR; rw [if_pos h1]; exact List.mem_singleton.2 rfl⟩, by simp only [e1, e2]; exact h⟩
    · by_cases h2 : r.1 ≠ r.2
      · by_cases h3 : b = r.1
        · exact ⟨(UInt8.ofNat r.1, UInt8.ofNat r.1), List.mem_flatMap.2 ⟨r, hr, by unfold itemsR; rw [if_neg h1, if_pos h2]; simp⟩, by simp only [e1]; omega⟩
        · exact ⟨(UInt8.ofNat r.2, UInt8.ofNat r.2), List.mem_flatMap.2 ⟨r, hr, by unfold itemsR; rw [if_neg h1, if_pos h2]; simp⟩, by simp only [e2]; omega⟩
      · exact ⟨(UInt8.ofNat r.1, UInt8.ofNat r.1), List.mem_flatMap.2 ⟨r, hr, by unfold itemsR; rw [if_neg h1, if_neg h2]; simp⟩, by simp only [e1]; omega⟩
theorem addRun_in {l : List (Nat × Nat)} (hl : ∀ r ∈ l, r.1 ≤ r.2) (z b : Nat) : (∀ r ∈ addRun l z, r.1 ≤ r.2) ∧ (inRuns (addRun l z) b ↔ inRuns l b ∨ b = z) := by
  unfold addRun
  rcases List.eq_nil_or_concat l with rfl | ⟨ini, r, rfl⟩
  · simp [inRuns]; omega
  · rw [List.concat_eq_append] at hl ⊢
    rw [List.getLast?_concat]
    obtain ⟨x, y⟩ := r
    have hxy : x ≤ y := hl (x, y) (by simp)
    simp only
    split
    · rename_i h
      constructor
      · intro r hr
        rw [List.dropLast_concat] at hr
        rcases List.mem_append.1 hr with hr | hr
        · exact hl r (List.mem_append_left _ hr)
        · simp only [List.mem_singleton] at hr; subst hr; simp only; omega
      · rw [List.dropLast_concat]
        simp only [inRuns, List.mem_append, List.mem_singleton, or_and_right, exists_or, exists_eq_left]
        constructor
        · rintro (h1 | h1)
          · exact .inl (.inl h1)
          · by_cases e : b = z
            · exact .inr e
            · exact .inl (.inr ⟨h1.1, by omega⟩)
        · rintro ((h1 | h1) | rfl)
          · exact .inl h1
          · exact .inr ⟨h1.1, by omega⟩
          · exact .inr ⟨by omega, Nat.le_refl _⟩
    · constructor
      · intro r hr
        rcases List.mem_append.1 hr with hr | hr
        · exact hl r hr
        · simp only [List.mem_singleton] at hr; subst hr; exact Nat.le_refl _
      · simp only [inRuns, List.mem_append, List.mem_singleton, or_and_right, exists_or, exists_eq_left]
        constructor
        · rintro (h1 | h1)
          · exact .inl h1
          · exact .inr (by omega)
        · rintro (h1 | rfl)
          · exact .inl h1
          · exact .inr ⟨Nat.le_refl _, Nat.le_refl _⟩
theorem fold_in : ∀ (m : List Nat) (l : List (Nat × Nat)), (∀ r ∈ l, r.1 ≤ r.2) → (∀ r ∈ m.foldl addRun l, r.1 ≤ r.2) ∧ ∀ b, inRuns (m.foldl addRun l) b ↔ inRuns l b ∨ b ∈ m
  | [], l, h => ⟨h, fun b => by simp⟩
  | z :: m, l, h => by
    have h1 := fun b => addRun_in h z b
    obtain ⟨h2, h3⟩ := fold_in m (addRun l z) (h1 0).1
    refine ⟨h2, fun b => ?_⟩
    rw [List.foldl_cons, h3, (h1 b).2, List.mem_cons, or_assoc]
theorem runsF_in (f : Nat → Bool) (b : Nat) : inRuns (runsF f) b ↔ b < 256 ∧ f b = true := by
  unfold runsF
  rw [(fold_in _ [] (by simp)).2 b]
  simp [inRuns]
theorem addRun_le' {l : List (Nat × Nat)} {b : Nat} (hb : b ≤ 255) (h : ∀ r ∈ l, r.2 ≤ 255) : ∀ r ∈ addRun l b, r.2 ≤ 255 := by
  intro r hr
  unfold addRun at hr
  split at hr
  · split at hr
    · rcases List.mem_append.1 hr with hr | hr
      · exact h r ((List.dropLast_sublist l).subset hr)
      · simp only [List.mem_singleton] at hr; subst hr; exact hb
    · rcases List.mem_append.1 hr with hr | hr
      · exact h r hr
      · simp only [List.mem_singleton] at hr; subst hr; exact hb
  · simp only [List.mem_singleton] at hr; subst hr; exact hb
theorem foldRun_le' : ∀ (m : List Nat) (l : List (Nat × Nat)), (∀ b ∈ m, b ≤ 255) → (∀ r ∈ l, r.2 ≤ 255) → ∀ r ∈ m.foldl addRun l, r.2 ≤ 255
  | [], l, _, h => h
  | b :: m, l, hm, h => foldRun_le' m (addRun l b) (fun z hz => hm z (List.mem_cons_of_mem _ hz)) (addRun_le' (hm b List.mem_cons_self) h)
theorem runsF_ok (f : Nat → Bool) : ∀ r ∈ runsF f, r.1 ≤ r.2 ∧ r.2 ≤ 255 := fun r hr =>
  ⟨(fold_in _ [] (by simp)).1 r hr, foldRun_le' _ [] (fun b hb => by
    have := List.mem_range.1 (List.mem_filter.1 hb).1; omega) (by simp) r hr⟩
theorem classF_inj (f g : Nat → Bool) (h : classF f = classF g) : ∀ b, b < 256 → f b = g b := by
  unfold classF at h
  split at h
  · rename_i hf
    split at h
    · rename_i hg
      intro b hb
      rw [List.all_eq_true] at hf hg
      rw [hf b (List.mem_range.2 hb), hg b (List.mem_range.2 hb)]
    · simp at h
  · split at h
    · simp at h
    · simp only [List.singleton_append, List.cons_append, List.cons.injEq, true_and] at h
      have h := List.append_inj_left' h rfl
      simp only [List.nil_append] at h
      have h1 := dec_runs (runsF f) ((runsF f).length * 2 + (runsF g).length * 2) (by omega)
      have h2 := dec_runs (runsF g) ((runsF f).length * 2 + (runsF g).length * 2) (by omega)
      rw [h, h2] at h1
      intro b hb
      have h3 := items_iff (runsF f) (runsF_ok f) b
      have h4 := items_iff (runsF g) (runsF_ok g) b
      rw [← h1, h4, runsF_in, runsF_in] at h3
      rw [Bool.eq_iff_iff]
      constructor
      · intro h; exact (h3.2 ⟨hb, h⟩).2
      · intro h; exact (h3.1 ⟨hb, h⟩).2
theorem word_eq {x y : Nat} (hx : x < 18446744073709551616) (hy : y < 18446744073709551616) (h : ∀ j, j < 64 → x.testBit j = y.testBit j) : x = y := by
  apply Nat.eq_of_testBit_eq
  intro j
  by_cases hj : j < 64
  · exact h j hj
  · have h1 : (18446744073709551616 : Nat) ≤ 2 ^ j := by
      have : (2 : Nat) ^ 64 ≤ 2 ^ j := Nat.pow_le_pow_right (by decide) (by omega)
      simpa using this
    rw [Nat.testBit_lt_two_pow (by omega), Nat.testBit_lt_two_pow (by omega)]
theorem has_eq {w0 w1 w2 w3 v0 v1 v2 v3 : Nat} (h : ∀ b, b < 256 → hasW [w0, w1, w2, w3] b = hasW [v0, v1, v2, v3] b)
    (a0 : w0 < 18446744073709551616) (a1 : w1 < 18446744073709551616) (a2 : w2 < 18446744073709551616) (a3 : w3 < 18446744073709551616)
    (b0 : v0 < 18446744073709551616) (b1 : v1 < 18446744073709551616) (b2 : v2 < 18446744073709551616) (b3 : v3 < 18446744073709551616) : w0 = v0 ∧ w1 = v1 ∧ w2 = v2 ∧ w3 = v3 := by
  have hb : ∀ i j, i < 4 → j < 64 → ([w0, w1, w2, w3].getD i 0).testBit j = ([v0, v1, v2, v3].getD i 0).testBit j := fun i j hi hj => by
    rw [← has_block w0 w1 w2 w3 i j hi hj, ← has_block v0 v1 v2 v3 i j hi hj]
    exact h _ (by omega)
  exact ⟨word_eq a0 b0 fun j hj => hb 0 j (by decide) hj, word_eq a1 b1 fun j hj => hb 1 j (by decide) hj, word_eq a2 b2 fun j hj => hb 2 j (by decide) hj, word_eq a3 b3 fun j hj => hb 3 j (by decide) hj⟩

/-! ### counts -/
def digB (c : UInt8) : Bool := isDigit c.toNat
def unC (s : List UInt8) : Int × Int :=
  if s = [63] then (0, 1) else if s = [42] then (0, -1) else if s = [43] then (1, -1) else
  if s.tail.dropWhile digB = [125] then (decVal (s.tail.takeWhile digB), decVal (s.tail.takeWhile digB))
  else if s.tail.dropWhile digB = [44, 125] then (decVal (s.tail.takeWhile digB), -1)
  else (decVal (s.tail.takeWhile digB), decVal ((s.tail.dropWhile digB).tail.takeWhile digB))
theorem num_dig (n : Nat) : ∀ c ∈ Lib.itoa (n : Int), digB c = true := by
  rw [itoa_nat]
  have := dd_allDig n
  unfold allDig at this
  rw [List.all_eq_true] at this
  exact this
theorem num_take (n : Nat) (c : UInt8) (r : List UInt8) (hc : digB c = false) : (Lib.itoa (n : Int) ++ c :: r).takeWhile digB = Lib.itoa (n : Int) ∧ (Lib.itoa (n : Int) ++ c :: r).dropWhile digB = c :: r := by
  have h := num_dig n
  constructor
  · rw [List.takeWhile_append_of_pos h, List.takeWhile_cons_of_neg (by simp [hc]), List.append_nil]
  · rw [List.dropWhile_append_of_pos h, List.dropWhile_cons_of_neg (by simp [hc])]
theorem num_val (n : Nat) : decVal (Lib.itoa (n : Int)) = n := by rw [itoa_nat, decVal_digits]
theorem itoa_ne (n : Nat) : Lib.itoa (n : Int) ≠ [] := by rw [itoa_nat]; exact dd_ne n
end Go.Proofs.YtmjkgnknfgoadaaGreatDoor
