/- Plain: signs, literals, classes, counts are read back. -/
import Derived.Test.YtdcgbcdmkhleoaaDoorFc
namespace Go.Proofs.YtdcgbcdmkhleoaaDoor
set_option linter.unusedSimpArgs false
set_option linter.unusedVariables false

/-! ### signs -/
def hexV (c : UInt8) : Nat := if c.toNat < 58 then c.toNat - 48 else c.toNat - 87
theorem hex_back (n : Nat) (h : n < 16) : hexV (hexB n) = n := by
  have : ∀ k : Fin 16, hexV (hexB k.val) = k.val := by decide
  exact this ⟨n, h⟩
theorem hex_byte (n : Nat) (h : n < 16) : hexB n ≠ 34 ∧ hexB n ≠ 93 ∧ hexB n ≠ 92 := by
  have : ∀ k : Fin 16, hexB k.val ≠ 34 ∧ hexB k.val ≠ 93 ∧ hexB k.val ≠ 92 := by decide
  exact this ⟨n, h⟩
/-- One sign is read. -/
def unS (s : List UInt8) : UInt8 × List UInt8 :=
  match s with
  | [] => (0, [])
  | c :: r => if c ≠ 92 then (c, r) else
    match r with
    | [] => (0, [])
    | d :: r => if d = 110 then (10, r) else if d = 114 then (13, r) else if d = 116 then (9, r) else if d = 120 then
        (match r with
        | x :: y :: r => (UInt8.ofNat (hexV x * 16 + hexV y), r)
        | _ => (0, []))
      else (d, r)
def leftOk (left : List UInt8) : Prop := ∀ x ∈ left, x ≠ 110 ∧ x ≠ 114 ∧ x ≠ 116 ∧ x ≠ 120
theorem unS_sign {left : List UInt8} (hl : leftOk left) (b : UInt8) (r : List UInt8) : unS (signB left b ++ r) = (b, r) := by
  unfold signB
  split
  · rename_i h
    simp only [List.singleton_append, unS, if_pos h.2.1]
  split
  · rename_i h; subst h; rfl
  split
  · rename_i h; subst h; rfl
  split
  · rename_i h; subst h; rfl
  split
  · rename_i h
    have hb : b ≠ 110 ∧ b ≠ 114 ∧ b ≠ 116 ∧ b ≠ 120 := by
      rcases h with rfl | h
      · decide
      · exact hl b h
    simp only [List.cons_append, List.nil_append, unS, ne_eq, not_true_eq_false, if_false, if_neg hb.1, if_neg hb.2.1, if_neg hb.2.2.1, if_neg hb.2.2.2]
  · have hb := b.toNat_lt
    have h1 := hex_back (b.toNat / 16) (by omega)
    have h2 := hex_back (b.toNat % 16) (by omega)
    have h3 : UInt8.ofNat (b.toNat / 16 * 16 + b.toNat % 16) = b := by
      rw [show b.toNat / 16 * 16 + b.toNat % 16 = b.toNat by omega]; simp
    simp only [List.cons_append, List.nil_append, unS, ne_eq, not_true_eq_false, if_false, h1, h2, h3]
    simp
theorem left_lit : leftOk [34] := by
  intro x hx; simp only [List.mem_singleton] at hx; subst hx; decide
theorem left_cls : leftOk [93, 45, 94] := by
  intro x hx
  simp only [List.mem_cons, List.not_mem_nil, or_false] at hx
  rcases hx with rfl | rfl | rfl <;> decide
theorem sign_inj {left : List UInt8} (hl : leftOk left) {a b : UInt8} {r s : List UInt8} (h : signB left a ++ r = signB left b ++ s) : a = b ∧ r = s := by
  have h1 := unS_sign hl a r
  rw [h, unS_sign hl b s] at h1
  injection h1 with h1 h2
  exact ⟨h1.symm, h2.symm⟩
theorem sign_ne (left : List UInt8) (b : UInt8) : signB left b ≠ [] := fun h => by
  have := (signB_len left b).1
  rw [h] at this; simp at this
theorem signs_inj {left : List UInt8} (hl : leftOk left) : ∀ a b : List UInt8, a.flatMap (signB left) = b.flatMap (signB left) → a = b
  | [], [], _ => rfl
  | [], y :: b, h => by
    simp only [List.flatMap_nil, List.flatMap_cons] at h
    exact absurd (List.append_eq_nil_iff.1 h.symm).1 (sign_ne left y)
  | x :: a, [], h => by
    simp only [List.flatMap_nil, List.flatMap_cons] at h
    exact absurd (List.append_eq_nil_iff.1 h).1 (sign_ne left x)
  | x :: a, y :: b, h => by
    simp only [List.flatMap_cons] at h
    obtain ⟨rfl, h2⟩ := sign_inj hl h
    rw [signs_inj hl a b h2]

/-! ### up to a closing sign -/
def scanQ (q : UInt8) : Bool → List UInt8 → List UInt8 × List UInt8
  | _, [] => ([], [])
  | true, c :: r => (c :: (scanQ q false r).1, (scanQ q false r).2)
  | false, c :: r => if c = q then ([], r) else (c :: (scanQ q (c == 92) r).1, (scanQ q (c == 92) r).2)
/-- A piece that is passed over. -/
def Passed (q : UInt8) (x : List UInt8) : Prop := ∀ r, scanQ q false (x ++ r) = (x ++ (scanQ q false r).1, (scanQ q false r).2)
theorem passed_nil (q : UInt8) : Passed q [] := fun r => rfl
theorem passed_append {q : UInt8} {x y : List UInt8} (h : Passed q x) (k : Passed q y) : Passed q (x ++ y) := fun r => by
  rw [List.append_assoc, h, k]; simp
theorem passed_byte {q c : UInt8} (h : c ≠ q) (h2 : c ≠ 92) : Passed q [c] := fun r => by
  have : (c == (92 : UInt8)) = false := by simpa using h2
  simp only [List.singleton_append, scanQ, if_neg h, this]
theorem passed_flat {α : Type} {q : UInt8} {f : α → List UInt8} : ∀ l : List α, (∀ x ∈ l, Passed q (f x)) → Passed q (l.flatMap f)
  | [], _ => passed_nil q
  | x :: l, h => by
    rw [List.flatMap_cons]
    exact passed_append (h x List.mem_cons_self) (passed_flat l fun y hy => h y (List.mem_cons_of_mem _ hy))
theorem passed_bytes {q : UInt8} : ∀ l : List UInt8, (∀ c ∈ l, c ≠ q ∧ c ≠ 92) → Passed q l
  | [], _ => passed_nil q
  | c :: l, h => by
    have h1 := h c List.mem_cons_self
    exact passed_append (x := [c]) (passed_byte h1.1 h1.2) (passed_bytes l fun d hd => h d (List.mem_cons_of_mem _ hd))
theorem scan_end {q : UInt8} {x : List UInt8} (h : Passed q x) (r : List UInt8) : scanQ q false (x ++ q :: r) = (x, r) := by
  rw [h]
  simp [scanQ]
theorem passed_sign {left : List UInt8} {q : UInt8} (hq : q = 34 ∨ q = 93) (hm : q ∈ left) (b : UInt8) : Passed q (signB left b) := by
  have h92 : (92 : UInt8) ≠ q := by rcases hq with rfl | rfl <;> decide
  have pair : ∀ d : UInt8, Passed q [92, d] := fun d r => by
    simp only [List.cons_append, List.nil_append, scanQ, if_neg h92, beq_self_eq_true]
  unfold signB
  split
  · rename_i h
    exact passed_byte (fun e => h.2.2 (e ▸ hm)) h.2.1
  split
  · exact pair _
  split
  · exact pair _
  split
  · exact pair _
  split
  · exact pair _
  · have hb := b.toNat_lt
    have h1 := hex_byte (b.toNat / 16) (by omega)
    have h2 := hex_byte (b.toNat % 16) (by omega)
    refine passed_append (x := [92, 120]) (pair _) (passed_append (x := [_]) (passed_byte ?_ h1.2.2) (passed_byte ?_ h2.2.2))
    · rcases hq with rfl | rfl
      · exact h1.1
      · exact h1.2.1
    · rcases hq with rfl | rfl
      · exact h2.1
      · exact h2.2.1
theorem passed_lit (s : List UInt8) : Passed 34 (s.flatMap (signB [34])) := passed_flat s fun x _ => passed_sign (.inl rfl) (by simp) x
theorem passed_run (r : Nat × Nat) : Passed 93 (runB r) := by
  unfold runB
  refine passed_append (passed_append (passed_sign (.inr rfl) (by simp) _) ?_) ?_
  · split
    · exact passed_byte (by decide) (by decide)
    · exact passed_nil _
  · split
    · exact passed_sign (.inr rfl) (by simp) _
    · exact passed_nil _

/-! ### classes -/
/-- What stands in a class: single bytes, and ranges. -/
def itemsR (r : Nat × Nat) : List (UInt8 × UInt8) :=
  if r.1 + 1 < r.2 then [(UInt8.ofNat r.1, UInt8.ofNat r.2)] else if r.1 ≠ r.2 then [(UInt8.ofNat r.1, UInt8.ofNat r.1), (UInt8.ofNat r.2, UInt8.ofNat r.2)] else [(UInt8.ofNat r.1, UInt8.ofNat r.1)]
def decI : Nat → List UInt8 → List (UInt8 × UInt8)
  | 0, _ => []
  | f + 1, s =>
    if s = [] then [] else
    if (unS s).2.head? = some 45 then ((unS s).1, (unS (unS s).2.tail).1) :: decI f (unS (unS s).2.tail).2
    else ((unS s).1, (unS s).1) :: decI f (unS s).2
theorem sign_head (b : UInt8) : (signB [93, 45, 94] b).head? ≠ some 45 := by
  unfold signB
  split
  · rename_i h
    intro e
    simp only [List.head?_cons, Option.some.injEq] at e
    exact h.2.2 (by rw [e]; simp)
  · repeat' (split; · simp)
    simp
theorem runs_head (l : List (Nat × Nat)) : (l.flatMap runB).head? ≠ some 45 := by
  cases l with
  | nil => simp
  | cons r l =>
    rw [List.flatMap_cons]
    have h := sign_head (UInt8.ofNat r.1)
    cases e : signB [93, 45, 94] (UInt8.ofNat r.1) with
    | nil => exact absurd e (sign_ne _ _)
    | cons c t =>
      rw [e] at h
      simp only [runB, e, List.cons_append, List.head?_cons]
      simpa using h
theorem dec_one (f : Nat) (b : UInt8) (s : List UInt8) (hs : s.head? ≠ some 45) : decI (f + 1) (signB [93, 45, 94] b ++ s) = (b, b) :: decI f s := by
  have hne : signB [93, 45, 94] b ++ s ≠ [] := fun h => sign_ne _ b (List.append_eq_nil_iff.1 h).1
  simp only [decI, if_neg hne, unS_sign left_cls, if_neg hs]
theorem dec_two (f : Nat) (a b : UInt8) (s : List UInt8) : decI (f + 1) (signB [93, 45, 94] a ++ (45 :: (signB [93, 45, 94] b ++ s))) = (a, b) :: decI f s := by
  have hne : signB [93, 45, 94] a ++ (45 :: (signB [93, 45, 94] b ++ s)) ≠ [] := fun h => sign_ne _ a (List.append_eq_nil_iff.1 h).1
  simp only [decI, if_neg hne, unS_sign left_cls, List.head?_cons, if_true, List.tail_cons]
theorem dec_runs : ∀ (l : List (Nat × Nat)) (f : Nat), l.length * 2 ≤ f → decI f (l.flatMap runB) = l.flatMap itemsR
  | [], f, _ => by cases f <;> simp [decI]
  | r :: l, f, hf => by
    simp only [List.length_cons] at hf
    have hh := runs_head l
    simp only [List.flatMap_cons]
    have ih := dec_runs l
    generalize l.flatMap runB = rest at *
    generalize l.flatMap itemsR = its at *
    unfold runB itemsR
    by_cases h1 : r.1 + 1 < r.2
    · have h2 : r.1 ≠ r.2 := by omega
      obtain ⟨f, rfl⟩ : ∃ g, f = g + 1 := ⟨f - 1, by omega⟩
      rw [if_pos h1, if_pos h2, if_pos h1]
      simp only [List.append_assoc, List.cons_append, List.nil_append]
      rw [dec_two, ih f (by omega)]
    · rw [if_neg h1, if_neg h1]
      by_cases h2 : r.1 ≠ r.2
      · obtain ⟨f, rfl⟩ : ∃ g, f = g + 1 + 1 := ⟨f - 2, by omega⟩
        rw [if_pos h2, if_pos h2]
        simp only [List.append_nil, List.append_assoc, List.nil_append]
        rw [dec_one, dec_one _ _ _ hh, ih f (by omega)]
        · rfl
        · have h := sign_head (UInt8.ofNat r.2)
          cases e : signB [93, 45, 94] (UInt8.ofNat r.2) with
          | nil => exact absurd e (sign_ne _ _)
          | cons c t => rw [e] at h; simpa using h
      · obtain ⟨f, rfl⟩ : ∃ g, f = g + 1 := ⟨f - 1, by omega⟩
        rw [if_neg h2, if_neg h2]
        simp only [List.append_nil]
        rw [dec_one _ _ _ hh, ih f (by omega)]
        rfl
def inRuns (l : List (Nat × Nat)) (b : Nat) : Prop := ∃ r ∈ l, r.1 ≤ b ∧ b ≤ r.2
def inItems (l : List (UInt8 × UInt8)) (b : Nat) : Prop := ∃ r ∈ l, r.1.toNat ≤ b ∧ b ≤ r.2.toNat
theorem items_iff (l : List (Nat × Nat)) (hl : ∀ r ∈ l, r.1 ≤ r.2 ∧ r.2 ≤ 255) (b : Nat) : inItems (l.flatMap itemsR) b ↔ inRuns l b := by
  unfold inItems inRuns
  constructor
  · rintro ⟨x, hx, h⟩
    obtain ⟨r, hr, hx⟩ := List.mem_flatMap.1 hx
    refine ⟨r, hr, ?_⟩
    have hb := hl r hr
    have e1 : (UInt8.ofNat r.1).toNat = r.1 := by simp; omega
    have e2 : (UInt8.ofNat r.2).toNat = r.2 := by simp; omega
    unfold itemsR at hx
    split at hx
    · simp only [List.mem_singleton] at hx; subst hx
      simp only [e1, e2] at h; exact h
    · split at hx
      · simp only [List.mem_cons, List.not_mem_nil, or_false] at hx
        rcases hx with rfl | rfl
        · simp only [e1] at h; omega
        · simp only [e2] at h; omega
      · simp only [List.mem_singleton] at hx; subst hx
        simp only [e1] at h; omega
  · rintro ⟨r, hr, h⟩
    have hb := hl r hr
    have e1 : (UInt8.ofNat r.1).toNat = r.1 := by simp; omega
    have e2 : (UInt8.ofNat r.2).toNat = r.2 := by simp; omega
    by_cases h1 : r.1 + 1 < r.2
    · exact ⟨_, List.mem_flatMap.2 ⟨r, hr, by unfold itemsR; rw [if_pos h1]; exact List.mem_singleton.2 rfl⟩, by simp only [e1, e2]; exact h⟩
    · by_cases h2 : r.1 ≠ r.2
      · by_cases h3 : b = r.1
        · exact ⟨(UInt8.ofNat r.1, UInt8.ofNat r.1), List.mem_flatMap.2 ⟨r, hr, by unfold itemsR; rw [if_neg h1, if_pos h2]; simp⟩, by simp only [e1]; omega⟩
        · exact ⟨(UInt8.ofNat r.2, UInt8.ofNat r.2), List.mem_flatMap.2 ⟨r, hr, by unfold itemsR; rw [if_neg h1, if_pos h2]; simp⟩, by simp only [e2]; omega⟩
      · exact ⟨(UInt8.ofNat r.1, UInt8.ofNat r.1), List.mem_flatMap.2 ⟨r, hr, by unfold itemsR; rw [if_neg h1, if_neg h2]; simp⟩, by simp only [e1]; omega⟩
theorem addRun_in {l : List (Nat × Nat)} (hl : ∀ r ∈ l, r.1 ≤ r.2) (z b : Nat) : (∀ r ∈ addRun l z, r.1 ≤ r.2) ∧ (inRuns (addRun l z) b ↔ inRuns l b ∨ b = z) := by
  unfold addRun
  rcases List.eq_nil_or_concat l with rfl | ⟨ini, r, rfl⟩
  · simp [inRuns]; omega
  · rw [List.concat_eq_append] at hl ⊢
    rw [List.getLast?_concat]
    obtain ⟨x, y⟩ := r
    have hxy : x ≤ y := hl (x, y) (by simp)
    simp only
    split
    · rename_i h
      constructor
      · intro r hr
        rw [List.dropLast_concat] at hr
        rcases List.mem_append.1 hr with hr | hr
        · exact hl r (List.mem_append_left _ hr)
        · simp only [List.mem_singleton] at hr; subst hr; simp only; omega
      · rw [List.dropLast_concat]
        simp only [inRuns, List.mem_append, List.mem_singleton, or_and_right, exists_or, exists_eq_left]
        constructor
        · rintro (h1 | h1)
          · exact .inl (.inl h1)
          · by_cases e : b = z
            · exact .inr e
            · exact .inl (.inr ⟨h1.1, by omega⟩)
        · rintro ((h1 | h1) | rfl)
          · exact .inl h1
          · exact .inr ⟨h1.1, by omega⟩
          · exact .inr ⟨by omega, Nat.le_refl _⟩
    · constructor
      · intro r hr
        rcases List.mem_append.1 hr with hr | hr
        · exact hl r hr
        · simp only [List.mem_singleton] at hr; subst hr; exact Nat.le_refl _
      · simp only [inRuns, List.mem_append, List.mem_singleton, or_and_right, exists_or, exists_eq_left]
        constructor
        · rintro (h1 | h1)
          · exact .inl h1
          · exact .inr (by omega)
        · rintro (h1 | rfl)
          · exact .inl h1
          · exact .inr ⟨Nat.le_refl _, Nat.le_refl _⟩
theorem fold_in : ∀ (m : List Nat) (l : List (Nat × Nat)), (∀ r ∈ l, r.1 ≤ r.2) → (∀ r ∈ m.foldl addRun l, r.1 ≤ r.2) ∧ ∀ b, inRuns (m.foldl addRun l) b ↔ inRuns l b ∨ b ∈ m
  | [], l, h => ⟨h, fun b => by simp⟩
  | z :: m, l, h => by
    have h1 := fun b => addRun_in h z b
    obtain ⟨h2, h3⟩ := fold_in m (addRun l z) (h1 0).1
    refine ⟨h2, fun b => ?_⟩
    rw [List.foldl_cons, h3, (h1 b).2, List.mem_cons, or_assoc]
theorem runsF_in (f : Nat → Bool) (b : Nat) : inRuns (runsF f) b ↔ b < 256 ∧ f b = true := by
  unfold runsF
  rw [(fold_in _ [] (by simp)).2 b]
  simp [inRuns]
theorem addRun_le' {l : List (Nat × Nat)} {b : Nat} (hb : b ≤ 255) (h : ∀ r ∈ l, r.2 ≤ 255) : ∀ r ∈ addRun l b, r.2 ≤ 255 := by
  intro r hr
  unfold addRun at hr
  split at hr
  · split at hr
    · rcases List.mem_append.1 hr with hr | hr
      · exact h r ((List.dropLast_sublist l).subset hr)
      · simp only [List.mem_singleton] at hr; subst hr; exact hb
    · rcases List.mem_append.1 hr with hr | hr
      · exact h r hr
      · simp only [List.mem_singleton] at hr; subst hr; exact hb
  · simp only [List.mem_singleton] at hr; subst hr; exact hb
theorem foldRun_le' : ∀ (m : List Nat) (l : List (Nat × Nat)), (∀ b ∈ m, b ≤ 255) → (∀ r ∈ l, r.2 ≤ 255) → ∀ r ∈ m.foldl addRun l, r.2 ≤ 255
  | [], l, _, h => h
  | b :: m, l, hm, h => foldRun_le' m (addRun l b) (fun z hz => hm z (List.mem_cons_of_mem _ hz)) (addRun_le' (hm b List.mem_cons_self) h)
theorem runsF_ok (f : Nat → Bool) : ∀ r ∈ runsF f, r.1 ≤ r.2 ∧ r.2 ≤ 255 := fun r hr =>
  ⟨(fold_in _ [] (by simp)).1 r hr, foldRun_le' _ [] (fun b hb => by
    have := List.mem_range.1 (List.mem_filter.1 hb).1; omega) (by simp) r hr⟩
theorem classF_inj (f g : Nat → Bool) (h : classF f = classF g) : ∀ b, b < 256 → f b = g b := by
  unfold classF at h
  split at h
  · rename_i hf
    split at h
    · rename_i hg
      intro b hb
      rw [List.all_eq_true] at hf hg
      rw [hf b (List.mem_range.2 hb), hg b (List.mem_range.2 hb)]
    · simp at h
  · split at h
    · simp at h
    · simp only [List.singleton_append, List.cons_append, List.cons.injEq, true_and] at h
      have h := List.append_inj_left' h rfl
      simp only [List.nil_append] at h
      have h1 := dec_runs (runsF f) ((runsF f).length * 2 + (runsF g).length * 2) (by omega)
      have h2 := dec_runs (runsF g) ((runsF f).length * 2 + (runsF g).length * 2) (by omega)
      rw [h, h2] at h1
      intro b hb
      have h3 := items_iff (runsF f) (runsF_ok f) b
      have h4 := items_iff (runsF g) (runsF_ok g) b
      rw [← h1, h4, runsF_in, runsF_in] at h3
      rw [Bool.eq_iff_iff]
      constructor
      · intro h; exact (h3.2 ⟨hb, h⟩).2
      · intro h; exact (h3.1 ⟨hb, h⟩).2
theorem word_eq {x y : Nat} (hx : x < 18446744073709551616) (hy : y < 18446744073709551616) (h : ∀ j, j < 64 → x.testBit j = y.testBit j) : x = y := by
  apply Nat.eq_of_testBit_eq
  intro j
  by_cases hj : j < 64
  · exact h j hj
  · have h1 : (18446744073709551616 : Nat) ≤ 2 ^ j := by
      have : (2 : Nat) ^ 64 ≤ 2 ^ j := Nat.pow_le_pow_right (by decide) (by omega)
      simpa using this
    rw [Nat.testBit_lt_two_pow (by omega), Nat.testBit_lt_two_pow (by omega)]
theorem has_eq {w0 w1 w2 w3 v0 v1 v2 v3 : Nat} (h : ∀ b, b < 256 → hasW [w0, w1, w2, w3] b = hasW [v0, v1, v2, v3] b)
    (a0 : w0 < 18446744073709551616) (a1 : w1 < 18446744073709551616) (a2 : w2 < 18446744073709551616) (a3 : w3 < 18446744073709551616)
    (b0 : v0 < 18446744073709551616) (b1 : v1 < 18446744073709551616) (b2 : v2 < 18446744073709551616) (b3 : v3 < 18446744073709551616) : w0 = v0 ∧ w1 = v1 ∧ w2 = v2 ∧ w3 = v3 := by
  have hb : ∀ i j, i < 4 → j < 64 → ([w0, w1, w2, w3].getD i 0).testBit j = ([v0, v1, v2, v3].getD i 0).testBit j := fun i j hi hj => by
    rw [← has_block w0 w1 w2 w3 i j hi hj, ← has_block v0 v1 v2 v3 i j hi hj]
    exact h _ (by omega)
  exact ⟨word_eq a0 b0 fun j hj => hb 0 j (by decide) hj, word_eq a1 b1 fun j hj => hb 1 j (by decide) hj, word_eq a2 b2 fun j hj => hb 2 j (by decide) hj, word_eq a3 b3 fun j hj => hb 3 j (by decide) hj⟩

/-! ### counts -/
def digB (c : UInt8) : Bool := isDigit c.toNat
def unC (s : List UInt8) : Int × Int :=
  if s = [63] then (0, 1) else if s = [42] then (0, -1) else if s = [43] then (1, -1) else
  if s.tail.dropWhile digB = [125] then (decVal (s.tail.takeWhile digB), decVal (s.tail.takeWhile digB))
  else if s.tail.dropWhile digB = [44, 125] then (decVal (s.tail.takeWhile digB), -1)
  else (decVal (s.tail.takeWhile digB), decVal ((s.tail.dropWhile digB).tail.takeWhile digB))
theorem num_dig (n : Nat) : ∀ c ∈ Lib.itoa (n : Int), digB c = true := by
  rw [itoa_nat]
  have := dd_allDig n
  unfold allDig at this
  rw [List.all_eq_true] at this
  exact this
theorem num_take (n : Nat) (c : UInt8) (r : List UInt8) (hc : digB c = false) : (Lib.itoa (n : Int) ++ c :: r).takeWhile digB = Lib.itoa (n : Int) ∧ (Lib.itoa (n : Int) ++ c :: r).dropWhile digB = c :: r := by
  have h := num_dig n
  constructor
  · rw [List.takeWhile_append_of_pos h, List.takeWhile_cons_of_neg (by simp [hc]), List.append_nil]
  · rw [List.dropWhile_append_of_pos h, List.dropWhile_cons_of_neg (by simp [hc])]
theorem num_val (n : Nat) : decVal (Lib.itoa (n : Int)) = n := by rw [itoa_nat, decVal_digits]
theorem itoa_ne (n : Nat) : Lib.itoa (n : Int) ≠ [] := by rw [itoa_nat]; exact dd_ne n
theorem unC_count {lo hi : Int} (h : 0 ≤ lo ∧ lo ≤ 99 ∧ (hi = -1 ∨ (lo ≤ hi ∧ hi ≤ 99))) : unC (countB lo hi) = (lo, hi) := by
  obtain ⟨n, rfl⟩ := Int.eq_ofNat_of_zero_le h.1
  have d44 : digB 44 = false := by decide
  have d125 : digB 125 = false := by decide
  unfold countB
  rw [if_neg (fun k => k h)]
  split
  · rename_i e; simp only [unC, if_true]; rw [e.1, e.2]
  split
  · rename_i e; rw [e.1, e.2]; rfl
  split
  · rename_i e; rw [e.1, e.2]; rfl
  have first : ∀ r : List UInt8, ¬ (123 :: r = [63]) ∧ ¬ (123 :: r = [42]) ∧ ¬ (123 :: r = [43]) := fun r => by simp
  split
  · rename_i e
    subst e
    simp only [numB, List.append_assoc, List.cons_append, List.nil_append]
    unfold unC
    rw [if_neg (first _).1, if_neg (first _).2.1, if_neg (first _).2.2, List.tail_cons, (num_take n 125 [] d125).1, (num_take n 125 [] d125).2, if_pos rfl, num_val]
  split
  · rename_i e1 e
    subst e
    simp only [numB, List.append_assoc, List.cons_append, List.nil_append]
    unfold unC
    rw [if_neg (first _).1, if_neg (first _).2.1, if_neg (first _).2.2, List.tail_cons, (num_take n 44 [125] d44).1, (num_take n 44 [125] d44).2, if_neg (by decide), if_pos rfl, num_val]
  · rename_i e1 e2
    obtain ⟨m, rfl⟩ := Int.eq_ofNat_of_zero_le (show 0 ≤ hi by omega)
    simp only [numB, List.append_assoc, List.cons_append, List.nil_append]
    unfold unC
    have hm : ¬ (44 :: (Lib.itoa (m : Int) ++ [125]) = [44, 125]) := fun k => by
      simp only [List.cons.injEq, true_and] at k
      have := congrArg List.length k
      simp only [List.length_append, List.length_singleton] at this
      exact itoa_ne m (List.eq_nil_of_length_eq_zero (by omega))
    have hm0 : ¬ (44 :: (Lib.itoa (m : Int) ++ [125]) = [125]) := by simp
    rw [if_neg (first _).1, if_neg (first _).2.1, if_neg (first _).2.2, List.tail_cons, (num_take n 44 _ d44).1, (num_take n 44 _ d44).2, if_neg hm0, if_neg hm, List.tail_cons, (num_take m 125 [] d125).1, num_val, num_val]
theorem digit_byte {c : UInt8} (h : digB c = true) : c ≠ 125 ∧ c ≠ 92 := by
  have := (isDigit_iff _).1 h
  constructor <;> (intro e; subst e; revert this; decide)
/-- How a count begins, and how it ends. -/
theorem count_form {lo hi : Int} (h : 0 ≤ lo ∧ lo ≤ 99 ∧ (hi = -1 ∨ (lo ≤ hi ∧ hi ≤ 99))) : (countB lo hi = [63] ∨ countB lo hi = [42] ∨ countB lo hi = [43]) ∨ ∃ x, Passed 125 x ∧ countB lo hi = 123 :: (x ++ [125]) := by
  obtain ⟨n, rfl⟩ := Int.eq_ofNat_of_zero_le h.1
  have hn : Passed 125 (numB n) := passed_bytes _ fun c hc => digit_byte (num_dig n c hc)
  unfold countB
  rw [if_neg (fun k => k h)]
  split
  · exact .inl (.inl rfl)
  split
  · exact .inl (.inr (.inl rfl))
  split
  · exact .inl (.inr (.inr rfl))
  split
  · exact .inr ⟨_, hn, by simp⟩
  split
  · exact .inr ⟨numB n ++ [44], passed_append hn (passed_byte (by decide) (by decide)), by simp⟩
  · rename_i e1 e2
    obtain ⟨m, rfl⟩ := Int.eq_ofNat_of_zero_le (show 0 ≤ hi by omega)
    exact .inr ⟨numB n ++ [44] ++ numB m, passed_append (passed_append hn (passed_byte (by decide) (by decide))) (passed_bytes _ fun c hc => digit_byte (num_dig m c hc)), by simp⟩
end Go.Proofs.YtdcgbcdmkhleoaaDoor

/- Plain: a tree's text is read back as the tree's shape. -/
namespace Go.Proofs.YtdcgbcdmkhleoaaDoor
set_option linter.unusedSimpArgs false
set_option linter.unusedVariables false

inductive RT where
  | mk (kind : Nat) (raw : List UInt8) (kids : List RT)
mutual
def pC : Nat → List UInt8 → RT × List UInt8
  | 0, s => (.mk 0 [] [], s)
  | f + 1, s => (if (pWays f (pS f s).2).1.isEmpty then (pS f s).1 else .mk 5 [] ((pS f s).1 :: (pWays f (pS f s).2).1), (pWays f (pS f s).2).2)
def pWays : Nat → List UInt8 → List RT × List UInt8
  | 0, s => ([], s)
  | f + 1, s => if s.take 3 = [32, 47, 32] then ((pS f (s.drop 3)).1 :: (pWays f (pS f (s.drop 3)).2).1, (pWays f (pS f (s.drop 3)).2).2) else ([], s)
def pS : Nat → List UInt8 → RT × List UInt8
  | 0, s => (.mk 0 [] [], s)
  | f + 1, s => (if (pParts f (pU f s).2).1.isEmpty then (pU f s).1 else .mk 4 [] ((pU f s).1 :: (pParts f (pU f s).2).1), (pParts f (pU f s).2).2)
def pParts : Nat → List UInt8 → List RT × List UInt8
  | 0, s => ([], s)
  | f + 1, s => if s.head? = some 32 ∧ s.tail.head? ≠ some 47 then ((pU f s.tail).1 :: (pParts f (pU f s.tail).2).1, (pParts f (pU f s.tail).2).2) else ([], s)
def pU : Nat → List UInt8 → RT × List UInt8
  | 0, s => (.mk 0 [] [], s)
  | f + 1, s =>
    if s.head? = some 38 then (.mk 7 [] [(pU f s.tail).1], (pU f s.tail).2)
    else if s.head? = some 33 then (.mk 8 [] [(pU f s.tail).1], (pU f s.tail).2)
    else if (pP f s).2.head? = some 63 ∨ (pP f s).2.head? = some 42 ∨ (pP f s).2.head? = some 43 then (.mk 6 ((pP f s).2.take 1) [(pP f s).1], (pP f s).2.tail)
    else if (pP f s).2.head? = some 123 then (.mk 6 (123 :: ((scanQ 125 false (pP f s).2.tail).1 ++ [125])) [(pP f s).1], (scanQ 125 false (pP f s).2.tail).2)
    else pP f s
def pP : Nat → List UInt8 → RT × List UInt8
  | 0, s => (.mk 0 [] [], s)
  | f + 1, s =>
    if s.head? = some 40 then ((pC f s.tail).1, (pC f s.tail).2.tail)
    else if s.head? = some 34 then (.mk (if (scanQ 34 false s.tail).1 = [] then 0 else 2) (scanQ 34 false s.tail).1 [], (scanQ 34 false s.tail).2)
    else if s.head? = some 91 then (.mk 1 (91 :: ((scanQ 93 false s.tail).1 ++ [93])) [], (scanQ 93 false s.tail).2)
    else if s.head? = some 46 then (.mk 1 [46] [], s.tail)
    else if s.head? = some 60 then (.mk 9 (s.tail.takeWhile alnum) [(pC f ((s.tail.dropWhile alnum).drop 2)).1], (pC f ((s.tail.dropWhile alnum).drop 2)).2.tail)
    else (.mk 3 (s.takeWhile alnum) [], s.dropWhile alnum)
end

def rawN (n : Nd) : List UInt8 :=
  if n.kind = 0 ∨ n.kind = 2 then n.text.data.toList.flatMap (signB [34]) else if n.kind = 1 then classB n
  else if n.kind = 3 ∨ n.kind = 9 then n.text.data.toList else if n.kind = 6 then countB n.mn n.mx else []
def rtF (l : List Nd) : Nat → Nat → RT
  | 0, _ => .mk 0 [] []
  | f + 1, i => .mk (ndAt l i).kind.toNat (rawN (ndAt l i)) ((kidsAt l i).map (rtF l f))
def rtN (l : List Nd) (i : Nat) : RT := rtF l (i + 1) i
theorem rtF_stable {l : List Nd} (h : Ahead l) : ∀ (f g i : Nat), i < f → i < g → rtF l f i = rtF l g i
  | 0, _, _, hf, _ => by omega
  | _, 0, _, _, hg => by omega
  | f + 1, g + 1, i, hf, hg => by
    simp only [rtF]
    congr 1
    refine List.map_congr_left fun k hk => ?_
    have := h i k hk
    exact rtF_stable h f g k (by omega) (by omega)
theorem rtN_eq {l : List Nd} (h : Ahead l) (i : Nat) : rtN l i = .mk (ndAt l i).kind.toNat (rawN (ndAt l i)) ((kidsAt l i).map (rtN l)) := by
  show rtF l (i + 1) i = _
  simp only [rtF]
  congr 1
  refine List.map_congr_left fun k hk => ?_
  have := h i k hk
  exact rtF_stable h i (k + 1) k (by omega) (by omega)
/-- Nodes that fit, their kids ahead. -/
structure Fine (l : List Nd) : Prop where
  ahead : Ahead l
  fit : ∀ i, fitN (ndAt l i) (kidsAt l i).length = true
theorem kids_length (l : List Nd) (i : Nat) : (kidsAt l i).length = (ndAt l i).kids.length := by
  unfold kidsAt ndAt
  cases l[i]? <;> simp
theorem rightP_fine {t : Tr} (h : rightP t) : Fine t.nodes := ⟨rightP_ahead h, fun i => by
  rw [kids_length]
  unfold ndAt
  cases e : t.nodes[i]? with
  | none => decide
  | some n => exact rightP_fit h e⟩
def countOk (n : Nd) : Prop := 0 ≤ n.mn ∧ n.mn ≤ 99 ∧ (n.mx = -1 ∨ (n.mn ≤ n.mx ∧ n.mx ≤ 99))
theorem fit_cases {n : Nd} {k : Nat} (h : fitN n k = true) : (n.kind = 0 ∧ n.text.size = 0 ∧ k = 0) ∨ (n.kind = 1 ∧ k = 0) ∨ (n.kind = 2 ∧ k = 0 ∧ 1 ≤ n.text.size) ∨ (n.kind = 3 ∧ k = 0 ∧ mayL n.text.data.toList = true) ∨
    (n.kind = 4 ∧ 2 ≤ k) ∨ (n.kind = 5 ∧ 2 ≤ k) ∨ (n.kind = 6 ∧ k = 1 ∧ countOk n) ∨ (n.kind = 7 ∧ k = 1) ∨ (n.kind = 8 ∧ k = 1) ∨ (n.kind = 9 ∧ k = 1 ∧ mayL n.text.data.toList = true) := by
  unfold fitN at h
  unfold countOk
  split at h
  · simp only [Bool.and_eq_true, noText, decide_eq_true_eq] at h
    exact .inl ⟨by assumption, by omega, by omega⟩
  split at h
  · simp only [Bool.and_eq_true, noText, decide_eq_true_eq] at h
    exact .inr (.inl ⟨by assumption, by omega⟩)
  split at h
  · simp only [Bool.and_eq_true, noText, decide_eq_true_eq] at h
    exact .inr (.inr (.inl ⟨by assumption, by omega, by omega⟩))
  split at h
  · simp only [Bool.and_eq_true, noText, decide_eq_true_eq] at h
    exact .inr (.inr (.inr (.inl ⟨by assumption, by omega, h.2⟩)))
  split at h
  · simp only [Bool.and_eq_true, noText, decide_eq_true_eq] at h
    exact .inr (.inr (.inr (.inr (.inl ⟨by assumption, by omega⟩))))
  split at h
  · simp only [Bool.and_eq_true, noText, decide_eq_true_eq] at h
    exact .inr (.inr (.inr (.inr (.inr (.inl ⟨by assumption, by omega⟩)))))
  split at h
  · simp only [Bool.and_eq_true, noText, decide_eq_true_eq] at h
    exact .inr (.inr (.inr (.inr (.inr (.inr (.inl ⟨by assumption, by omega, h.2⟩))))))
  split at h
  · simp only [Bool.and_eq_true, noText, decide_eq_true_eq] at h
    exact .inr (.inr (.inr (.inr (.inr (.inr (.inr (.inl ⟨by assumption, by omega⟩)))))))
  split at h
  · simp only [Bool.and_eq_true, noText, decide_eq_true_eq] at h
    exact .inr (.inr (.inr (.inr (.inr (.inr (.inr (.inr (.inl ⟨by assumption, by omega⟩))))))))
  split at h
  · simp only [Bool.and_eq_true, noText, decide_eq_true_eq] at h
    exact .inr (.inr (.inr (.inr (.inr (.inr (.inr (.inr (.inr (⟨by assumption, by omega, h.2⟩)))))))))
  · cases h
theorem may_form {l : List UInt8} (h : mayL l = true) : ∃ c r, l = c :: r ∧ isLetter c.toNat = true ∧ ∀ x ∈ l, alnum x = true := by
  simp only [mayL, decide_eq_true_eq] at h
  obtain ⟨h1, _, h2⟩ := h
  cases l with
  | nil => exact absurd rfl h1
  | cons c r =>
    by_cases hc : isLetter c.toNat = true
    · refine ⟨c, r, rfl, hc, fun x hx => ?_⟩
      simp only [takeL, hc, if_true, List.cons.injEq, true_and] at h2
      rcases List.mem_cons.1 hx with rfl | hx
      · simp [alnum, hc]
      · rw [← h2] at hx
        have h3 := List.all_takeWhile (l := r) (p := alnum)
        rw [List.all_eq_true] at h3
        exact h3 x hx
    · simp only [takeL, hc] at h2
      simp at h2
theorem take_name {l r : List UInt8} (h : ∀ x ∈ l, alnum x = true) (hr : ∀ c, r.head? = some c → alnum c = false) : (l ++ r).takeWhile alnum = l ∧ (l ++ r).dropWhile alnum = r := by
  rw [List.takeWhile_append_of_pos h, List.dropWhile_append_of_pos h]
  cases r with
  | nil => simp
  | cons c r =>
    have hc := hr c rfl
    rw [List.takeWhile_cons_of_neg (by simp [hc]), List.dropWhile_cons_of_neg (by simp [hc])]
    simp

def stopC (r : List UInt8) : Prop := r = [] ∨ r.head? = some 41 ∨ r.head? = some 62
def stopS (r : List UInt8) : Prop := stopC r ∨ r.take 2 = [32, 47]
def stopU (r : List UInt8) : Prop := r = [] ∨ r.head? = some 41 ∨ r.head? = some 62 ∨ r.head? = some 32
def stopA (r : List UInt8) : Prop := ∀ c, r.head? = some c → alnum c = false
theorem stopC.s {r : List UInt8} (h : stopC r) : stopS r := .inl h
theorem stopS.u {r : List UInt8} (h : stopS r) : stopU r := by
  rcases h with (h | h | h) | h
  · exact .inl h
  · exact .inr (.inl h)
  · exact .inr (.inr (.inl h))
  · cases r with
    | nil => exact .inl rfl
    | cons c r => cases r with
      | nil => simp at h
      | cons d r => simp only [List.take_succ_cons, List.take_zero, List.cons.injEq] at h; exact .inr (.inr (.inr (by simp [h.1])))
theorem stopU.a {r : List UInt8} (h : stopU r) : stopA r := fun c hc => by
  rcases h with h | h | h | h
  · rw [h] at hc; cases hc
  all_goals (rw [h] at hc; cases hc; decide)
theorem stopU.no {r : List UInt8} (h : stopU r) : ¬ (r.head? = some 63 ∨ r.head? = some 42 ∨ r.head? = some 43) ∧ ¬ r.head? = some 123 := by
  rcases h with h | h | h | h <;> (rw [h]; decide)
theorem stopC.ways {r : List UInt8} (h : stopC r) (f : Nat) : pWays f r = ([], r) := by
  cases f with
  | zero => rfl
  | succ f =>
    have : ¬ r.take 3 = [32, 47, 32] := fun e => by
      have e2 := congrArg List.head? e
      cases r with
      | nil => simp at e
      | cons c r =>
        simp only [List.take_succ_cons, List.head?_cons, Option.some.injEq] at e2
        subst e2
        rcases h with h | h | h
        · cases h
        · simp at h
        · simp at h
    simp only [pWays, if_neg this]
theorem stopS.parts {r : List UInt8} (h : stopS r) (f : Nat) : pParts f r = ([], r) := by
  cases f with
  | zero => rfl
  | succ f =>
    have : ¬ (r.head? = some 32 ∧ r.tail.head? ≠ some 47) := fun ⟨e1, e2⟩ => by
      rcases h with (h | h | h) | h
      · subst h; cases e1
      · rw [h] at e1; simp at e1
      · rw [h] at e1; simp at e1
      · apply e2
        cases r with
        | nil => simp at h
        | cons c r => cases r with
          | nil => simp at h
          | cons d r => simp only [List.take_succ_cons, List.take_zero, List.cons.injEq] at h; simp [h.2.1]
    simp only [pParts, if_neg this]

section
variable {l : List Nd} (H : Fine l)
abbrev stp (l : List Nd) (i : Nat) : Nat := stepN l i 0
/-- What reading a node's text answers, at each level. -/
structure Reads (l : List Nd) (i : Nat) : Prop where
  C : ∀ f r, 8 * stp l i ≤ f → stopC r → pC f (textN l i ++ r) = (rtN l i, r)
  S : (ndAt l i).kind ≠ 5 → ∀ f r, 8 * stp l i ≤ f + 1 → stopS r → pS f (textN l i ++ r) = (rtN l i, r)
  U : (ndAt l i).kind ≠ 4 → (ndAt l i).kind ≠ 5 → ∀ f r, 8 * stp l i ≤ f + 2 → stopU r → pU f (textN l i ++ r) = (rtN l i, r)
  P : ¬ ((ndAt l i).kind = 4 ∨ (ndAt l i).kind = 5 ∨ (ndAt l i).kind = 6 ∨ (ndAt l i).kind = 7 ∨ (ndAt l i).kind = 8) → ∀ f r, 8 * stp l i ≤ f + 3 → stopA r → pP f (textN l i ++ r) = (rtN l i, r)
theorem stp_pos (l : List Nd) (i : Nat) : 1 ≤ stp l i := by
  unfold stp stepN
  show 1 ≤ stepF l (i + 1) i 0
  simp only [stepF]; omega
theorem fuel_succ {f n : Nat} (h : n ≤ f) (hn : 0 < n) : ∃ g, f = g + 1 := ⟨f - 1, by omega⟩
theorem read_paren {k : Nat} (h : Reads l k) (f : Nat) (r : List UInt8) (hf : 8 * stp l k + 1 ≤ f) : pP f ([40] ++ textN l k ++ [41] ++ r) = (rtN l k, r) := by
  obtain ⟨f, rfl⟩ := fuel_succ hf (by omega)
  have h1 := h.C f (41 :: r) (by omega) (.inr (.inl rfl))
  have e : [40] ++ textN l k ++ [41] ++ r = 40 :: (textN l k ++ 41 :: r) := by simp
  rw [e]
  simp only [pP, List.head?_cons, if_true, List.tail_cons, h1]
theorem read_plain {s : List UInt8} (f : Nat) (x : RT) (r : List UInt8) (h1 : s.head? ≠ some 38) (h2 : s.head? ≠ some 33) (hp : pP f s = (x, r)) (hr : stopU r) : pU (f + 1) s = (x, r) := by
  have := hr.no
  simp only [pU, if_neg h1, if_neg h2, hp, if_neg this.1, if_neg this.2]
theorem read_unit {k : Nat} (h : Reads l k) (f : Nat) (r : List UInt8) (hf : 8 * stp l k + 2 ≤ f) (hr : stopU r) : pU f (wrapB (decide ((ndAt l k).kind = 4 ∨ (ndAt l k).kind = 5)) (textN l k) ++ r) = (rtN l k, r) := by
  by_cases hk : (ndAt l k).kind = 4 ∨ (ndAt l k).kind = 5
  · rw [decide_eq_true hk]
    obtain ⟨f, rfl⟩ := fuel_succ hf (by omega)
    exact read_plain f _ r (by simp [wrapB]) (by simp [wrapB]) (read_paren h f r (by omega)) hr
  · rw [decide_eq_false hk]
    exact h.U (fun e => hk (.inl e)) (fun e => hk (.inr e)) f r (by omega) hr
theorem read_one {s : List UInt8} (f : Nat) (x : RT) (r : List UInt8) (hp : pU f s = (x, r)) (hr : stopS r) : pS (f + 1) s = (x, r) := by
  simp only [pS, hp, hr.parts f, List.isEmpty_nil, if_true]
theorem read_way {k : Nat} (h : Reads l k) (f : Nat) (r : List UInt8) (hf : 8 * stp l k + 3 ≤ f) (hr : stopS r) : pS f (wrapB (decide ((ndAt l k).kind = 5)) (textN l k) ++ r) = (rtN l k, r) := by
  by_cases hk : (ndAt l k).kind = 5
  · obtain ⟨f, rfl⟩ := fuel_succ hf (by omega)
    have h1 := read_unit h f r (by omega) hr.u
    rw [decide_eq_true (Or.inr hk)] at h1
    rw [decide_eq_true hk]
    exact read_one f _ r h1 hr
  · rw [decide_eq_false hk]
    exact h.S hk f r (by omega) hr
theorem read_prim {k : Nat} (h : Reads l k) (f : Nat) (r : List UInt8) (hf : 8 * stp l k + 1 ≤ f) (hr : stopA r) :
    pP f (wrapB (decide ((ndAt l k).kind = 4 ∨ (ndAt l k).kind = 5 ∨ (ndAt l k).kind = 6 ∨ (ndAt l k).kind = 7 ∨ (ndAt l k).kind = 8)) (textN l k) ++ r) = (rtN l k, r) := by
  by_cases hk : (ndAt l k).kind = 4 ∨ (ndAt l k).kind = 5 ∨ (ndAt l k).kind = 6 ∨ (ndAt l k).kind = 7 ∨ (ndAt l k).kind = 8
  · rw [decide_eq_true hk]; exact read_paren h f r hf
  · rw [decide_eq_false hk]; exact h.P hk f r (by omega) hr

/-! ### heads -/
def atomH (c : UInt8) : Prop := c = 34 ∨ c = 46 ∨ c = 91 ∨ c = 60 ∨ isLetter c.toNat = true
theorem letter_no {c : UInt8} (h : isLetter c.toNat = true) : c ≠ 40 ∧ c ≠ 34 ∧ c ≠ 91 ∧ c ≠ 46 ∧ c ≠ 60 ∧ c ≠ 38 ∧ c ≠ 33 ∧ c ≠ 47 := by
  refine ⟨?_, ?_, ?_, ?_, ?_, ?_, ?_, ?_⟩ <;> (intro e; subst e; revert h; decide)
theorem atomH_no {c : UInt8} (h : atomH c) : c ≠ 40 ∧ c ≠ 38 ∧ c ≠ 33 ∧ c ≠ 47 := by
  rcases h with rfl | rfl | rfl | rfl | h
  · decide
  · decide
  · decide
  · decide
  · have := letter_no h; exact ⟨this.1, this.2.2.2.2.2.1, this.2.2.2.2.2.2.1, this.2.2.2.2.2.2.2⟩
theorem class_form (f : Nat → Bool) : classF f = [46] ∨ ∃ x, Passed 93 x ∧ classF f = 91 :: (x ++ [93]) := by
  unfold classF
  split
  · exact .inl rfl
  · exact .inr ⟨(runsF f).flatMap runB, passed_flat _ fun x _ => passed_run x, by simp⟩
include H
theorem leaf_text {i : Nat} (h : (ndAt l i).kind = 0 ∨ (ndAt l i).kind = 1 ∨ (ndAt l i).kind = 2 ∨ (ndAt l i).kind = 3) : textN l i = aheadB (ndAt l i) ∧ kidsAt l i = [] := by
  have hk : kidsAt l i = [] := by
    have := fit_cases (H.fit i)
    apply List.eq_nil_of_length_eq_zero
    omega
  refine ⟨?_, hk⟩
  rw [text_eq H.ahead, hk]
  have hb : behindB (ndAt l i) = [] := by unfold behindB; rw [if_neg (by omega), if_neg (by omega)]
  simp [joinB, hb]
theorem one_text {i : Nat} (h : (ndAt l i).kind = 6 ∨ (ndAt l i).kind = 7 ∨ (ndAt l i).kind = 8 ∨ (ndAt l i).kind = 9) : ∃ k, kidsAt l i = [k] ∧ textN l i = aheadB (ndAt l i) ++ wrapB (wrapsK ((ndAt l i).kind) ((ndAt l k).kind)) (textN l k) ++ behindB (ndAt l i) := by
  have hk : (kidsAt l i).length = 1 := by have := fit_cases (H.fit i); omega
  obtain ⟨k, hk⟩ := List.length_eq_one_iff.1 hk
  refine ⟨k, hk, ?_⟩
  rw [text_eq H.ahead, hk]
  simp [joinB]
theorem atom_head {i : Nat} (h : ¬ ((ndAt l i).kind = 4 ∨ (ndAt l i).kind = 5 ∨ (ndAt l i).kind = 6 ∨ (ndAt l i).kind = 7 ∨ (ndAt l i).kind = 8)) : ∃ c t, textN l i = c :: t ∧ atomH c := by
  rcases fit_cases (H.fit i) with ⟨e, _⟩ | ⟨e, _⟩ | ⟨e, _⟩ | ⟨e, _, hm⟩ | ⟨e, _⟩ | ⟨e, _⟩ | ⟨e, _⟩ | ⟨e, _⟩ | ⟨e, _⟩ | ⟨e, _⟩
  · rw [(leaf_text H (.inl e)).1]; unfold aheadB; rw [if_pos (.inl e)]; exact ⟨34, _, rfl, .inl rfl⟩
  · rw [(leaf_text H (.inr (.inl e))).1]; unfold aheadB; rw [if_neg (by omega), if_pos e]
    rcases class_form (hasW (wordsN (ndAt l i))) with h | ⟨x, _, h⟩
    · exact ⟨46, [], h, .inr (.inl rfl)⟩
    · exact ⟨91, _, h, .inr (.inr (.inl rfl))⟩
  · rw [(leaf_text H (.inr (.inr (.inl e)))).1]; unfold aheadB; rw [if_pos (.inr e)]; exact ⟨34, _, rfl, .inl rfl⟩
  · rw [(leaf_text H (.inr (.inr (.inr e)))).1]; unfold aheadB; rw [if_neg (by omega), if_neg (by omega), if_pos e]
    obtain ⟨c, r, hc, hl, _⟩ := may_form hm
    exact ⟨c, r, hc, .inr (.inr (.inr (.inr hl)))⟩
  · exact absurd (.inl e) h
  · exact absurd (.inr (.inl e)) h
  · exact absurd (.inr (.inr (.inl e))) h
  · exact absurd (.inr (.inr (.inr (.inl e)))) h
  · exact absurd (.inr (.inr (.inr (.inr e)))) h
  · obtain ⟨k, _, ht⟩ := one_text H (i := i) (.inr (.inr (.inr e)))
    rw [ht]; unfold aheadB
    rw [if_neg (by omega), if_neg (by omega), if_neg (by omega), if_neg (by omega), if_neg (by omega), if_pos e]
    exact ⟨60, _, rfl, .inr (.inr (.inr (.inl rfl)))⟩
theorem prim_head (k : Nat) : ∃ c t, wrapB (decide ((ndAt l k).kind = 4 ∨ (ndAt l k).kind = 5 ∨ (ndAt l k).kind = 6 ∨ (ndAt l k).kind = 7 ∨ (ndAt l k).kind = 8)) (textN l k) = c :: t ∧ c ≠ 38 ∧ c ≠ 33 ∧ c ≠ 47 := by
  by_cases hk : (ndAt l k).kind = 4 ∨ (ndAt l k).kind = 5 ∨ (ndAt l k).kind = 6 ∨ (ndAt l k).kind = 7 ∨ (ndAt l k).kind = 8
  · rw [decide_eq_true hk]; exact ⟨40, _, rfl, by decide⟩
  · rw [decide_eq_false hk]
    obtain ⟨c, t, e, hc⟩ := atom_head H hk
    exact ⟨c, t, e, (atomH_no hc).2⟩
theorem rep_text {i : Nat} (h : (ndAt l i).kind = 6) : ∃ k, kidsAt l i = [k] ∧ textN l i = wrapB (decide ((ndAt l k).kind = 4 ∨ (ndAt l k).kind = 5 ∨ (ndAt l k).kind = 6 ∨ (ndAt l k).kind = 7 ∨ (ndAt l k).kind = 8)) (textN l k) ++ countB (ndAt l i).mn (ndAt l i).mx := by
  obtain ⟨k, hk, ht⟩ := one_text H (i := i) (.inl h)
  refine ⟨k, hk, ?_⟩
  rw [ht]
  unfold aheadB behindB wrapsK
  rw [if_neg (by omega), if_neg (by omega), if_neg (by omega), if_neg (by omega), if_neg (by omega), if_neg (by omega), if_pos h, if_neg (by omega), if_neg (by omega), if_pos h]
  simp
theorem unit_head (k : Nat) : ∃ c t, wrapB (decide ((ndAt l k).kind = 4 ∨ (ndAt l k).kind = 5)) (textN l k) = c :: t ∧ c ≠ 47 := by
  by_cases hk : (ndAt l k).kind = 4 ∨ (ndAt l k).kind = 5
  · rw [decide_eq_true hk]; exact ⟨40, _, rfl, by decide⟩
  · rw [decide_eq_false hk]
    show ∃ c t, textN l k = c :: t ∧ c ≠ 47
    by_cases h6 : (ndAt l k).kind = 6
    · obtain ⟨z, _, ht⟩ := rep_text H h6
      obtain ⟨c, t, e, hc⟩ := prim_head H z
      rw [ht, e]; exact ⟨c, _, rfl, hc.2.2⟩
    by_cases h7 : (ndAt l k).kind = 7
    · obtain ⟨z, _, ht⟩ := one_text H (i := k) (.inr (.inl h7))
      rw [ht]; unfold aheadB
      rw [if_neg (by omega), if_neg (by omega), if_neg (by omega), if_pos h7]
      exact ⟨38, _, rfl, by decide⟩
    by_cases h8 : (ndAt l k).kind = 8
    · obtain ⟨z, _, ht⟩ := one_text H (i := k) (.inr (.inr (.inl h8)))
      rw [ht]; unfold aheadB
      rw [if_neg (by omega), if_neg (by omega), if_neg (by omega), if_neg (by omega), if_pos h8]
      exact ⟨33, _, rfl, by decide⟩
    obtain ⟨c, t, e, hc⟩ := atom_head H (i := k) (by omega)
    exact ⟨c, t, e, (atomH_no hc).2.2.2⟩

/-! ### lists -/
omit H in
theorem read_ways : ∀ (ks : List Nat), (∀ k ∈ ks, Reads l k) → ∀ f r, 8 * (ks.map fun k => 1 + stp l k).sum + 3 ≤ f → stopC r →
    pWays f ((ks.map fun k => wrapB (decide ((ndAt l k).kind = 5)) (textN l k)).flatMap ([32, 47, 32] ++ ·) ++ r) = (ks.map (rtN l), r)
  | [], _, f, r, _, hr => by simp [hr.ways f]
  | k :: ks, h, f, r, hf, hr => by
    simp only [List.map_cons, List.sum_cons] at hf
    obtain ⟨f, rfl⟩ := fuel_succ hf (by omega)
    have ih := read_ways ks (fun z hz => h z (List.mem_cons_of_mem _ hz)) f r (by omega) hr
    have hs : stopS ((ks.map fun k => wrapB (decide ((ndAt l k).kind = 5)) (textN l k)).flatMap ([32, 47, 32] ++ ·) ++ r) := by
      cases ks with
      | nil => exact hr.s
      | cons z ks => exact .inr rfl
    have h1 := read_way (h k List.mem_cons_self) f _ (by omega) hs
    have e : ((k :: ks).map fun k => wrapB (decide ((ndAt l k).kind = 5)) (textN l k)).flatMap ([32, 47, 32] ++ ·) ++ r = 32 :: 47 :: 32 :: (wrapB (decide ((ndAt l k).kind = 5)) (textN l k) ++ ((ks.map fun k => wrapB (decide ((ndAt l k).kind = 5)) (textN l k)).flatMap ([32, 47, 32] ++ ·) ++ r)) := by
      simp
    rw [e]
    simp only [pWays, List.take_succ_cons, List.take_zero, if_true, List.drop_succ_cons, List.drop_zero, h1, ih, List.map_cons]
theorem read_parts : ∀ (ks : List Nat), (∀ k ∈ ks, Reads l k) → ∀ f r, 8 * (ks.map fun k => 1 + stp l k).sum + 2 ≤ f → stopS r →
    pParts f ((ks.map fun k => wrapB (decide ((ndAt l k).kind = 4 ∨ (ndAt l k).kind = 5)) (textN l k)).flatMap ([32] ++ ·) ++ r) = (ks.map (rtN l), r)
  | [], _, f, r, _, hr => by simp [hr.parts f]
  | k :: ks, h, f, r, hf, hr => by
    simp only [List.map_cons, List.sum_cons] at hf
    obtain ⟨f, rfl⟩ := fuel_succ hf (by omega)
    have ih := read_parts ks (fun z hz => h z (List.mem_cons_of_mem _ hz)) f r (by omega) hr
    have hs : stopU ((ks.map fun k => wrapB (decide ((ndAt l k).kind = 4 ∨ (ndAt l k).kind = 5)) (textN l k)).flatMap ([32] ++ ·) ++ r) := by
      cases ks with
      | nil => exact hr.u
      | cons z ks => exact .inr (.inr (.inr rfl))
    have h1 := read_unit (h k List.mem_cons_self) f _ (by omega) hs
    obtain ⟨c, t, ec, hc⟩ := unit_head H k
    have e : ((k :: ks).map fun k => wrapB (decide ((ndAt l k).kind = 4 ∨ (ndAt l k).kind = 5)) (textN l k)).flatMap ([32] ++ ·) ++ r = 32 :: (wrapB (decide ((ndAt l k).kind = 4 ∨ (ndAt l k).kind = 5)) (textN l k) ++ ((ks.map fun k => wrapB (decide ((ndAt l k).kind = 4 ∨ (ndAt l k).kind = 5)) (textN l k)).flatMap ([32] ++ ·) ++ r)) := by
      simp
    have h2 : (wrapB (decide ((ndAt l k).kind = 4 ∨ (ndAt l k).kind = 5)) (textN l k) ++ ((ks.map fun k => wrapB (decide ((ndAt l k).kind = 4 ∨ (ndAt l k).kind = 5)) (textN l k)).flatMap ([32] ++ ·) ++ r)).head? ≠ some 47 := by
      rw [ec]; simpa using hc
    rw [e]
    simp only [pParts, List.head?_cons, List.tail_cons, true_and, if_pos h2, h1, ih, List.map_cons]
omit H in
theorem reads_up {i : Nat} (hU : (ndAt l i).kind ≠ 4 → (ndAt l i).kind ≠ 5 → ∀ f r, 8 * stp l i ≤ f + 2 → stopU r → pU f (textN l i ++ r) = (rtN l i, r)) (h4 : (ndAt l i).kind ≠ 4) (h5 : (ndAt l i).kind ≠ 5)
    (hP : ¬ ((ndAt l i).kind = 4 ∨ (ndAt l i).kind = 5 ∨ (ndAt l i).kind = 6 ∨ (ndAt l i).kind = 7 ∨ (ndAt l i).kind = 8) → ∀ f r, 8 * stp l i ≤ f + 3 → stopA r → pP f (textN l i ++ r) = (rtN l i, r)) : Reads l i := by
  have hp := stp_pos l i
  have hS : ∀ f r, 8 * stp l i ≤ f + 1 → stopS r → pS f (textN l i ++ r) = (rtN l i, r) := fun f r hf hr => by
    obtain ⟨f, rfl⟩ : ∃ g, f = g + 1 := ⟨f - 1, by omega⟩
    exact read_one f _ r (hU h4 h5 f r (by omega) hr.u) hr
  refine ⟨fun f r hf hr => ?_, fun _ => hS, hU, hP⟩
  obtain ⟨f, rfl⟩ : ∃ g, f = g + 1 := ⟨f - 1, by omega⟩
  simp only [pC, hS f r (by omega) hr.s, hr.ways f, List.isEmpty_nil, if_true]
theorem reads_atom {i : Nat} (hk : ¬ ((ndAt l i).kind = 4 ∨ (ndAt l i).kind = 5 ∨ (ndAt l i).kind = 6 ∨ (ndAt l i).kind = 7 ∨ (ndAt l i).kind = 8)) (hP : ∀ f r, 8 * stp l i ≤ f + 3 → stopA r → pP f (textN l i ++ r) = (rtN l i, r)) : Reads l i := by
  have hp := stp_pos l i
  refine reads_up (fun _ _ f r hf hr => ?_) (fun e => hk (.inl e)) (fun e => hk (.inr (.inl e))) fun _ => hP
  obtain ⟨f, rfl⟩ : ∃ g, f = g + 1 := ⟨f - 1, by omega⟩
  obtain ⟨c, t, e, hc⟩ := atom_head H hk
  have := atomH_no hc
  exact read_plain f _ r (by rw [e]; simpa using this.2.1) (by rw [e]; simpa using this.2.2.1) (hP f r (by omega) hr.a) hr
theorem stp_kids (i : Nat) : stp l i = 1 + ((kidsAt l i).map fun k => 1 + stp l k).sum := by
  show stepN l i 0 = _
  rw [stepN_eq H.ahead]; rfl
theorem reads_all : ∀ i, Reads l i := by
  intro i
  induction i using Nat.strongRecOn with
  | _ i ih =>
    have ih' : ∀ k ∈ kidsAt l i, Reads l k := fun k hk => ih k (H.ahead i k hk)
    have hstp := stp_kids H i
    have hrt := rtN_eq H.ahead i
    rcases fit_cases (H.fit i) with ⟨e, h0, _⟩ | ⟨e, _⟩ | ⟨e, _, h1⟩ | ⟨e, _, hm⟩ | ⟨e, h2⟩ | ⟨e, h2⟩ | ⟨e, _, hc⟩ | ⟨e, _⟩ | ⟨e, _⟩ | ⟨e, _, hm⟩
    · -- Empty
      obtain ⟨ht, hk⟩ := leaf_text H (i := i) (.inl e)
      have htx : (ndAt l i).text.data.toList = [] := List.eq_nil_of_length_eq_zero h0
      refine reads_atom H (by omega) fun f r hf hr => ?_
      obtain ⟨f, rfl⟩ : ∃ g, f = g + 1 := ⟨f - 1, by omega⟩
      have hr2 : rtN l i = .mk 0 [] [] := by rw [hrt, hk, e]; unfold rawN; rw [if_pos (.inl e), htx]; rfl
      rw [ht, hr2]; unfold aheadB; rw [if_pos (.inl e), htx]
      show pP (f + 1) (34 :: 34 :: r) = _
      have hq : scanQ 34 false (34 :: r) = ([], r) := rfl
      simp only [pP, List.head?_cons, List.tail_cons, hq, if_true, Option.some.injEq]
      rw [if_neg (by decide)]
    · -- Set
      obtain ⟨ht, hk⟩ := leaf_text H (i := i) (.inr (.inl e))
      refine reads_atom H (by omega) fun f r hf hr => ?_
      obtain ⟨f, rfl⟩ : ∃ g, f = g + 1 := ⟨f - 1, by omega⟩
      have hr2 : rtN l i = .mk 1 (classB (ndAt l i)) [] := by rw [hrt, hk, e]; unfold rawN; rw [if_neg (by omega), if_pos e]; rfl
      rw [ht, hr2]; unfold aheadB; rw [if_neg (by omega), if_pos e]
      unfold classB
      rcases class_form (hasW (wordsN (ndAt l i))) with h | ⟨x, hx, h⟩
      · rw [h]
        show pP (f + 1) (46 :: r) = _
        simp only [pP, List.head?_cons, List.tail_cons, Option.some.injEq]
        rw [if_neg (by decide), if_neg (by decide), if_neg (by decide)]; simp
      · rw [h]
        have e1 : 91 :: (x ++ [93]) ++ r = 91 :: (x ++ 93 :: r) := by simp
        rw [e1]
        simp only [pP, List.head?_cons, List.tail_cons, Option.some.injEq, scan_end hx]
        rw [if_neg (by decide), if_neg (by decide)]; simp
    · -- Text
      obtain ⟨ht, hk⟩ := leaf_text H (i := i) (.inr (.inr (.inl e)))
      refine reads_atom H (by omega) fun f r hf hr => ?_
      obtain ⟨f, rfl⟩ : ∃ g, f = g + 1 := ⟨f - 1, by omega⟩
      have hr2 : rtN l i = .mk 2 ((ndAt l i).text.data.toList.flatMap (signB [34])) [] := by rw [hrt, hk, e]; unfold rawN; rw [if_pos (.inr e)]; rfl
      have hne : (ndAt l i).text.data.toList.flatMap (signB [34]) ≠ [] := fun h => by
        have h3 := signs_inj left_lit (ndAt l i).text.data.toList [] h
        have : (ndAt l i).text.data.toList.length = (ndAt l i).text.size := rfl
        rw [h3] at this; simp at this; omega
      rw [ht, hr2]; unfold aheadB; rw [if_pos (.inr e)]
      have e1 : litB (ndAt l i).text.data.toList ++ r = 34 :: ((ndAt l i).text.data.toList.flatMap (signB [34]) ++ 34 :: r) := by simp [litB]
      rw [e1]
      simp only [pP, List.head?_cons, List.tail_cons, Option.some.injEq, scan_end (passed_lit _), if_neg hne]
      rw [if_neg (by decide)]; simp
    · -- Rule
      obtain ⟨ht, hk⟩ := leaf_text H (i := i) (.inr (.inr (.inr e)))
      refine reads_atom H (by omega) fun f r hf hr => ?_
      obtain ⟨f, rfl⟩ : ∃ g, f = g + 1 := ⟨f - 1, by omega⟩
      have hr2 : rtN l i = .mk 3 (ndAt l i).text.data.toList [] := by rw [hrt, hk, e]; unfold rawN; rw [if_neg (by omega), if_neg (by omega), if_pos (.inl e)]; rfl
      rw [ht, hr2]; unfold aheadB; rw [if_neg (by omega), if_neg (by omega), if_pos e]
      obtain ⟨c, t, hct, hl, ha⟩ := may_form hm
      have hn := letter_no hl
      have hw := take_name ha hr
      have hh : ((ndAt l i).text.data.toList ++ r).head? = some c := by rw [hct]; rfl
      simp only [pP, hh, Option.some.injEq, if_neg hn.1, if_neg hn.2.1, if_neg hn.2.2.1, if_neg hn.2.2.2.1, if_neg hn.2.2.2.2.1, hw.1, hw.2]
    · -- Seq
      have hb : betweenB (ndAt l i) = [32] := by unfold betweenB; rw [if_pos e]
      have ha : aheadB (ndAt l i) = [] := by unfold aheadB; rw [if_neg (by omega), if_neg (by omega), if_neg (by omega), if_neg (by omega), if_neg (by omega), if_neg (by omega)]
      have hbh : behindB (ndAt l i) = [] := by unfold behindB; rw [if_neg (by omega), if_neg (by omega)]
      have hw : ∀ k, wrapsK (ndAt l i).kind (ndAt l k).kind = decide ((ndAt l k).kind = 4 ∨ (ndAt l k).kind = 5) := fun k => by unfold wrapsK; rw [if_neg (by omega), if_pos (.inl e)]
      have ht := text_eq H.ahead i
      simp only [hb, ha, hbh, hw, List.nil_append, List.append_nil] at ht
      have hS : ∀ f r, 8 * stp l i ≤ f + 1 → stopS r → pS f (textN l i ++ r) = (rtN l i, r) := fun f r hf hr => by
        cases hks : kidsAt l i with
        | nil => rw [hks] at h2; simp at h2
        | cons k ks =>
          rw [hks] at hstp ih' h2
          simp only [List.map_cons, List.sum_cons] at hstp
          obtain ⟨f, rfl⟩ : ∃ g, f = g + 1 := ⟨f - 1, by omega⟩
          have h3 := read_parts H ks (fun z hz => ih' z (List.mem_cons_of_mem _ hz)) f r (by omega) hr
          have hs : stopU ((ks.map fun k => wrapB (decide ((ndAt l k).kind = 4 ∨ (ndAt l k).kind = 5)) (textN l k)).flatMap ([32] ++ ·) ++ r) := by
            cases ks with
            | nil => exact hr.u
            | cons z ks => exact .inr (.inr (.inr rfl))
          have h4 := read_unit (ih' k List.mem_cons_self) f _ (by omega) hs
          have hne : (ks.map (rtN l)).isEmpty = false := by
            cases ks with
            | nil => simp at h2
            | cons z ks => rfl
          rw [ht, hks]
          simp only [List.map_cons, joinB, List.append_assoc, pS]
          simp only [h4, h3, hne, Bool.false_eq_true, if_false]
          rw [hrt, hks, e]; unfold rawN
          rw [if_neg (by omega), if_neg (by omega), if_neg (by omega), if_neg (by omega)]; rfl
      have hp := stp_pos l i
      refine ⟨fun f r hf hr => ?_, fun _ => hS, fun h => absurd e h, fun h => absurd (.inl e) h⟩
      obtain ⟨f, rfl⟩ : ∃ g, f = g + 1 := ⟨f - 1, by omega⟩
      simp only [pC, hS f r (by omega) hr.s, hr.ways f, List.isEmpty_nil, if_true]
    · -- Choice
      have hb : betweenB (ndAt l i) = [32, 47, 32] := by unfold betweenB; rw [if_neg (by omega), if_pos e]
      have ha : aheadB (ndAt l i) = [] := by unfold aheadB; rw [if_neg (by omega), if_neg (by omega), if_neg (by omega), if_neg (by omega), if_neg (by omega), if_neg (by omega)]
      have hbh : behindB (ndAt l i) = [] := by unfold behindB; rw [if_neg (by omega), if_neg (by omega)]
      have hw : ∀ k, wrapsK (ndAt l i).kind (ndAt l k).kind = decide ((ndAt l k).kind = 5) := fun k => by unfold wrapsK; rw [if_pos e]
      have ht := text_eq H.ahead i
      simp only [hb, ha, hbh, hw, List.nil_append, List.append_nil] at ht
      refine ⟨fun f r hf hr => ?_, fun h => absurd e h, fun _ h => absurd e h, fun h => absurd (.inr (.inl e)) h⟩
      cases hks : kidsAt l i with
      | nil => rw [hks] at h2; simp at h2
      | cons k ks =>
        rw [hks] at hstp ih' h2
        simp only [List.map_cons, List.sum_cons] at hstp
        obtain ⟨f, rfl⟩ : ∃ g, f = g + 1 := ⟨f - 1, by omega⟩
        have h3 := read_ways ks (fun z hz => ih' z (List.mem_cons_of_mem _ hz)) f r (by omega) hr
        have hs : stopS ((ks.map fun k => wrapB (decide ((ndAt l k).kind = 5)) (textN l k)).flatMap ([32, 47, 32] ++ ·) ++ r) := by
          cases ks with
          | nil => exact hr.s
          | cons z ks => exact .inr rfl
        have h4 := read_way (ih' k List.mem_cons_self) f _ (by omega) hs
        have hne : (ks.map (rtN l)).isEmpty = false := by
          cases ks with
          | nil => simp at h2
          | cons z ks => rfl
        rw [ht, hks]
        simp only [List.map_cons, joinB, List.append_assoc, pC]
        simp only [h4, h3, hne, Bool.false_eq_true, if_false]
        rw [hrt, hks, e]; unfold rawN
        rw [if_neg (by omega), if_neg (by omega), if_neg (by omega), if_neg (by omega)]; rfl
    · -- Rep
      obtain ⟨k, hks, ht⟩ := rep_text H e
      rw [hks] at hstp ih'
      simp only [List.map_cons, List.map_nil, List.sum_cons, List.sum_nil] at hstp
      refine reads_up (fun _ _ f r hf hr => ?_) (by omega) (by omega) fun h => absurd (.inr (.inr (.inl e))) h
      obtain ⟨f, rfl⟩ : ∃ g, f = g + 1 := ⟨f - 1, by omega⟩
      obtain ⟨c, t, ec, hc1, hc2, _⟩ := prim_head H k
      have hr2 : rtN l i = .mk 6 (countB (ndAt l i).mn (ndAt l i).mx) [rtN l k] := by
        rw [hrt, hks, e]; unfold rawN; rw [if_neg (by omega), if_neg (by omega), if_neg (by omega), if_pos e]; rfl
      rw [ht, hr2, List.append_assoc]
      have g1 : (wrapB (decide ((ndAt l k).kind = 4 ∨ (ndAt l k).kind = 5 ∨ (ndAt l k).kind = 6 ∨ (ndAt l k).kind = 7 ∨ (ndAt l k).kind = 8)) (textN l k) ++ (countB (ndAt l i).mn (ndAt l i).mx ++ r)).head? = some c := by rw [ec]; rfl
      rcases count_form hc with h | ⟨x, hx, h⟩
      · have hsa : stopA (countB (ndAt l i).mn (ndAt l i).mx ++ r) := fun d hd => by
          rcases h with h | h | h <;> (rw [h] at hd; cases hd; decide)
        have h4 := read_prim (ih' k List.mem_cons_self) f _ (by omega) hsa
        have hh : (countB (ndAt l i).mn (ndAt l i).mx ++ r).head? = some 63 ∨ (countB (ndAt l i).mn (ndAt l i).mx ++ r).head? = some 42 ∨ (countB (ndAt l i).mn (ndAt l i).mx ++ r).head? = some 43 := by
          rcases h with h | h | h <;> (rw [h]; simp)
        have h5 : (countB (ndAt l i).mn (ndAt l i).mx ++ r).take 1 = countB (ndAt l i).mn (ndAt l i).mx ∧ (countB (ndAt l i).mn (ndAt l i).mx ++ r).tail = r := by
          rcases h with h | h | h <;> (rw [h]; exact ⟨rfl, rfl⟩)
        simp only [pU, g1, Option.some.injEq, if_neg hc1, if_neg hc2, h4, if_pos hh, h5.1, h5.2]
      · have e1 : countB (ndAt l i).mn (ndAt l i).mx ++ r = 123 :: (x ++ 125 :: r) := by rw [h]; simp
        have hsa : stopA (countB (ndAt l i).mn (ndAt l i).mx ++ r) := fun d hd => by
          rw [e1] at hd; cases hd; decide
        have h4 := read_prim (ih' k List.mem_cons_self) f _ (by omega) hsa
        have hh : ¬ ((countB (ndAt l i).mn (ndAt l i).mx ++ r).head? = some 63 ∨ (countB (ndAt l i).mn (ndAt l i).mx ++ r).head? = some 42 ∨ (countB (ndAt l i).mn (ndAt l i).mx ++ r).head? = some 43) := by rw [e1]; simp
        have hh2 : (countB (ndAt l i).mn (ndAt l i).mx ++ r).head? = some 123 := by rw [e1]; rfl
        have h5 : scanQ 125 false (countB (ndAt l i).mn (ndAt l i).mx ++ r).tail = (x, r) := by rw [e1, List.tail_cons, scan_end hx]
        simp only [pU, g1, Option.some.injEq, if_neg hc1, if_neg hc2, h4, if_neg hh, if_pos hh2, h5, ← h]
    · -- And
      obtain ⟨k, hks, ht⟩ := one_text H (i := i) (.inr (.inl e))
      rw [hks] at hstp ih'
      simp only [List.map_cons, List.map_nil, List.sum_cons, List.sum_nil] at hstp
      refine reads_up (fun _ _ f r hf hr => ?_) (by omega) (by omega) fun h => absurd (.inr (.inr (.inr (.inl e)))) h
      obtain ⟨f, rfl⟩ : ∃ g, f = g + 1 := ⟨f - 1, by omega⟩
      have hw : wrapsK ((ndAt l i).kind) ((ndAt l k).kind) = decide ((ndAt l k).kind = 4 ∨ (ndAt l k).kind = 5) := by unfold wrapsK; rw [if_neg (by omega), if_pos (.inr (.inl e))]
      have ha : aheadB (ndAt l i) = [38] := by unfold aheadB; rw [if_neg (by omega), if_neg (by omega), if_neg (by omega), if_pos e]
      have hbh : behindB (ndAt l i) = [] := by unfold behindB; rw [if_neg (by omega), if_neg (by omega)]
      have h4 := read_unit (ih' k List.mem_cons_self) f r (by omega) hr
      have hr2 : rtN l i = .mk 7 [] [rtN l k] := by
        rw [hrt, hks, e]; unfold rawN; rw [if_neg (by omega), if_neg (by omega), if_neg (by omega), if_neg (by omega)]; rfl
      rw [ht, hr2, ha, hbh, hw]
      simp only [List.append_nil, List.singleton_append, List.cons_append, List.nil_append, pU, List.head?_cons, if_true, List.tail_cons, h4]
    · -- Not
      obtain ⟨k, hks, ht⟩ := one_text H (i := i) (.inr (.inr (.inl e)))
      rw [hks] at hstp ih'
      simp only [List.map_cons, List.map_nil, List.sum_cons, List.sum_nil] at hstp
      refine reads_up (fun _ _ f r hf hr => ?_) (by omega) (by omega) fun h => absurd (.inr (.inr (.inr (.inr e)))) h
      obtain ⟨f, rfl⟩ : ∃ g, f = g + 1 := ⟨f - 1, by omega⟩
      have hw : wrapsK ((ndAt l i).kind) ((ndAt l k).kind) = decide ((ndAt l k).kind = 4 ∨ (ndAt l k).kind = 5) := by unfold wrapsK; rw [if_neg (by omega), if_pos (.inr (.inr e))]
      have ha : aheadB (ndAt l i) = [33] := by unfold aheadB; rw [if_neg (by omega), if_neg (by omega), if_neg (by omega), if_neg (by omega), if_pos e]
      have hbh : behindB (ndAt l i) = [] := by unfold behindB; rw [if_neg (by omega), if_neg (by omega)]
      have h4 := read_unit (ih' k List.mem_cons_self) f r (by omega) hr
      have hr2 : rtN l i = .mk 8 [] [rtN l k] := by
        rw [hrt, hks, e]; unfold rawN; rw [if_neg (by omega), if_neg (by omega), if_neg (by omega), if_neg (by omega)]; rfl
      rw [ht, hr2, ha, hbh, hw]
      simp only [List.append_nil, List.singleton_append, List.cons_append, List.nil_append, pU, List.head?_cons, Option.some.injEq, if_true, List.tail_cons, h4]
      rw [if_neg (by decide)]
    · -- Cap
      obtain ⟨k, hks, ht⟩ := one_text H (i := i) (.inr (.inr (.inr e)))
      rw [hks] at hstp ih'
      simp only [List.map_cons, List.map_nil, List.sum_cons, List.sum_nil] at hstp
      refine reads_atom H (by omega) fun f r hf hr => ?_
      obtain ⟨f, rfl⟩ : ∃ g, f = g + 1 := ⟨f - 1, by omega⟩
      have hw : wrapsK ((ndAt l i).kind) ((ndAt l k).kind) = false := by unfold wrapsK; rw [if_neg (by omega), if_neg (by omega), if_neg (by omega)]
      have ha : aheadB (ndAt l i) = [60] ++ (ndAt l i).text.data.toList ++ [58, 32] := by unfold aheadB; rw [if_neg (by omega), if_neg (by omega), if_neg (by omega), if_neg (by omega), if_neg (by omega), if_pos e]
      have hbh : behindB (ndAt l i) = [62] := by unfold behindB; rw [if_neg (by omega), if_pos e]
      have h4 := (ih' k List.mem_cons_self).C f (62 :: r) (by omega) (.inr (.inr rfl))
      have hr2 : rtN l i = .mk 9 (ndAt l i).text.data.toList [rtN l k] := by
        rw [hrt, hks, e]; unfold rawN; rw [if_neg (by omega), if_neg (by omega), if_pos (.inr e)]; rfl
      obtain ⟨c, t, hct, hl, hal⟩ := may_form hm
      have hcol : ∀ d, (58 :: 32 :: (textN l k ++ 62 :: r)).head? = some d → alnum d = false := fun d hd => by cases hd; decide
      have hwn := take_name hal hcol
      rw [ht, hr2, ha, hbh, hw]
      have e1 : [60] ++ (ndAt l i).text.data.toList ++ [58, 32] ++ wrapB false (textN l k) ++ [62] ++ r = 60 :: ((ndAt l i).text.data.toList ++ 58 :: 32 :: (textN l k ++ 62 :: r)) := by simp [wrapB]
      rw [e1]
      simp only [pP, List.head?_cons, List.tail_cons, Option.some.injEq, hwn.1, hwn.2, List.drop_succ_cons, List.drop_zero, h4, if_true]
      rw [if_neg (by decide), if_neg (by decide), if_neg (by decide), if_neg (by decide)]
end
/-- Texts that are the same are of the same shape. -/
theorem text_shape {l m : List Nd} (H : Fine l) (K : Fine m) {i j : Nat} (h : textN l i = textN m j) : rtN l i = rtN m j := by
  have h1 := (reads_all H i).C (8 * stp l i + 8 * stp m j) [] (by omega) (.inl rfl)
  have h2 := (reads_all K j).C (8 * stp l i + 8 * stp m j) [] (by omega) (.inl rfl)
  rw [h, h2] at h1
  injection h1 with h1 _
  exact h1.symm
end Go.Proofs.YtdcgbcdmkhleoaaDoor
