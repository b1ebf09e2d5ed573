/- Plain laws for LexBack: a word that is written is read back. -/
import Derived.Test.YtabncmckojlllaaDoorQc
import Derived.Test.YtabncmckojlllaaDoorKa
namespace Go.Proofs.YtabncmckojlllaaDoor
set_option linter.unusedSimpArgs false
set_option linter.unusedVariables false

/-! ### signs -/
theorem hexB_val : ∀ n : Fin 16, hexV (hexB n.val) = some n.val := by decide
theorem hexB_some {n : Nat} (h : n < 16) : hexV (hexB n) = some n := hexB_val ⟨n, h⟩
def LeftS (left : List UInt8) : Prop := (110 : UInt8) ∉ left ∧ (114 : UInt8) ∉ left ∧ (116 : UInt8) ∉ left ∧ (120 : UInt8) ∉ left ∧ (92 : UInt8) ∉ left
theorem leftS_lit : LeftS [34] := by unfold LeftS; decide
theorem leftS_cls : LeftS clsL := by unfold LeftS; decide
theorem sign_back {left : List UInt8} (hl : LeftS left) (b : UInt8) (r : List UInt8) : signR left (signB left b ++ r) 0 = .ok b (signB left b).length := by
  obtain ⟨h1, h2, h3, h4, h5⟩ := hl
  unfold signB
  split
  · rename_i h
    unfold signR
    simp only [List.cons_append, List.getElem?_cons_zero, List.nil_append]
    rw [if_neg h.2.1, if_pos ⟨h.1, h.2.1, h.2.2⟩]; rfl
  split
  · rename_i h; subst h
    simp [signR, meantB, h1]
  split
  · rename_i h; subst h
    simp [signR, meantB, h2]
  split
  · rename_i h; subst h
    simp [signR, meantB, h3]
  split
  · rename_i hp h10 h13 h9 h
    have hm : meantB left b = some b := by
      unfold meantB
      by_cases hb : b ∈ left
      · rw [if_pos hb]
      · rcases h with rfl | h
        · rw [if_neg hb]; simp
        · exact absurd h hb
    simp [signR, hm]
  · have hx : meantB left 120 = none := by
      unfold meantB
      rw [if_neg h4]; simp
    have hb := b.toNat_lt
    have e1 := hexB_some (n := b.toNat / 16) (by omega)
    have e2 := hexB_some (n := b.toNat % 16) (by omega)
    simp only [signR, hexR, List.cons_append, List.nil_append, List.getElem?_cons_zero, List.getElem?_cons_succ, if_true, hx, e1, e2, Nat.zero_add]
    simp only [List.length_cons, List.length_nil]
    congr 1
    apply UInt8.toNat_inj.1
    rw [UInt8.toNat_ofNat']
    omega
theorem hexR_drop {t : List UInt8} {a k n : Nat} {b : UInt8} (h : hexR (t.drop a) k = .ok b n) : hexR t (a + k) = .ok b (a + n) := by
  unfold hexR at h ⊢
  rw [List.getElem?_drop] at h
  cases h1 : t[a + k]? with
  | none => rw [h1] at h; cases h
  | some c =>
    rw [h1] at h
    simp only at h ⊢
    cases h2 : hexV c with
    | none => rw [h2] at h; cases h
    | some x =>
      rw [h2] at h
      simp only [List.getElem?_drop] at h ⊢
      rw [show a + (k + 1) = a + k + 1 by omega] at h
      cases h3 : t[a + k + 1]? with
      | none => rw [h3] at h; cases h
      | some d =>
        rw [h3] at h
        simp only at h ⊢
        cases h4 : hexV d with
        | none => rw [h4] at h; cases h
        | some y => rw [h4] at h; simp only at h ⊢; injection h with e1 e2; rw [← e1, ← e2]; congr 1
theorem signR_drop {left t : List UInt8} {a n : Nat} {b : UInt8} (h : signR left (t.drop a) 0 = .ok b n) : signR left t a = .ok b (a + n) := by
  unfold signR at h ⊢
  rw [List.getElem?_drop, Nat.add_zero] at h
  cases h1 : t[a]? with
  | none => rw [h1] at h; cases h
  | some c =>
    rw [h1] at h
    simp only at h ⊢
    split at h
    · rename_i hc
      rw [if_pos hc]
      rw [List.getElem?_drop] at h
      simp only [Nat.zero_add] at h
      cases h2 : t[a + 1]? with
      | none => rw [h2] at h; cases h
      | some d =>
        rw [h2] at h
        simp only at h ⊢
        cases h3 : meantB left d with
        | some v => rw [h3] at h; simp only at h ⊢; injection h with e1 e2; rw [← e1, ← e2]
        | none =>
          rw [h3] at h
          simp only at h ⊢
          split at h
          · rename_i hx; rw [if_pos hx]; exact hexR_drop h
          · cases h
    · rename_i hc
      rw [if_neg hc]
      split at h
      · rename_i hp; rw [if_pos hp]; injection h with e1 e2; rw [← e1, ← e2]
      · cases h
theorem sign_at {left : List UInt8} (hl : LeftS left) (pre : List UInt8) (b : UInt8) (r : List UInt8) : signR left (pre ++ (signB left b ++ r)) pre.length = .ok b (pre.length + (signB left b).length) :=
  signR_drop (by rw [List.drop_left]; exact sign_back hl b r)
/-- A sign begins by a backslash, or by a byte that is left as it is. -/
theorem sign_first (left : List UInt8) (b : UInt8) (r : List UInt8) : ∃ c, (signB left b ++ r)[0]? = some c ∧ (c = 92 ∨ c ∉ left) := by
  unfold signB
  split
  · rename_i h; exact ⟨b, by simp, .inr h.2.2⟩
  split
  · exact ⟨92, by simp, .inl rfl⟩
  split
  · exact ⟨92, by simp, .inl rfl⟩
  split
  · exact ⟨92, by simp, .inl rfl⟩
  split <;> exact ⟨92, by simp, .inl rfl⟩
/-! ### literals -/
theorem signs_back {left : List UInt8} (hl : LeftS left) (en : UInt8) (hen : en ∈ left) : ∀ (l pre rest : List UInt8), RN left en (pre ++ (l.flatMap (signB left) ++ en :: rest)) pre.length = (l, pre.length + (l.flatMap (signB left)).length, 0)
  | [], pre, rest => by
    rw [RN_end (by simp)]; simp
  | b :: l, pre, rest => by
    have e : (b :: l).flatMap (signB left) ++ en :: rest = signB left b ++ (l.flatMap (signB left) ++ en :: rest) := by simp
    rw [e]
    have h1 : (pre ++ (signB left b ++ (l.flatMap (signB left) ++ en :: rest)))[pre.length]? ≠ some en := by
      obtain ⟨c, hc, hn⟩ := sign_first left b (l.flatMap (signB left) ++ en :: rest)
      rw [List.getElem?_append_right (Nat.le_refl _), Nat.sub_self, hc]
      intro e
      have := Option.some.inj e
      subst this
      rcases hn with h | h
      · subst h; exact hl.2.2.2.2 hen
      · exact h hen
    rw [RN_ok h1 (sign_at hl pre b _)]
    have ih := signs_back hl en hen l (pre ++ signB left b) rest
    rw [List.append_assoc, List.length_append] at ih
    rw [ih]
    simp only [List.flatMap_cons, List.length_append]
    rw [Nat.add_assoc]
theorem lit_back (s rest : List UInt8) (hs : s.length ≤ 255) : unlitR (litB s ++ rest) = (s, (litB s).length, 0) := by
  have e : litB s ++ rest = [34] ++ (s.flatMap (signB [34]) ++ 34 :: rest) := by simp [litB]
  have h := signs_back leftS_lit 34 (by simp) s [34] rest
  rw [e, unlitR_of (by simp)]
  rw [show ([34] : List UInt8).length = 1 from rfl] at h
  rw [h]
  simp only
  rw [if_neg (by simp), if_neg (by omega)]
  simp [litB]; omega
/-! ### classes -/
theorem first_cls (b : UInt8) (r : List UInt8) : ∃ c, (signB clsL b ++ r)[0]? = some c ∧ c ≠ 93 ∧ c ≠ 45 ∧ c ≠ 94 := by
  obtain ⟨c, hc, hn⟩ := sign_first clsL b r
  refine ⟨c, hc, ?_⟩
  rcases hn with rfl | h
  · decide
  · simp [clsL] at h; exact h
theorem item_one (pre : List UInt8) (a : UInt8) (s : List UInt8) (hs : s[0]? ≠ some 45) :
    GN (pre ++ (signB clsL a ++ s)) pre.length = ((a, a) :: (GN ((pre ++ signB clsL a) ++ s) (pre ++ signB clsL a).length).1, (GN ((pre ++ signB clsL a) ++ s) (pre ++ signB clsL a).length).2) := by
  have h1 : (pre ++ (signB clsL a ++ s))[pre.length]? ≠ some 93 := by
    obtain ⟨c, hc, h, _⟩ := first_cls a s
    rw [List.getElem?_append_right (Nat.le_refl _), Nat.sub_self, hc]
    intro e; exact h (Option.some.inj e)
  have h2 : highR (pre ++ (signB clsL a ++ s)) a (pre.length + (signB clsL a).length) = .ok a (pre.length + (signB clsL a).length) := by
    unfold highR
    rw [if_neg]
    rw [← List.append_assoc, List.getElem?_append_right (by simp), List.length_append, Nat.sub_self]
    exact hs
  rw [GN_ok h1 (sign_at leftS_cls pre a s) h2 (by omega), List.append_assoc, List.length_append]
theorem item_two (pre : List UInt8) (a b : UInt8) (s : List UInt8) (hab : a.toNat ≤ b.toNat) :
    GN (pre ++ (signB clsL a ++ 45 :: (signB clsL b ++ s))) pre.length = ((a, b) :: (GN ((pre ++ (signB clsL a ++ 45 :: signB clsL b)) ++ s) (pre ++ (signB clsL a ++ 45 :: signB clsL b)).length).1, (GN ((pre ++ (signB clsL a ++ 45 :: signB clsL b)) ++ s) (pre ++ (signB clsL a ++ 45 :: signB clsL b)).length).2) := by
  have h1 : (pre ++ (signB clsL a ++ 45 :: (signB clsL b ++ s)))[pre.length]? ≠ some 93 := by
    obtain ⟨c, hc, h, _⟩ := first_cls a (45 :: (signB clsL b ++ s))
    rw [List.getElem?_append_right (Nat.le_refl _), Nat.sub_self, hc]
    intro e; exact h (Option.some.inj e)
  have e2 : pre ++ (signB clsL a ++ 45 :: (signB clsL b ++ s)) = (pre ++ signB clsL a ++ [45]) ++ (signB clsL b ++ s) := by simp
  have e3 : (pre ++ (signB clsL a ++ 45 :: signB clsL b)) ++ s = pre ++ (signB clsL a ++ 45 :: (signB clsL b ++ s)) := by simp
  have h2 : highR (pre ++ (signB clsL a ++ 45 :: (signB clsL b ++ s))) a (pre.length + (signB clsL a).length) = .ok b ((pre ++ (signB clsL a ++ 45 :: signB clsL b)).length) := by
    unfold highR
    rw [if_pos]
    · have h := sign_at leftS_cls (pre ++ signB clsL a ++ [45]) b s
      rw [← e2] at h
      simp only [List.length_append, List.length_cons, List.length_nil] at h ⊢
      rw [h]
      congr 1
      omega
    · rw [← List.append_assoc, List.getElem?_append_right (by simp), List.length_append, Nat.sub_self]
      rfl
  rw [GN_ok h1 (sign_at leftS_cls pre a _) h2 (by omega), e3]
theorem runs_first (l : List (Nat × Nat)) (rest : List UInt8) : ∃ c, (l.flatMap runB ++ 93 :: rest)[0]? = some c ∧ c ≠ 45 ∧ c ≠ 94 := by
  cases l with
  | nil => exact ⟨93, by simp, by decide, by decide⟩
  | cons r l =>
    obtain ⟨c, hc, _, h1, h2⟩ := first_cls (UInt8.ofNat r.1) ((if r.1 + 1 < r.2 then [45] else []) ++ ((if r.1 ≠ r.2 then signB [93, 45, 94] (UInt8.ofNat r.2) else []) ++ (l.flatMap runB ++ 93 :: rest)))
    refine ⟨c, ?_, h1, h2⟩
    rw [← hc]
    simp only [List.flatMap_cons, runB, List.append_assoc, clsL]
theorem runs_back : ∀ (l : List (Nat × Nat)) (pre rest : List UInt8), (∀ r ∈ l, r.1 ≤ r.2 ∧ r.2 ≤ 255) → GN (pre ++ (l.flatMap runB ++ 93 :: rest)) pre.length = (l.flatMap itemsR, pre.length + (l.flatMap runB).length, 0)
  | [], pre, rest, _ => by
    rw [GN_end (by simp)]; simp
  | (x, y) :: l, pre, rest, hl => by
    have hxy := hl (x, y) List.mem_cons_self
    simp only at hxy
    have hl2 := fun r hr => hl r (List.mem_cons_of_mem _ hr)
    have hf : (l.flatMap runB ++ 93 :: rest)[0]? ≠ some 45 := by
      obtain ⟨c, hc, h, _⟩ := runs_first l rest
      rw [hc]; intro e; exact h (Option.some.inj e)
    have ex : (UInt8.ofNat x).toNat = x := by rw [UInt8.toNat_ofNat']; omega
    have ey : (UInt8.ofNat y).toNat = y := by rw [UInt8.toNat_ofNat']; omega
    by_cases h1 : x + 1 < y
    · have e : ((x, y) :: l).flatMap runB ++ 93 :: rest = signB clsL (UInt8.ofNat x) ++ 45 :: (signB clsL (UInt8.ofNat y) ++ (l.flatMap runB ++ 93 :: rest)) := by
        simp [List.flatMap_cons, runB, h1, show x ≠ y by omega, clsL]
      rw [e, item_two pre _ _ _ (by omega), runs_back l _ rest hl2]
      simp [List.flatMap_cons, itemsR, runB, h1, show x ≠ y by omega, clsL]
      omega
    · by_cases h2 : x = y
      · subst h2
        have e : ((x, x) :: l).flatMap runB ++ 93 :: rest = signB clsL (UInt8.ofNat x) ++ (l.flatMap runB ++ 93 :: rest) := by
          simp [List.flatMap_cons, runB, clsL]
        rw [e, item_one pre _ _ hf, runs_back l _ rest hl2]
        simp [List.flatMap_cons, itemsR, runB, show ¬ x + 1 < x by omega, clsL]
        omega
      · have e : ((x, y) :: l).flatMap runB ++ 93 :: rest = signB clsL (UInt8.ofNat x) ++ (signB clsL (UInt8.ofNat y) ++ (l.flatMap runB ++ 93 :: rest)) := by
          simp [List.flatMap_cons, runB, h1, h2, clsL]
        rw [e, item_one pre _ _ (by obtain ⟨c, hc, _, h, _⟩ := first_cls (UInt8.ofNat y) (l.flatMap runB ++ 93 :: rest); rw [hc]; intro e; exact h (Option.some.inj e)), item_one _ _ _ hf, runs_back l _ rest hl2]
        simp [List.flatMap_cons, itemsR, runB, h1, h2, clsL]
        omega
theorem class_back (f : Nat → Bool) (rest : List UInt8) (hf : (List.range 256).all f = false) : unclsR (classF f ++ rest) = (fun k => xor false (inRanges ((runsF f).flatMap itemsR) k), (classF f).length, 0) := by
  have e : classF f ++ rest = [91] ++ ((runsF f).flatMap runB ++ 93 :: rest) := by simp [classF, hf]
  have h := runs_back (runsF f) [91] rest (runsF_ok f)
  have hb : butB ([91] ++ ((runsF f).flatMap runB ++ 93 :: rest)) = false := by
    unfold butB
    obtain ⟨c, hc, _, h94⟩ := runs_first (runsF f) rest
    rw [List.getElem?_append_right (by simp)]
    refine decide_eq_false fun e => ?_
    have e2 : ((runsF f).flatMap runB ++ 93 :: rest)[0]? = some 94 := e
    rw [hc] at e2
    exact h94 (Option.some.inj e2)
  have ha : butA ([91] ++ ((runsF f).flatMap runB ++ 93 :: rest)) = 1 := by unfold butA; rw [hb]; rfl
  rw [e, unclsR_of (by simp), ha]
  rw [show ([91] : List UInt8).length = 1 from rfl] at h
  rw [h, hb]
  simp only
  rw [if_neg (by simp)]
  simp [classF, hf]; omega
theorem items_in (f : Nat → Bool) (k : Nat) (hk : k < 256) : inRanges ((runsF f).flatMap itemsR) k = f k := by
  have h1 := items_iff (runsF f) (runsF_ok f) k
  have h2 := runsF_in f k
  rw [Bool.eq_iff_iff]
  constructor
  · intro h
    unfold inRanges at h
    obtain ⟨r, hr, hd⟩ := List.any_eq_true.1 h
    exact (h2.1 (h1.1 ⟨r, hr, of_decide_eq_true hd⟩)).2
  · intro h
    obtain ⟨r, hr, hd⟩ := h1.2 (h2.2 ⟨hk, h⟩)
    exact List.any_eq_true.2 ⟨r, hr, decide_eq_true hd⟩
end Go.Proofs.YtabncmckojlllaaDoor
