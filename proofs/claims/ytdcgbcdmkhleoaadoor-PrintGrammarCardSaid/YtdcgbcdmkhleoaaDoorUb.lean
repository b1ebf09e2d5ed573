/- Plain law of bonsairef01.Runs: the runs as they are found from their first bytes. -/
import Derived.Test.YtdcgbcdmkhleoaaDoorFc
namespace Go.Proofs.YtdcgbcdmkhleoaaDoor
set_option linter.unusedSimpArgs false
set_option linter.unusedVariables false

/-- R: the runs that begin below n, as the reference finds them. -/
def RunInv (f : Nat → Bool) (n : Nat) (R : List (Nat × Nat)) : Prop :=
  ∃ A B : List (Nat × Nat), R = A ++ B ∧ ((List.range n).filter f).foldl addRun [] = A ++ B.map (fun p => (p.1, n - 1)) ∧ (∀ a ∈ A, a.2 + 1 < n) ∧
    ((B = [] ∧ (n = 0 ∨ f (n - 1) = false) ∧ ∀ a ∈ A, a.2 < n) ∨ ∃ x y, B = [(x, y)] ∧ x < n ∧ n ≤ y + 1 ∧ y ≤ 255 ∧ (∀ b, n - 1 ≤ b → b ≤ y → f b = true) ∧ (y = 255 ∨ f (y + 1) = false))
theorem RunInv.zero (f : Nat → Bool) : RunInv f 0 [] := ⟨[], [], rfl, rfl, by simp, .inl ⟨rfl, .inl rfl, by simp⟩⟩
theorem addRun_apart (A : List (Nat × Nat)) (n : Nat) (h : ∀ a ∈ A, a.2 + 1 < n) : addRun A n = A ++ [(n, n)] := by
  unfold addRun
  split
  · rename_i x y hl
    have := h (x, y) (List.mem_of_getLast? hl)
    simp only at this
    rw [if_neg (by omega)]
  · rename_i hl
    rw [List.getLast?_eq_none_iff.1 hl]; rfl
theorem addRun_next (A : List (Nat × Nat)) (x n : Nat) (hn : 0 < n) : addRun (A ++ [(x, n - 1)]) n = A ++ [(x, n)] := by
  unfold addRun
  rw [List.getLast?_append, List.getLast?_singleton]
  simp only [Option.some_or]
  rw [if_pos (by omega), List.dropLast_concat]
theorem range_step (f : Nat → Bool) (n : Nat) : ((List.range (n + 1)).filter f).foldl addRun [] = if f n then addRun (((List.range n).filter f).foldl addRun []) n else ((List.range n).filter f).foldl addRun [] := by
  rw [List.range_succ, List.filter_append, List.foldl_append]
  cases h : f n <;> simp [h]
theorem RunInv.new {f : Nat → Bool} {n : Nat} {R : List (Nat × Nat)} (h : RunInv f n R) (hf : f n = true) (hp : n = 0 ∨ f (n - 1) = false) (y : Nat) (h1 : n ≤ y) (h2 : y ≤ 255) (h3 : ∀ b, n ≤ b → b ≤ y → f b = true) (h4 : y = 255 ∨ f (y + 1) = false) :
    RunInv f (n + 1) (R ++ [(n, y)]) := by
  obtain ⟨A, B, hR, hP, hA, hB⟩ := h
  rcases hB with ⟨hB, hp0, hlt⟩ | ⟨x, z, hB, hx, hz, hz2, hall, hz3⟩
  · subst hB
    refine ⟨A, [(n, y)], by rw [hR]; simp, ?_, fun a ha => by have := hA a ha; omega, .inr ⟨n, y, rfl, by omega, by omega, h2, fun b hb hb2 => h3 b (by omega) hb2, h4⟩⟩
    rw [range_step, if_pos hf, hP]
    simp only [List.map_nil, List.append_nil, List.map_cons, Nat.add_sub_cancel]
    exact addRun_apart A n hA
  · have h5 := hall (n - 1) (Nat.le_refl _) (by omega)
    rcases hp with h6 | h6
    · omega
    · rw [h5] at h6; cases h6
theorem RunInv.same {f : Nat → Bool} {n : Nat} {R : List (Nat × Nat)} (h : RunInv f n R) (hn : n ≤ 255) (hp : f n = false ∨ (0 < n ∧ f (n - 1) = true)) : RunInv f (n + 1) R := by
  obtain ⟨A, B, hR, hP, hA, hB⟩ := h
  rcases hB with ⟨hB, hp0, hlt⟩ | ⟨x, z, hB, hx, hz, hz2, hall, hz3⟩
  · subst hB
    have hf : f n = false := by
      rcases hp with h | ⟨h, h2⟩
      · exact h
      · rcases hp0 with h3 | h3
        · omega
        · rw [h2] at h3; cases h3
    refine ⟨A, [], hR, ?_, fun a ha => by have := hA a ha; omega, .inl ⟨rfl, .inr (by simpa using hf), fun a ha => by have := hlt a ha; omega⟩⟩
    rw [range_step, hf]
    simpa using hP
  · subst hB
    cases hf : f n
    · have hzn : z = n - 1 := by
        by_cases h : n ≤ z
        · have := hall n (by omega) h
          rw [hf] at this; cases this
        · omega
      subst hzn
      refine ⟨A ++ [(x, n - 1)], [], by rw [hR]; simp, ?_, fun a ha => ?_, .inl ⟨rfl, .inr (by simpa using hf), fun a ha => ?_⟩⟩
      · rw [range_step, hf]
        simpa using hP
      · rcases List.mem_append.1 ha with h | h
        · have := hA a h; omega
        · obtain rfl := List.mem_singleton.1 h
          simp only; omega
      · rcases List.mem_append.1 ha with h | h
        · have := hA a h; omega
        · obtain rfl := List.mem_singleton.1 h
          simp only; omega
    · have hzn : n ≤ z := by
        rcases hz3 with h | h
        · omega
        · by_cases h2 : n ≤ z
          · exact h2
          · rw [show z + 1 = n by omega, hf] at h; cases h
      refine ⟨A, [(x, z)], hR, ?_, fun a ha => by have := hA a ha; omega, .inr ⟨x, z, rfl, by omega, by omega, hz2, fun b hb hb2 => hall b (by omega) hb2, hz3⟩⟩
      rw [range_step, if_pos hf, hP]
      simp only [List.map_cons, List.map_nil, Nat.add_sub_cancel]
      exact addRun_next A x n (by omega)
theorem RunInv.done {f : Nat → Bool} {R : List (Nat × Nat)} (h : RunInv f 256 R) : R = runsF f := by
  obtain ⟨A, B, hR, hP, hA, hB⟩ := h
  unfold runsF
  rw [hP, hR]
  rcases hB with ⟨hB, _⟩ | ⟨x, z, hB, hx, hz, hz2, _⟩
  · rw [hB]; rfl
  · rw [hB]
    have : z = 255 := by omega
    subst this
    rfl
theorem RunInv.len {f : Nat → Bool} {n : Nat} {R : List (Nat × Nat)} (h : RunInv f n R) (hn : n ≤ 256) : R.length ≤ 256 := by
  obtain ⟨A, B, hR, hP, hA, hB⟩ := h
  have h1 := foldRun_len ((List.range n).filter f) []
  have h2 := List.length_filter_le f (List.range n)
  have h3 := congrArg List.length hP
  simp only [List.length_append, List.length_map, List.length_range, List.length_nil] at h1 h2 h3
  rw [hR, List.length_append]
  omega

/-! ### what Sign, Literal and Class make -/
/-- The reference's order of the questions. -/
def signR (sp : List UInt8) (b : UInt8) : List UInt8 :=
  if b = 10 then [92, 110] else if b = 13 then [92, 114] else if b = 9 then [92, 116]
  else if b.toNat < 32 ∨ 126 < b.toNat then [92, 120, hexB (b.toNat / 16), hexB (b.toNat % 16)]
  else if b ∈ sp then [92, b] else [b]
theorem signR_eq (left sp : List UInt8) (h1 : ∀ x, x ∈ sp ↔ x = 92 ∨ x ∈ left) (h2 : ∀ x ∈ sp, 32 ≤ x.toNat ∧ x.toNat ≤ 126) (b : UInt8) : signR sp b = signB left b := by
  unfold signR signB
  by_cases a : b = 10
  · subst a; simp
  by_cases c : b = 13
  · subst c; simp
  by_cases d : b = 9
  · subst d; simp
  rw [if_neg a, if_neg c, if_neg d]
  by_cases e : b.toNat < 32 ∨ 126 < b.toNat
  · rw [if_pos e, if_neg (by omega), if_neg a, if_neg c, if_neg d, if_neg]
    intro h
    have := h2 b ((h1 b).2 h)
    omega
  · rw [if_neg e]
    by_cases g : b ∈ sp
    · have hg := (h1 b).1 g
      rw [if_pos g, if_neg (by rcases hg with h | h <;> simp [h]), if_neg a, if_neg c, if_neg d, if_pos hg]
    · have hg := fun h => g ((h1 b).2 h)
      rw [if_neg g, if_pos ⟨by omega, fun h => hg (.inl h), fun h => hg (.inr h)⟩]
end Go.Proofs.YtdcgbcdmkhleoaaDoor
