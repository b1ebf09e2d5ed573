/- Arguments that are rows of numbers, or places, opened. -/
import Derived.Test.YtfncfmiccomgcaaDoorEc
namespace Go.Proofs.YtfncfmiccomgcaaDoor
open Go.RowKit Go.Joins Go.ChangeShapes Go.WideShapes Go.Deep
set_option linter.unusedSimpArgs false
set_option linter.unusedVariables false
set_option maxRecDepth 100000

section
variable {H : Type} {enc : TypeId × Value → H} {W : World}
theorem open_ints {base : Nat} {v : Value} {d : DataW H} {p : List MemPlace} (hok : Value.okWide Tryd.prog W .any base 25 v) (h : DataW.Trod enc Tryd.prog W 0 (fun _ => true) true 25 v d p) (hw : ∀ n ∈ d.weights Tryd.prog 25, n ≤ reachBytes) :
    ∃ A c l, v = .slice A l.length c ∧ intL.row W (· < W.heap.size) A l ∧ l.length ≤ 281474976710656 ∧ l.length ≤ c ∧ c ≤ 9223372036854775807 := by
  have hrb := reachBytes_lt
  obtain ⟨a0, len, cap, rfl⟩ := okWide_slice Tryd.underlying25 hok
  obtain ⟨fuel, hf⟩ := h
  obtain ⟨A, c, l, q0, hl, hll, hlc, hcm⟩ := open_row (L := intL) Tryd.underlying25 (by kernel_rfl) (of_decide_eq_true (by kernel_rfl)) (by decide) opens_int hf hw
  simp only [Value.cells, List.cons.injEq, and_true] at q0
  exact ⟨A, c, l, q0, hl, by omega, hlc, by unfold maxLen at hcm; omega⟩
theorem open_place {base : Nat} {v : Value} {d : DataW H} {p : List MemPlace} (hok : Value.okWide Tryd.prog W .any base 40 v) (h : DataW.Trod enc Tryd.prog W 0 (fun _ => true) true 40 v d p) (hw : ∀ n ∈ d.weights Tryd.prog 40, n ≤ reachBytes) :
    ∃ r A c l, v = .agg #[.int .i64 r, .slice A l.length c] ∧ (-9223372036854775808 ≤ r ∧ r ≤ 9223372036854775807) ∧ intL.row W (· < W.heap.size) A l ∧ l.length ≤ 281474976710656 ∧ l.length ≤ c ∧ c ≤ 9223372036854775807 := by
  have hrb := reachBytes_lt
  obtain ⟨cs, rfl, hsz⟩ := okWide_struct Tryd.underlying40 hok
  rw [show Tryd.prog.cellsOf 40 = 2 by kernel_rfl] at hsz
  obtain ⟨c0, c1, rfl⟩ : ∃ c0 c1, cs = #[c0, c1] := by
    obtain ⟨l⟩ := cs
    match l, hsz with
    | [c0, c1], _ => exact ⟨c0, c1, rfl⟩
  obtain ⟨fuel, hf⟩ := h
  obtain ⟨xs, m, _, hx, _, hlen, hg⟩ := DataW.trod_struct Tryd.underlying40 hf
  have k1 : Tryd.prog.cellsOf 3 = 1 := by kernel_rfl
  have k2 : Tryd.prog.cellsOf 25 = 1 := by kernel_rfl
  match xs, hlen with
  | [y0, y1], _ =>
    have g0 : DataW.trod enc Tryd.prog W 0 (fun _ => true) true m 3 [c0] = some y0 := by simpa [k1, Value.cells] using hg 0 _ rfl
    have g1 : DataW.trod enc Tryd.prog W 0 (fun _ => true) true m 25 [c1] = some y1 := by simpa [k1, k2, Value.cells] using hg 1 _ rfl
    obtain ⟨r, q0, _, b0⟩ := DataW.trod_int Tryd.underlying3 g0
    obtain ⟨A, c, l, q1, hl, hll, hlc, hcm⟩ := open_row (L := intL) Tryd.underlying25 (by kernel_rfl) (of_decide_eq_true (by kernel_rfl)) (by decide) opens_int g1 (fun k hk => hw k (by
      have hx1 : d = .agg [y0.1, y1.1] := by have := congrArg Prod.fst hx; simpa using this
      rw [hx1, DataW.weights, Tryd.underlying40]
      exact DataW.weights_mem_each (j := 1) rfl rfl k hk))
    simp only [List.cons.injEq, and_true] at q0 q1
    subst q0 q1
    exact ⟨r, A, c, l, rfl, bounds_i64 b0, hl, by omega, hlc, by unfold maxLen at hcm; omega⟩
end
end Go.Proofs.YtfncfmiccomgcaaDoor
