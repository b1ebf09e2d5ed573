/- Equality of sets and of words. -/
import Derived.Test.YtabncmckojlllaaDoorLu
namespace Go.Proofs.YtabncmckojlllaaDoor
open Go.RowKit
set_option linter.unusedSimpArgs false
set_option linter.unusedVariables false

theorem eqInt (d : Nat) (a b : Int) (w : World) : (Op.equalIn (d + 1) 28 (.int .u64 a) (.int .u64 b)).run Tryd.prog w = .ok (a == b) w := by
  simp only [Op.equalIn, Sem.run_bind, run_underlying Tryd.underlying28, Result.andThen_ok, if_true, Sem.run_pure]
set_option maxRecDepth 100000 in
set_option maxHeartbeats 1000000 in
theorem equal_sets (a0 a1 a2 a3 b0 b1 b2 b3 : Int) (w : World) : (Op.equalIn 9999 30 (.agg #[.int .u64 a0, .int .u64 a1, .int .u64 a2, .int .u64 a3]) (.agg #[.int .u64 b0, .int .u64 b1, .int .u64 b2, .int .u64 b3])).run Tryd.prog w = .ok (decide (a0 = b0 ∧ a1 = b1 ∧ a2 = b2 ∧ a3 = b3)) w := by
  rw [show (9999 : Nat) = 9998 + 1 from rfl]
  have hi : (Tryd.prog.info? 28).isSome = true := by kernel_rfl
  obtain ⟨i, hi⟩ := Option.isSome_iff_exists.1 hi
  rw [run_equalIn_array (P := Tryd.prog) w 9998 (n := 4) (e := 28) (i := i) _ _ Tryd.underlying30 hi]
  have hc : Tryd.prog.cellsOf 28 = 1 := by kernel_rfl
  rw [hc, show List.range 4 = [0, 1, 2, 3] from rfl]
  have hk : Tryd.prog.plainKey 28 = true := by kernel_rfl
  have hp : ∀ {v : Value} {xs : Array Value} (k : Nat) (w : World), xs[k]? = some v → (part 28 xs k).run Tryd.prog w = .ok v w := fun k w h => run_part_plain (w := w) hk h
  have he : ∀ (a b : Int) (w : World), (Op.equalIn 9998 28 (.int .u64 a) (.int .u64 b)).run Tryd.prog w = .ok (a == b) w := fun a b w => by
    exact eqInt 9997 a b w
  have X0 : ∀ w, (part 28 #[.int .u64 a0, .int .u64 a1, .int .u64 a2, .int .u64 a3] 0).run Tryd.prog w = .ok (.int .u64 a0) w := fun w => hp 0 w rfl
  have X1 : ∀ w, (part 28 #[.int .u64 a0, .int .u64 a1, .int .u64 a2, .int .u64 a3] 1).run Tryd.prog w = .ok (.int .u64 a1) w := fun w => hp 1 w rfl
  have X2 : ∀ w, (part 28 #[.int .u64 a0, .int .u64 a1, .int .u64 a2, .int .u64 a3] 2).run Tryd.prog w = .ok (.int .u64 a2) w := fun w => hp 2 w rfl
  have X3 : ∀ w, (part 28 #[.int .u64 a0, .int .u64 a1, .int .u64 a2, .int .u64 a3] 3).run Tryd.prog w = .ok (.int .u64 a3) w := fun w => hp 3 w rfl
  have Y0 : ∀ w, (part 28 #[.int .u64 b0, .int .u64 b1, .int .u64 b2, .int .u64 b3] 0).run Tryd.prog w = .ok (.int .u64 b0) w := fun w => hp 0 w rfl
  have Y1 : ∀ w, (part 28 #[.int .u64 b0, .int .u64 b1, .int .u64 b2, .int .u64 b3] 1).run Tryd.prog w = .ok (.int .u64 b1) w := fun w => hp 1 w rfl
  have Y2 : ∀ w, (part 28 #[.int .u64 b0, .int .u64 b1, .int .u64 b2, .int .u64 b3] 2).run Tryd.prog w = .ok (.int .u64 b2) w := fun w => hp 2 w rfl
  have Y3 : ∀ w, (part 28 #[.int .u64 b0, .int .u64 b1, .int .u64 b2, .int .u64 b3] 3).run Tryd.prog w = .ok (.int .u64 b3) w := fun w => hp 3 w rfl
  simp only [Op.eqItems, Sem.run_bind, Nat.reduceMul, X0, X1, X2, X3, Y0, Y1, Y2, Y3, he, Result.andThen_ok]
  by_cases h0 : a0 = b0
  · subst h0
    simp only [beq_self_eq_true, Bool.not_true, Bool.false_eq_true, if_false, Sem.run_bind, X0, X1, X2, X3, Y0, Y1, Y2, Y3, he, Result.andThen_ok]
    by_cases h1 : a1 = b1
    · subst h1
      simp only [beq_self_eq_true, Bool.not_true, Bool.false_eq_true, if_false, Sem.run_bind, X0, X1, X2, X3, Y0, Y1, Y2, Y3, he, Result.andThen_ok]
      by_cases h2 : a2 = b2
      · subst h2
        simp only [beq_self_eq_true, Bool.not_true, Bool.false_eq_true, if_false, Sem.run_bind, X0, X1, X2, X3, Y0, Y1, Y2, Y3, he, Result.andThen_ok]
        by_cases h3 : a3 = b3
        · subst h3; simp
        · simp [h3]
      · simp [h2]
    · simp [h1]
  · simp [h0]
end Go.Proofs.YtabncmckojlllaaDoor
