/- The reference's same of rules. -/
import Derived.Test.YtmjkgnknfgoadaaGreatDoorYf
import Derived.Test.YtmjkgnknfgoadaaGreatDoorDw
namespace Go.Proofs.YtmjkgnknfgoadaaGreatDoor
open Go.RowKit
set_option linter.unusedSimpArgs false
set_option linter.unusedVariables false
set_option maxRecDepth 100000 in
set_option maxHeartbeats 1600000 in
theorem r30same_any (x y : Ld) (S T : Nat → Prop) (w : World) (hA : x.t.inn w S) (hB : y.t.inn w T) (hm : ModR x.t) (hn : ModR y.t) :
    Calls Tryz.prog 75 #[.agg #[.string x.name, .slice x.t.A x.t.ls.length x.t.c, .int .i64 x.t.root], .agg #[.string y.name, .slice y.t.A y.t.ls.length y.t.c, .int .i64 y.t.root]] w fun e w' => e = .returned (.bool (sameD x.df y.df)) ∧ Below w.heap.size w w' := by
  have HSC := Lib.hid (show ∀ w', Below w.heap.size w w' → Calls Tryz.prog 70 #[.agg #[.slice x.t.A x.t.ls.length x.t.c, .int .i64 x.t.root], .agg #[.slice y.t.A y.t.ls.length y.t.c, .int .i64 y.t.root]] w' fun r w'' => r = .returned (.bool (sameT x.t.tr y.t.tr)) ∧ Below w'.heap.size w' w'' from fun w' hb => r4same_any x.t y.t S T w' (hA.below hb) (hB.below hb) hm hn)
  clear hA hB hm hn
  have hsd : sameD x.df y.df = (decide (x.name = y.name) && sameT x.t.tr y.t.tr) := rfl
  rw [hsd]
  clear hsd
  generalize sameT x.t.tr y.t.tr = st at *
  obtain ⟨na, ⟨Aa, ca, la, ra⟩⟩ := x
  obtain ⟨nb, ⟨Ab, cb, lb, rb⟩⟩ := y
  simp only at HSC ⊢
  go_enter Tryz.func75, Tryz.ntmps75
  have HB0 := Lib.hid (bx2 w (.cells #[.string na, .slice Aa la.length ca, .int .i64 ra] 50) (.cells #[.string nb, .slice Ab lb.length cb, .int .i64 rb] 50))
  by_cases hne : na = nb
  · have e1 : (na.toList == nb.toList) = true := by rw [hne]; simp
    rw [decide_eq_true hne, Bool.true_and]
    clear hne
    as_aux_lemma =>
      go_wp2_with (go_at_call 70; refine (HSC.out _ HB0.out).mono ?_; rintro e w1 ⟨rfl, hb⟩; have HB1 := Lib.hid (Below.step HB0.out hb); clear hb)
      go_ret
      exact ⟨rfl, HB1.out⟩
  · have e1 : (na.toList == nb.toList) = false := by
      rw [beq_eq_false_iff_ne]
      intro h
      rw [Lib.toList_data, Lib.toList_data] at h
      exact hne (text_ext h)
    rw [decide_eq_false hne, Bool.false_and]
    clear hne
    as_aux_lemma =>
      go_wp2_with fail
      go_ret
      exact ⟨rfl, HB0.out⟩
end Go.Proofs.YtmjkgnknfgoadaaGreatDoor
