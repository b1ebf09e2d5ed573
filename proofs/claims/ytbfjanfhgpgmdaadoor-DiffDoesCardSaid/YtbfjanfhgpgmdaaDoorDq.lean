/- The contracts of slices.Clone over nodes and rules. -/
import Derived.Test.YtbfjanfhgpgmdaaDoorDo
import Derived.WalkSpells
namespace Go.Proofs.YtbfjanfhgpgmdaaDoor
open Go.RowKit
set_option linter.unusedSimpArgs false
set_option linter.unusedVariables false

theorem infoDef : (Tryd.prog.info? 36).map (fun i => (i.zero, i.size, i.bytes)) = some (some (.agg #[.string ByteArray.empty, .slice none 0 0, .int .i64 0]), 3, 48) := by kernel_rfl
theorem row_none {α : Type} {L : Lay α} {w : World} {S : Nat → Prop} {l : List α} (h0 : 0 < L.size) (h : L.row w S none l) : l = [] := by
  cases l with
  | nil => rfl
  | cons x r =>
    obtain ⟨b, o, e, _⟩ := h.at h0 0 (by simp)
    cases e

set_option maxRecDepth 100000 in
set_option maxHeartbeats 800000 in
theorem clone_nodes (ls : List Ln) (A : Option Addr) (c : Nat) (S : Nat → Prop) (w : World) (hA : ndL.row w S A ls) (hl : ls.length ≤ 4294967296) :
    Calls Tryd.prog 88 #[.slice A ls.length c] w fun e w' => ∃ V vc, e = .returned (.slice V ls.length vc) ∧ w'.ownsRow w.heap.size 78 9 (.slice V ls.length vc) ls.length (ndL.all ls) ∧ Below w.heap.size w w' := by
  obtain ⟨j0, hj, hy0, hy1, hy2⟩ := info_parts infoNode
  have hzc : (Value.agg #[.int .u8 0, .int .u64 0, .int .u64 0, .int .u64 0, .int .u64 0, .string ByteArray.empty, .int .i64 0, .int .i64 0, .slice none 0 0]).cells.size = 9 := rfl
  have heq := fun (w : World) (a : Option Addr) (l c : Nat) => Lib.run_eql_slice_nil (P := Tryd.prog) w 32 78 a l c 0 0 Tryd.underlying32
  cases A with
  | none =>
    obtain rfl := row_none (by decide) hA
    go_enter Tryd.func88, Tryd.ntmps88
    go_wp2_with fail
    go_ret
    exact ⟨none, 0, rfl, World.ownsRow_nil _ _ _ _, Below.refl _ _⟩
  | some ad =>
    have HO := Lib.hid (show (w.alloc (.cells #[] 78)).ownsRow w.heap.size 78 9 (.slice (some ⟨w.heap.size, 0, none⟩) 0 0) 0 [] from ⟨rfl, .inr ⟨w.heap.size, 0, #[], rfl, Nat.le_refl _, bx_new w _, Nat.le_refl _, by unfold maxLen; omega, rfl, rfl⟩⟩)
    have HA := Lib.hid (hA.below (bx1 w (.cells #[] 78))); clear hA
    have F := Lib.hid (show 0 + ls.length ≤ maxLen ∧ (0 + ls.length) * 96 ≤ 140737488355328 from ⟨by unfold maxLen; omega, by omega⟩)
    go_enter Tryd.func88, Tryd.ntmps88
    go_wp2_with (at_builtin; refine wpList_append_at _ rfl (.tmp 5) (.tmp 6) 32 rfl w.heap.size 78 j0 _ 9 96 Tryd.underlying32 hj hy0 hy1 hy2 hzc (by decide) (some ⟨w.heap.size, 0, none⟩) 0 0 [] rfl HO.out (some ad) ls.length c (ndL.all ls) rfl (ndL.all_length ls) HA.out.rowAt (ndL.all_one' ls) F.out.1 F.out.2 (by simp) ?_; intro V vc w2 HO2 HG2 HA2)
    go_ret
    refine ⟨V, vc, rfl, by have h := HO2.out; rw [Nat.zero_add, List.nil_append] at h; exact h, ?_⟩
    exact (bx1 w _).trans ((Below.refl w.heap.size _).grown HG2.out (by simp) (fun k e => by cases e; exact Nat.le_refl _))

set_option maxRecDepth 100000 in
set_option maxHeartbeats 800000 in
theorem clone_defs (ls : List Ld) (A : Option Addr) (c : Nat) (S : Nat → Prop) (w : World) (hA : dfL.row w S A ls) (hl : ls.length ≤ 4294967296) :
    Calls Tryd.prog 71 #[.slice A ls.length c] w fun e w' => ∃ V vc, e = .returned (.slice V ls.length vc) ∧ w'.ownsRow w.heap.size 36 3 (.slice V ls.length vc) ls.length (dfL.all ls) ∧ Below w.heap.size w w' := by
  obtain ⟨j0, hj, hy0, hy1, hy2⟩ := info_parts infoDef
  have hzc : (Value.agg #[.string ByteArray.empty, .slice none 0 0, .int .i64 0]).cells.size = 3 := rfl
  have heq := fun (w : World) (a : Option Addr) (l c : Nat) => Lib.run_eql_slice_nil (P := Tryd.prog) w 22 36 a l c 0 0 Tryd.underlying22
  cases A with
  | none =>
    obtain rfl := row_none (by decide) hA
    go_enter Tryd.func71, Tryd.ntmps71
    go_wp2_with fail
    go_ret
    exact ⟨none, 0, rfl, World.ownsRow_nil _ _ _ _, Below.refl _ _⟩
  | some ad =>
    have HO := Lib.hid (show (w.alloc (.cells #[] 36)).ownsRow w.heap.size 36 3 (.slice (some ⟨w.heap.size, 0, none⟩) 0 0) 0 [] from ⟨rfl, .inr ⟨w.heap.size, 0, #[], rfl, Nat.le_refl _, bx_new w _, Nat.le_refl _, by unfold maxLen; omega, rfl, rfl⟩⟩)
    have HA := Lib.hid (hA.below (bx1 w (.cells #[] 36))); clear hA
    have F := Lib.hid (show 0 + ls.length ≤ maxLen ∧ (0 + ls.length) * 48 ≤ 140737488355328 from ⟨by unfold maxLen; omega, by omega⟩)
    go_enter Tryd.func71, Tryd.ntmps71
    go_wp2_with (at_builtin; refine wpList_append_at _ rfl (.tmp 5) (.tmp 6) 22 rfl w.heap.size 36 j0 _ 3 48 Tryd.underlying22 hj hy0 hy1 hy2 hzc (by decide) (some ⟨w.heap.size, 0, none⟩) 0 0 [] rfl HO.out (some ad) ls.length c (dfL.all ls) rfl (dfL.all_length ls) HA.out.rowAt (dfL.all_one' ls) F.out.1 F.out.2 (by simp) ?_; intro V vc w2 HO2 HG2 HA2)
    go_ret
    refine ⟨V, vc, rfl, by have h := HO2.out; rw [Nat.zero_add, List.nil_append] at h; exact h, ?_⟩
    exact (bx1 w _).trans ((Below.refl w.heap.size _).grown HG2.out (by simp) (fun k e => by cases e; exact Nat.le_refl _))

/-- slices.Clone of integers. -/
theorem clone_ints (l : List Int) (A : Option Addr) (c : Nat) (S : Nat → Prop) (w : World) (hA : intL.row w S A l) (hl : l.length ≤ 4294967296) :
    Calls Tryd.prog 89 #[.slice A l.length c] w fun e w' => ∃ V vc, e = .returned (.slice V l.length vc) ∧ w'.ownsRow w.heap.size 3 1 (.slice V l.length vc) l.length (intL.all l) ∧ Below w.heap.size w w' := by
  cases A with
  | none =>
    obtain rfl := row_none (by decide) hA
    exact (Tryd.slices_Clone_int_nil 0 c w).mono fun e w' ⟨he, hw⟩ => ⟨none, 0, he, by rw [hw]; exact World.ownsRow_nil _ _ _ _, by rw [hw]; exact Below.refl _ _⟩
  | some ad =>
    by_cases h0 : 0 < l.length
    · obtain ⟨b, o, e, hc⟩ := intAt hA h0
      cases e
      refine (Tryd.slices_Clone_int b o l.length c l w (Nat.le_refl _) (by omega) hc).mono fun e w' ⟨v, he, ho, _, hb⟩ => ?_
      obtain ⟨V, vc, rfl⟩ := ownsRow_slice ho
      exact ⟨V, vc, he, by rw [List.take_length] at ho; rw [intL_all]; exact ho, hb⟩
    · obtain rfl : l = [] := List.eq_nil_of_length_eq_zero (by omega)
      refine (Tryd.slices_Clone_int_zero ad c w).mono fun e w' ⟨v, he, ho, _, hb⟩ => ?_
      obtain ⟨V, vc, rfl⟩ := ownsRow_slice ho
      exact ⟨V, vc, he, ho, hb⟩
end Go.Proofs.YtbfjanfhgpgmdaaDoor
