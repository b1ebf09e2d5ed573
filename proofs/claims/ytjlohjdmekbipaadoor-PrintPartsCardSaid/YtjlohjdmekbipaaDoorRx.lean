/- The contract of bonsailaw08.within. -/
import Derived.Test.YtjlohjdmekbipaaDoorRw
namespace Go.Proofs.YtjlohjdmekbipaaDoor
open Go.RowKit
set_option linter.unusedSimpArgs false
set_option linter.unusedVariables false

def withinB (s u : List UInt8) (k : Nat) : Bool := decide (u <+: s.drop k)
set_option maxRecDepth 100000 in
set_option maxHeartbeats 3200000 in
theorem within_any (s u : ByteArray) (k : Nat) (w : World) (hk : k ≤ s.size) (hs : s.size ≤ 281474976710656) :
    Calls Tryd.prog 36 #[.string s, .string u, .int .i64 k] w fun e w' => w = w' ∧ e = .returned (.bool (withinB s.data.toList u.data.toList k)) := by
  have i1 : (0 : Int) ≤ (k : Int) := by omega
  have i2 : (k : Int) ≤ (s.size : Int) := by omega
  by_cases hu : u.size ≤ s.size - k
  · have i3 : (u.size : Int) ≤ (s.size : Int) - (k : Int) := by omega
    have i4 : (0 : Int) ≤ (k : Int) + (u.size : Int) := by omega
    have i5 : (k : Int) + (u.size : Int) ≤ (s.size : Int) := by omega
    have i6 : (k : Int) ≤ (k : Int) + (u.size : Int) := by omega
    go_enter Tryd.func36, Tryd.ntmps36
    go_wp2_with fail
    have he : ((s.extract k (k + u.size)).toList == u.toList) = withinB s.data.toList u.data.toList k := by
      rw [Bool.eq_iff_iff, beq_iff_eq, withinB, decide_eq_true_iff, Lib.toList_data, Lib.toList_data, Lib.extract_data, List.prefix_iff_eq_take]
      have h1 : k + u.size - k = u.data.toList.length := by show _ = u.size; omega
      rw [h1, eq_comm]
    rw [he]
    go_ret
    exact ⟨rfl, rfl⟩
  · have i3 : ¬ (u.size : Int) ≤ (s.size : Int) - (k : Int) := by omega
    have hf : withinB s.data.toList u.data.toList k = false := by
      unfold withinB
      rw [decide_eq_false_iff_not]
      intro h
      have := h.length_le
      rw [List.length_drop] at this
      exact hu this
    rw [hf]
    go_enter Tryd.func36, Tryd.ntmps36
    go_wp2_with fail
    go_ret
    exact ⟨rfl, rfl⟩
end Go.Proofs.YtjlohjdmekbipaaDoor
