/- The contracts of tree.Fits and bonsairef04.Fits, whatever kind. -/
import Derived.Test.YtbfjanfhgpgmdaaDoorDe
import Derived.Test.YtbfjanfhgpgmdaaDoorDf
import Derived.Test.YtbfjanfhgpgmdaaDoorDg
namespace Go.Proofs.YtbfjanfhgpgmdaaDoor
open Go.RowKit
set_option linter.unusedSimpArgs false
set_option linter.unusedVariables false

theorem fitN_other (n : Nd) (k : Int) (h : 10 ≤ n.kind) : fitN n k = false := by
  unfold fitN
  rw [if_neg (by omega), if_neg (by omega), if_neg (by omega), if_neg (by omega), if_neg (by omega), if_neg (by omega), if_neg (by omega), if_neg (by omega), if_neg (by omega), if_neg (by omega)]
set_option maxRecDepth 100000 in
set_option maxHeartbeats 1600000 in
theorem fits_other (n : Nd) (K : Value) (k : Int) (w : World) (h : 10 ≤ n.kind) (h2 : n.kind ≤ 255) :
    Calls Tryd.prog 47 #[ndV n K, .int .i64 k] w fun e w' => e = .returned (.bool (fitN n k)) ∧ Below w.heap.size w w' := by
  have HF := Lib.hid (fitN_other n k h)
  obtain ⟨kind, s0, s1, s2, s3, text, mn, mx, kids⟩ := n
  simp only at h h2 ⊢
  go_enter Tryd.func47, Tryd.ntmps47
  go_wp2_with fail
  go_ret
  exact ⟨ret_bool HF.out.symm, bx1 w _⟩
theorem fits_any (n : Nd) (K : Value) (k : Int) (w : World) (ht : CntTab w) (hk : 0 ≤ n.kind ∧ n.kind ≤ 255) (hts : n.text.size ≤ 281474976710656) :
    Calls Tryd.prog 47 #[ndV n K, .int .i64 k] w fun e w' => e = .returned (.bool (fitN n k)) ∧ Below w.heap.size w w' := by
  have h : n.kind = 0 ∨ n.kind = 1 ∨ n.kind = 2 ∨ n.kind = 3 ∨ n.kind = 4 ∨ n.kind = 5 ∨ n.kind = 6 ∨ n.kind = 7 ∨ n.kind = 8 ∨ n.kind = 9 ∨ 10 ≤ n.kind := by omega
  rcases h with h | h | h | h | h | h | h | h | h | h | h
  · exact fits0 n K k w ht h hts
  · exact fits1 n K k w ht h hts
  · exact fits2 n K k w ht h hts
  · exact fits3 n K k w ht h hts
  · exact fits4 n K k w ht h hts
  · exact fits5 n K k w ht h hts
  · exact fits6 n K k w ht h hts
  · exact fits7 n K k w ht h hts
  · exact fits8 n K k w ht h hts
  · exact fits9 n K k w ht h hts
  · exact fits_other n K k w h hk.2
set_option maxRecDepth 100000 in
set_option maxHeartbeats 1600000 in
theorem rfits_other (n : Nd) (K : Value) (k : Int) (w : World) (h : 10 ≤ n.kind) (h2 : n.kind ≤ 255) :
    Calls Tryd.prog 76 #[ndV n K, .int .i64 k] w fun e w' => e = .returned (.bool (fitN n k)) ∧ Below w.heap.size w w' := by
  have HF := Lib.hid (fitN_other n k h)
  obtain ⟨kind, s0, s1, s2, s3, text, mn, mx, kids⟩ := n
  simp only at h h2 ⊢
  have hE := fun w => eqSet w s0 s1 s2 s3 0 0 0 0
  have k0 : (kind == 0) = false := by simp; omega
  have k1 : (kind == 1) = false := by simp; omega
  have k2 : (kind == 2) = false := by simp; omega
  have k3 : (kind == 3) = false := by simp; omega
  have k4 : (kind == 4) = false := by simp; omega
  have k5 : (kind == 5) = false := by simp; omega
  have k6 : (kind == 6) = false := by simp; omega
  have k7 : (kind == 7) = false := by simp; omega
  have k8 : (kind == 8) = false := by simp; omega
  have k9 : (kind == 9) = false := by simp; omega
  generalize decide (s0 = 0 ∧ s1 = 0 ∧ s2 = 0 ∧ s3 = 0) = b at hE
  rcases Nat.lt_or_ge 0 text.size with h0 | h0
  · have ⟨e1, e2⟩ := bytes_ne text h0
    cases b
    all_goals
      go_enter Tryd.func76, Tryd.ntmps76
      go_wp2_with fail
      all_goals (go_ret; exact ⟨ret_bool HF.out.symm, by first | exact bx2 w _ _ | exact bx1 w _⟩)
  · have ⟨e1, e2, e3⟩ := bytes_none text (by omega)
    clear e3
    cases b
    all_goals
      go_enter Tryd.func76, Tryd.ntmps76
      go_wp2_with fail
      all_goals (go_ret; exact ⟨ret_bool HF.out.symm, by first | exact bx2 w _ _ | exact bx1 w _⟩)
theorem rfits_any (n : Nd) (K : Value) (k : Int) (w : World) (hk : 0 ≤ n.kind ∧ n.kind ≤ 255) (hts : n.text.size ≤ 281474976710656) :
    Calls Tryd.prog 76 #[ndV n K, .int .i64 k] w fun e w' => e = .returned (.bool (fitN n k)) ∧ Below w.heap.size w w' := by
  have h : n.kind = 0 ∨ n.kind = 1 ∨ n.kind = 2 ∨ n.kind = 3 ∨ n.kind = 4 ∨ n.kind = 5 ∨ n.kind = 6 ∨ n.kind = 7 ∨ n.kind = 8 ∨ n.kind = 9 ∨ 10 ≤ n.kind := by omega
  rcases h with h | h | h | h | h | h | h | h | h | h | h
  · exact rfits0 n K k w h hts
  · exact rfits1 n K k w h hts
  · exact rfits2 n K k w h hts
  · exact rfits3 n K k w h hts
  · exact rfits4 n K k w h hts
  · exact rfits5 n K k w h hts
  · exact rfits6 n K k w h hts
  · exact rfits7 n K k w h hts
  · exact rfits8 n K k w h hts
  · exact rfits9 n K k w h hts
  · exact rfits_other n K k w h hk.2
end Go.Proofs.YtbfjanfhgpgmdaaDoor
