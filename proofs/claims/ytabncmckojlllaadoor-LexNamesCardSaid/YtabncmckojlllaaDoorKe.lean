/- The contracts of the law's own is, works. -/
import Derived.Test.YtabncmckojlllaaDoorKc
namespace Go.Proofs.YtabncmckojlllaaDoor
open Go.RowKit Go.Shelf
set_option linter.unusedSimpArgs false
set_option linter.unusedVariables false

def IsPost (x : Wd) (k a t : Int) (tx : List UInt8) (w : World) (e : Ending) (w' : World) : Prop := e = .returned (.bool (decide ((x.kind : Int) = k ∧ (x.frm : Int) = a ∧ (x.til : Int) = t ∧ x.text = tx))) ∧ Below w.heap.size w w'
set_option maxHeartbeats 1000000 in
theorem is_any (x : Wd) (k a t : Int) (tx : List UInt8) (w : World) : Calls Tryd.prog 29 #[wdV x, .int .u8 k, .int .i64 a, .int .i64 t, .string ⟨tx.toArray⟩] w (IsPost x k a t tx w) := by
  obtain ⟨kind, fr, ti, ty, s0, s1, s2, s3, lo, hi⟩ := x
  go_enter Tryd.func29, Tryd.ntmps29
  by_cases h1 : (kind : Int) = k
  · by_cases h2 : (fr : Int) = a
    · by_cases h3 : (ti : Int) = t
      · by_cases h4 : ty = tx
        · subst h4 h1 h2 h3
          go_wp2_with fail
          all_goals exact bodyPost_ret (v := .bool true) (by simp [results, Tryd.results29, go_sem]) rfl ⟨by rw [decide_eq_true (by simp)], bx1 w _⟩
        · subst h1 h2 h3
          have e4 : (ty.toArray == tx.toArray) = false := by simp [h4]
          go_wp2_with fail
          all_goals exact bodyPost_ret (v := .bool false) (by simp [results, Tryd.results29, go_sem, h4]) rfl ⟨by rw [decide_eq_false (fun h => h4 h.2.2.2)], bx1 w _⟩
      · subst h1 h2
        have e3 : ((ti : Int) == t) = false := by simpa using h3
        go_wp2_with fail
        all_goals exact bodyPost_ret (v := .bool false) (by simp [results, Tryd.results29, go_sem]) rfl ⟨by rw [decide_eq_false (fun h => h3 h.2.2.1)], bx1 w _⟩
    · subst h1
      have e2 : ((fr : Int) == a) = false := by simpa using h2
      go_wp2_with fail
      all_goals exact bodyPost_ret (v := .bool false) (by simp [results, Tryd.results29, go_sem]) rfl ⟨by rw [decide_eq_false (fun h => h2 h.2.1)], bx1 w _⟩
  · have e1 : ((kind : Int) == k) = false := by simpa using h1
    go_wp2_with fail
    all_goals exact bodyPost_ret (v := .bool false) (by simp [results, Tryd.results29, go_sem]) rfl ⟨by rw [decide_eq_false (fun h => h1 h.1)], bx1 w _⟩
/-- The examples. -/
def exA : List UInt8 := [97, 60, 45, 98, 35, 99, 10, 47, 123, 50, 44, 125]
theorem exA_words : wordsL exA = ([⟨1, 0, 1, [97], 0, 0, 0, 0, 0, 0⟩, ⟨2, 1, 3, [], 0, 0, 0, 0, 0, 0⟩, ⟨1, 3, 4, [98], 0, 0, 0, 0, 0, 0⟩, ⟨3, 7, 8, [], 0, 0, 0, 0, 0, 0⟩, ⟨14, 8, 12, [], 0, 0, 0, 0, 2, -1⟩], 0, 0) := by kernel_rfl
theorem exB_wrong : wrongL [60, 32, 45] = 2 := by kernel_rfl
theorem exC_wrong : wrongL [123, 50, 44, 49, 125] = 0 := by kernel_rfl
theorem exD_wrong : wrongL [120, 32, 34, 97, 98] = 2 := by kernel_rfl
theorem exE_wrong : wrongL [] = -1 := by kernel_rfl
end Go.Proofs.YtabncmckojlllaaDoor
