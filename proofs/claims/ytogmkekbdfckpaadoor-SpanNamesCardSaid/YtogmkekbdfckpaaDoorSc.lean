/- The contracts of package span: Fail, At, Same, together, Copy, Join, Cap. -/
import Derived.Test.YtogmkekbdfckpaaDoorSb
namespace Go.Proofs.YtogmkekbdfckpaaDoor
open Go.RowKit

theorem box1 (w : World) (o : Obj) : Below w.heap.size w (w.alloc o) := (Below.refl _ _).alloc (Nat.le_refl _) _
theorem box2 (w : World) (o p : Obj) : Below w.heap.size w ((w.alloc o).alloc p) := (box1 w o).alloc (by simp) _
theorem box3 (w : World) (o p q : Obj) : Below w.heap.size w (((w.alloc o).alloc p).alloc q) := (box2 w o p).alloc (by simp; omega) _
theorem Below.drewN' {B : Nat} {a w : World} (h : Below B a w) (n : Nat) : Below B a (w.drewN n) := by
  induction n generalizing w with
  | zero => exact h
  | succ n ih => exact (ih h).drew

/-- What a call leaves behind of an outcome that it hands back. -/
def OutAt (w : World) (v : Value) (o : Outc) : Prop := ∃ A c, v = outV A c o ∧ RowAt w A (cellsOf o.caps) ∧ o.caps.length ≤ c ∧ c ≤ maxLen

set_option maxHeartbeats 400000 in
theorem same_any (a b : Outc) (A B : Option Addr) (c d : Nat) (w : World) (hA : RowAt w A (cellsOf a.caps)) (hB : RowAt w B (cellsOf b.caps)) (hl : a.caps.length ≤ 281474976710656) (hm : b.caps.length ≤ 281474976710656) :
    Calls Tryd.prog 12 #[outV A c a, outV B d b] w fun e w' => e = .returned (.bool (decide (a = b))) ∧ Below w.heap.size w w' := by
  obtain ⟨ak, at', al⟩ := a
  obtain ⟨bk, bt, bl⟩ := b
  simp only at hA hB hl hm
  go_enter Tryd.func12, Tryd.ntmps12
  by_cases h1 : ak = bk
  · have e1 : (ak == bk) = true := by simp [h1]
    by_cases h2 : at' = bt
    · have e2 : (at' == bt) = true := by simp [h2]
      have H := Lib.hid (And.intro h1 h2); clear h1 h2
      go_wp2_with (first | (go_at_call 37; refine (equal_any al bl A B c d _ (hA.below (box2 _ _ _)) (hB.below (box2 _ _ _)) hl hm).mono ?_; rintro e w' ⟨rfl, n, rfl⟩))
      go_ret
      exact ⟨ret_bool (by simp [H.out]), Below.drewN' (box2 _ _ _) _⟩
    · have e2 : (at' == bt) = false := by simp [h2]
      have H := Lib.hid (And.intro h1 h2); clear h1 h2
      go_wp2_with fail
      go_ret
      exact ⟨ret_bool (by simp [H.out]), box2 _ _ _⟩
  · have e1 : (ak == bk) = false := by simp [h1]
    have H := Lib.hid h1; clear h1
    go_wp2_with fail
    go_ret
    exact ⟨ret_bool (by simp [H.out]), box2 _ _ _⟩

theorem fail_any (w : World) : Calls Tryd.prog 18 #[] w fun e w' => e = .returned (outV none 0 ⟨false, 0, []⟩) ∧ Below w.heap.size w w' := by
  go_enter Tryd.func18, Tryd.ntmps18
  go_wp2_with fail
  exact bodyPost_ret (v := outV none 0 ⟨false, 0, []⟩) (by simp [results, Tryd.results18, go_sem]) rfl ⟨rfl, box1 _ _⟩

theorem at_any (n : Int) (w : World) : Calls Tryd.prog 25 #[.int .i64 n] w fun e w' => e = .returned (outV none 0 ⟨true, n, []⟩) ∧ Below w.heap.size w w' := by
  go_enter Tryd.func25, Tryd.ntmps25
  go_wp2_with fail
  exact bodyPost_ret (v := outV none 0 ⟨true, n, []⟩) (by simp [results, Tryd.results25, go_sem]) rfl ⟨rfl, box1 _ _⟩
end Go.Proofs.YtogmkekbdfckpaaDoor
