/- Plain: a node's text is made of its kids' texts; what stands at a node, clean, is right, and has the node's text. No program in sight. -/
import Derived.Test.YtmjkgnknfgoadaaGreatDoorHg
namespace Go.Proofs.YtmjkgnknfgoadaaGreatDoor
set_option linter.unusedSimpArgs false
set_option linter.unusedVariables false
def kidTexts (l : List Nd) (i : Nat) : List (List UInt8) := (kidsAt l i).map fun k => wrapB (wrapsK (ndAt l i).kind (ndAt l k).kind) (textN l k)
theorem joinB_append (sep : List UInt8) : ∀ (a b : List (List UInt8)), a ≠ [] → joinB sep (a ++ b) = joinB sep a ++ b.flatMap (sep ++ ·)
  | [], _, h => absurd rfl h
  | x :: a, b, _ => by simp [joinB]
theorem joinB_next (sep : List UInt8) (L : List (List UInt8)) (j : Nat) (h : j < L.length) : joinB sep (L.take (j + 1)) = joinB sep (L.take j) ++ (if 0 < j then sep else []) ++ L[j] := by
  rw [List.take_succ_eq_append_getElem h]
  by_cases hj : 0 < j
  · rw [joinB_append sep _ _ (by intro e; have := congrArg List.length e; simp at this; rcases this with rfl | rfl; omega; simp at h), if_pos hj]
    simp
  · obtain rfl : j = 0 := by omega
    simp [joinB]
theorem joinB_rest (sep : List UInt8) (L : List (List UInt8)) (j : Nat) (h : j < L.length) : ∃ r, joinB sep L = joinB sep (L.take j) ++ (if 0 < j then sep else []) ++ L[j] ++ r := by
  refine ⟨(L.drop (j + 1)).flatMap (sep ++ ·), ?_⟩
  rw [← joinB_next sep L j h, ← joinB_append sep _ _ (by intro e; have := congrArg List.length e; simp at this; rw [this] at h; simp at h), List.take_append_drop]
end Go.Proofs.YtmjkgnknfgoadaaGreatDoor
