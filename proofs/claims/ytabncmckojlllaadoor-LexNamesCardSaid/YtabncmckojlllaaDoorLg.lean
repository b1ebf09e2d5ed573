/- The contracts of quote.begin, of a reader's signs, and of the iterator that it hands back. -/
import Derived.Test.YtabncmckojlllaaDoorLf
import Derived.Test.YtabncmckojlllaaDoorLc
import Derived.Shelf.Abstract
import Derived.Shelf.RegionOpen
import Derived.OwnWalkIn
import Derived.TacticsInMore
import Derived.LoopNIn
import Derived.LoopIn
namespace Go.Proofs.YtabncmckojlllaaDoor
open Go.RowKit Go.Shelf
set_option linter.unusedSimpArgs false
set_option linter.unusedVariables false

/-- Where a reader stands behind the first byte, and with which error. -/
def beginR (first : UInt8) (t : List UInt8) : Nat × Nat := match t[0]? with | none => (0, 8) | some c => if c = first then (1, 0) else (0, 4)
theorem begin_none {first : UInt8} {t : List UInt8} (h : t[0]? = none) : beginR first t = (0, 8) := by unfold beginR; rw [h]
theorem begin_yes {first : UInt8} {t : List UInt8} (h : t[0]? = some first) : beginR first t = (1, 0) := by unfold beginR; rw [h]; simp
theorem begin_no {first c : UInt8} {t : List UInt8} (h : t[0]? = some c) (hc : c ≠ first) : beginR first t = (0, 4) := by unfold beginR; rw [h]; simp [hc]
/-- A reader of the call's own. -/
def BeginPost (t left : ByteArray) (en : UInt8) (p : Nat × Nat) (w : World) (e : Ending) (w' : World) : Prop :=
  ∃ r m, e = .returned (.pointer (some ⟨r, 0, none⟩)) ∧ RD w' r t left en m (p.1 : Int) (p.2 : Int) ∧ BMap w' m 1004 (escF left.data.toList) ∧ m ≠ r ∧ w.heap.size ≤ r ∧ w.heap.size ≤ m ∧ Below w.heap.size w w'
set_option maxRecDepth 100000 in
set_option maxHeartbeats 2000000 in
theorem begin_any (t left : ByteArray) (first en : UInt8) (w : World) (hs : t.size ≤ 1000000) (hl : left.size ≤ 1000) :
    Calls Tryd.prog 125 #[.string t, .string left, u8V first, u8V en] w (BeginPost t left en (beginR first t.data.toList) w) := by
  have hsz := sz_data t
  go_enter Tryd.func125, Tryd.ntmps125
  by_cases ha : 0 < t.size
  · have hA : t.data.toList[0]? = some t[0] := Lib.data_getElem? t 0 ha
    obtain ⟨b, hb⟩ : ∃ b, t[0] = b := ⟨_, rfl⟩
    rw [hb] at hA
    have HC := Lib.hid hb; clear hb
    by_cases hf : b = first
    · have HB := Lib.hid (begin_yes (hf ▸ hA))
      have HF := Lib.hid hf
      clear hf hA
      have e1 : ((b.toNat : Int) == (first.toNat : Int)) = true := by rw [HF.out]; simp
      have e2 : (b.toNat : Int) = (first.toNat : Int) := by rw [HF.out]
      go_wp2_with (first
        | (go_at_call 141; refine (escapes_any left _ hl).mono ?_; rintro e w1 ⟨m, rfl, h1, h2, h3⟩; have HR1 := Lib.hid (show RD (w1.alloc (.cells (rdCells t left en m 0 0) 180)) w1.heap.size t left en m ((0 : Nat) : Int) 0 from bx_new _ _); have HM1 := Lib.hid (h1.below (bx1 w1 (.cells (rdCells t left en m 0 0) 180))); have HB1 := Lib.hid (h2.alloc h2.size (.cells (rdCells t left en m 0 0) 180)); have HL1 := Lib.hid (show w.heap.size ≤ m ∧ m ≠ w1.heap.size ∧ w.heap.size ≤ w1.heap.size from ⟨h3, Nat.ne_of_lt h1.lt, h2.size⟩); clear h1 h2 h3)
        | (go_at_call 142; refine (next_some _ t left en _ 0 0 _ HR1.out ha hs).mono ?_; rw [HC.out]; rintro e w2 ⟨rfl, h1, h2⟩; have HR2 := Lib.hid h1; have HG2 := Lib.hid h2; clear h1 h2)
        | fail)
      go_ret
      rw [HB.out]
      exact ⟨_, _, rfl, HR2.out, HM1.out.kept HG2.out (by simpa using HL1.out.2.1), HL1.out.2.1, HL1.out.2.2, HL1.out.1, HB1.out.grown HG2.out HB1.out.size (fun k hk => by cases hk; exact HL1.out.2.2)⟩
    · have HB := Lib.hid (begin_no hA hf)
      have HF := Lib.hid hf
      have e2 : ¬ (b.toNat : Int) = (first.toNat : Int) := fun e => hf (UInt8.toNat_inj.1 (by omega))
      have e1 : ((b.toNat : Int) != (first.toNat : Int)) = true := by simpa using e2
      clear hf hA
      go_wp2_with (first
        | (go_at_call 141; refine (escapes_any left _ hl).mono ?_; rintro e w1 ⟨m, rfl, h1, h2, h3⟩; have HR1 := Lib.hid (show RD (w1.alloc (.cells (rdCells t left en m 0 0) 180)) w1.heap.size t left en m ((0 : Nat) : Int) 0 from bx_new _ _); have HM1 := Lib.hid (h1.below (bx1 w1 (.cells (rdCells t left en m 0 0) 180))); have HB1 := Lib.hid (h2.alloc h2.size (.cells (rdCells t left en m 0 0) 180)); have HL1 := Lib.hid (show w.heap.size ≤ m ∧ m ≠ w1.heap.size ∧ w.heap.size ≤ w1.heap.size from ⟨h3, Nat.ne_of_lt h1.lt, h2.size⟩); clear h1 h2 h3)
        | (go_at_call 142; refine (next_some _ t left en _ 0 0 _ HR1.out ha hs).mono ?_; rw [HC.out]; rintro e w2 ⟨rfl, h1, h2⟩; have HR2 := Lib.hid h1; have HG2 := Lib.hid h2; clear h1 h2)
        | (go_at_call 129; refine (fail_any _ t left en _ _ _ _ _ HR2.out).mono ?_; rintro e w3 ⟨rfl, h1, h2⟩; have HR3 := Lib.hid h1; have HG3 := Lib.hid (HG2.out.trans h2); clear h1 h2)
        | fail)
      go_ret
      rw [HB.out]
      exact ⟨_, _, rfl, HR3.out, HM1.out.kept HG3.out (by simpa using HL1.out.2.1), HL1.out.2.1, HL1.out.2.2, HL1.out.1, HB1.out.grown HG3.out HB1.out.size (fun k hk => by cases hk; exact HL1.out.2.2)⟩
  · have HB := Lib.hid (begin_none (first := first) (List.getElem?_eq_none (show t.data.toList.length ≤ 0 by omega)))
    have HZ := Lib.hid (show (t.size : Int) = 0 by omega)
    go_wp2_with (first
      | (go_at_call 141; refine (escapes_any left _ hl).mono ?_; rintro e w1 ⟨m, rfl, h1, h2, h3⟩; have HR1 := Lib.hid (show RD (w1.alloc (.cells (rdCells t left en m 0 0) 180)) w1.heap.size t left en m ((0 : Nat) : Int) 0 from bx_new _ _); have HM1 := Lib.hid (h1.below (bx1 w1 (.cells (rdCells t left en m 0 0) 180))); have HB1 := Lib.hid (h2.alloc h2.size (.cells (rdCells t left en m 0 0) 180)); have HL1 := Lib.hid (show w.heap.size ≤ m ∧ m ≠ w1.heap.size ∧ w.heap.size ≤ w1.heap.size from ⟨h3, Nat.ne_of_lt h1.lt, h2.size⟩); clear h1 h2 h3)
      | (go_at_call 142; refine (next_none _ t left en _ 0 0 _ HR1.out ha hs).mono ?_; rintro e w2 ⟨rfl, h1, h2⟩; have HR2 := Lib.hid h1; have HG2 := Lib.hid h2; clear h1 h2)
      | fail)
    go_ret
    rw [HB.out]
    exact ⟨_, _, rfl, by have h := HR2.out; rw [HZ.out] at h; exact h, HM1.out.kept HG2.out (by simpa using HL1.out.2.1), HL1.out.2.1, HL1.out.2.2, HL1.out.1, HB1.out.grown HG2.out HB1.out.size (fun k hk => by cases hk; exact HL1.out.2.2)⟩
end Go.Proofs.YtabncmckojlllaaDoor
