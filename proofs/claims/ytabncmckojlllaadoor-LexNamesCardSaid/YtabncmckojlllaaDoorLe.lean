/- The contract of quote.escapes. -/
import Derived.Test.YtabncmckojlllaaDoorLd
import Derived.StillTailTactics
import Derived.Deep.DeepCutAuto
import Derived.Deep.Cut
import Derived.Deep.CutRange
namespace Go.Proofs.YtabncmckojlllaaDoor
open Go.RowKit
set_option linter.unusedSimpArgs false
set_option linter.unusedVariables false

/-- What is held at a byte. -/
def escF (left : List UInt8) : UInt8 → Option Value := fun c => (meantB left c).map u8V
theorem escF_step (l : List UInt8) (x c : UInt8) : escF (l ++ [x]) c = if c = x then some (u8V x) else escF l c := by
  unfold escF meantB
  by_cases h : c = x
  · subst h; simp
  · by_cases h2 : c ∈ l <;> simp [h, h2]
theorem escF_nil (c : UInt8) : (if c = 92 then some (.int .u8 92) else if c = 116 then some (.int .u8 9) else if c = 114 then some (.int .u8 13) else if c = 110 then some (.int .u8 10) else none : Option Value) = escF [] c := by
  unfold escF meantB
  by_cases h1 : c = 92
  · subst h1; rfl
  by_cases h2 : c = 116
  · subst h2; rfl
  by_cases h3 : c = 114
  · subst h3; rfl
  by_cases h4 : c = 110
  · subst h4; rfl
  simp [h1, h2, h3, h4]
def MapPost (n : Nat) (f : UInt8 → Option Value) (w : World) (e : Ending) (w' : World) : Prop := ∃ b, e = .returned (.map (some b)) ∧ BMap w' b n f ∧ Below w.heap.size w w' ∧ w.heap.size ≤ b
theorem below_turned {w w' : World} {o : Obj} (h : (w.alloc o).grownBy w' (some w.heap.size)) : Below w.heap.size w w' := ((Below.refl _ w).alloc (Nat.le_refl _) o).grown h (by simp) (fun k hk => by cases hk; exact Nat.le_refl _)
set_option maxRecDepth 100000 in
set_option maxHeartbeats 1000000 in
theorem escapes_any (left : ByteArray) (w : World) (hs : left.size ≤ 1000) :
    Calls Tryd.prog 141 #[.string left] w (MapPost 1004 (escF left.data.toList) w) := by
  have hmm := @run_makeMap Tryd.prog
  unfold MapPost
  have HM0 := Lib.hid (BMap.made w)
  go_enter Tryd.func141, Tryd.ntmps141
  go_wp2_with (first
    | (refine wpList_insert_bmap rfl _ _ _ _ rfl 5 Tryd.underlying178 _ _ _ rfl HM0.out (by decide) 110 _ rfl rfl (.int .u8 10) rfl ?_; intro w1 HM1 HG1)
    | (refine wpList_insert_bmap rfl _ _ _ _ rfl 5 Tryd.underlying178 _ _ _ rfl HM1.out (by decide) 114 _ rfl rfl (.int .u8 13) rfl ?_; intro w2 HM2 HG2)
    | (refine wpList_insert_bmap rfl _ _ _ _ rfl 5 Tryd.underlying178 _ _ _ rfl HM2.out (by decide) 116 _ rfl rfl (.int .u8 9) rfl ?_; intro w3 HM3 HG3)
    | (refine wpList_insert_bmap rfl _ _ _ _ rfl 5 Tryd.underlying178 _ _ _ rfl HM3.out (by decide) 92 _ rfl rfl (.int .u8 92) rfl ?_; intro w4 HM4 HG4)
    | fail)
  have HB := Lib.hid ((HM4.out.ext escF_nil).mono (show 0 + 1 + 1 + 1 + 1 ≤ 4 + 0 by decide))
  have HG := Lib.hid (((HG1.out.trans HG2.out).trans HG3.out).trans HG4.out)
  clear HM0 HM1 HM2 HM3 HM4 HG1 HG2 HG3 HG4
  go_loopw [4] (fun i wr => ∃ k : Nat, k ≤ left.size ∧ i = .int .i64 k ∧ Hid (BMap wr w.heap.size (4 + k) (escF (left.data.toList.take k))) ∧ Hid ((w.alloc (.map #[] 0)).grownBy wr (some w.heap.size))) (fun i _ => left.size - (intOf i).toNat)
  case atStart => exact ⟨0, Nat.zero_le _, rfl, by simpa using HB, HG⟩
  case round =>
    clear HB HG
    obtain ⟨k, hk, rfl, HB, HG⟩ := hrel
    by_cases hlt : k < left.size
    · have i1 : (k : Int) < (left.size : Int) := by omega
      have i2 : (0 : Int) ≤ (k : Int) := by omega
      go_upto_region 5 with (fail)
      go_still_tail 7, (by kernel_rfl)
      change wpList _ _ _ _ _ wr.drew
      have HBD := Lib.hid (HB.out.kept (grewD wr none) (by simp))
      have HTK := Lib.hid (take_at left k hlt)
      refine wpList_store_bmap rfl _ _ _ _ rfl 5 Tryd.underlying178 _ _ _ rfl HBD.out (by unfold maxLen; omega) left[k] _ rfl rfl (u8V left[k]) rfl ?_
      intro w5 HB5 HG5
      have HB6 := Lib.hid ((HB5.out.ext (fun c => (escF_step _ _ _).symm)))
      have HG6 := Lib.hid ((HG.out.trans (grewD wr _)).trans HG5.out)
      clear HB HG HBD HB5 HG5
      go_wp2_with fail
      exact ⟨⟨k + 1, by omega, by go_num, by rw [HTK.out]; exact HB6, HG6⟩, by simp only [intOf]; omega⟩
    · obtain rfl : k = left.size := by omega
      go_wp2_with fail
      go_ret
      exact ⟨_, rfl, (by
        have h := HB.out
        rw [take_all _ _ (Nat.le_refl _)] at h
        exact h.mono (by omega)), below_turned HG.out, Nat.le_refl _⟩
end Go.Proofs.YtabncmckojlllaaDoor
