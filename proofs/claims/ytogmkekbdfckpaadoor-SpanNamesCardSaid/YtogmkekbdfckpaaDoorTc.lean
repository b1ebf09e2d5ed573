/- The contract of span.lines, and of the iterator that it hands back. -/
import Derived.RangeFuncBox
import Derived.RangeFuncLeaves
import Derived.RangeFuncFrom
import Derived.RangeFuncBound
import Derived.RangeFuncCalls
import Derived.Shelf.Abstract
import Derived.Shelf.RegionOpen
import Derived.OwnWalkIn
import Derived.TacticsInMore
import Derived.LoopNIn
import Derived.LoopIn
import Derived.RangeFuncWrites
import Derived.Test.YtogmkekbdfckpaaDoorTb
namespace Go.Proofs.YtogmkekbdfckpaaDoor
open Go.RowKit Go.Shelf
set_option linter.unusedSimpArgs false
set_option linter.unusedVariables false

attribute [local go_sem] Oper.semAt_some

/-- A line, and whether it is ended. -/
abbrev Line := { x : ByteArray × Bool // x.1.size ≤ 281474976710656 }
def lineOf (x : Line) : List UInt8 × Bool := (x.1.1.data.toList, x.1.2)

set_option maxHeartbeats 1000000 in
theorem lines_in (F : Fence) (n : Nat) (hf : F.fn 45) (hro : F.round = none) (s : ByteArray) (w : World) :
    CallsIn F n Tryd.prog 45 #[.string s] w fun e w' => e = .returned (.func (.func 56) #[] #[.pointer (some ⟨w.heap.size, 0, none⟩)]) ∧ w' = w.alloc (.cells #[.string s] 9) := by
  refine callsIn_of_wp Tryd.func45 rfl hf ?_ hro
  simp only [Tryd.ntmps45, List.size_toArray, List.length_cons, List.length_nil, Nat.reduceAdd, Nat.reduceSub, Array.replicate_succ, Array.replicate_zero, List.push_toArray, List.append_toArray, List.nil_append, List.cons_append]
  gi_wp2
  go_ret
  exact ⟨rfl, rfl⟩

theorem cut1_behind (c : UInt8) (l : List UInt8) (h : l ≠ []) : (cut1 c l).2.1.length < l.length := by
  rcases cut1_index c l with ⟨_, e⟩ | ⟨k, _, hk, e⟩ <;> rw [e]
  · have := List.length_pos_iff.2 h; simpa using this
  · simp; omega
/-- What was told is a beginning. -/
def Told (s : List UInt8) (xs : List Line) (rest : List UInt8) : Prop := seqL s = xs.map lineOf ++ seqL rest

/-- The one thing that the iterator asks of a round. -/
def SizeK (A B : World) : Prop := A.heap.size ≤ B.heap.size

set_option maxRecDepth 100000 in
set_option maxHeartbeats 1000000 in
theorem lines1_in (n : Nat) (hn : 1 ≤ n) (l Bn : Nat) (s : ByteArray) (hs : s.size ≤ 281474976710656) (J Jx : List Line → World → Prop)
    (hJ : ∀ pre W W', J pre W → Below W.heap.size W W' → J pre W')
    (hY : ∀ pre (x : Line) W, J pre W → pre.length < 9223372036854775807 → YieldAt Fence.wide (n - 1) Tryd.prog l #[.string x.1.1, .bool x.1.2] W fun e W' =>
      (e = .returned (.bool true) ∧ J (pre ++ [x]) W' ∧ SizeK W W') ∨ (e = .returned (.bool false) ∧ Jx (pre ++ [x]) W'))
    (W : World) (hc : W.cell? ⟨Bn, 0, none⟩ = some (.string s)) (h0 : J [] W) :
    CallsIn Fence.wide n Tryd.prog 56 #[.func (.yield l) #[] #[], .pointer (some ⟨Bn, 0, none⟩)] W fun e W' => (∃ v, e = .returned v) ∧
      ((∃ xs, Told s.data.toList xs [] ∧ J xs W') ∨ (∃ pre, (∃ rest, Told s.data.toList pre rest) ∧ Jx pre W')) := by
  refine callsIn_of_wp Tryd.func56 rfl trivial ?_ rfl
  simp only [Tryd.ntmps56, List.size_toArray, List.length_cons, List.length_nil, Nat.reduceAdd, Nat.reduceSub, Array.replicate_succ, Array.replicate_zero, List.push_toArray, List.append_toArray, List.nil_append, List.cons_append]
  have hfn : ∀ k, Fence.wide.fn k := fun _ => trivial
  gi_wp2
  gi_loopw [3, 4, 5, 6] (fun p _ _ _ wr => ∃ (pre : List Line) (t : ByteArray), p = .string t ∧ pre.length + t.size ≤ s.size ∧ Hid (Told s.data.toList pre t.data.toList) ∧ J pre wr)
    (fun p _ _ _ _ => match p with | .string t => t.size | _ => 0)
  case atStart => exact ⟨[], s, rfl, by simp, Lib.hid (by simp [Told]), h0⟩
  case round =>
    obtain ⟨pre, t, rfl, hts, HT, hj⟩ := hrel
    by_cases h0 : 0 < t.size
    · have ⟨e1, e2⟩ := bytes_ne t h0
      have hne : t.data.toList ≠ [] := by rw [bytes_pos t h0]; simp
      have HCL := Lib.hid (cut1_behind 10 t.data.toList hne)
      have HSC := Lib.hid (seqL_cut hne)
      have HAL := Lib.hid (cut1_len 10 t.data.toList)
      have hcut := fun w => cut_any t 10 w (by omega)
      unfold CutPost at hcut
      generalize hf : (cut1 10 t.data.toList) = C at *
      obtain ⟨a0, b0, f⟩ := C
      simp only at hcut HCL HSC HAL
      have HCUT := Lib.hid hcut; clear hcut hf hne
      gi_wp2_with (first | (gi_at_call 57; refine (callsIn_wide.2 (HCUT.out _)).mono ?_; rintro e w' ⟨a, b, rfl, ha, hbb, hb1⟩; have HA := Lib.hid ha; have HBB := Lib.hid hbb; clear ha hbb; have has : a.size ≤ 281474976710656 := (by rw [← sz_data, HA.out]; have := HAL.out.1; rw [sz_data] at this; omega); obtain ⟨fn, tmps, assign, body, hy, hR⟩ := hY pre ⟨(a, f), has⟩ w' (hJ _ _ _ hj hb1) (by omega)))
      refine hR.mono ?_
      rintro e W3 (⟨rfl, hJ3, hk3⟩ | ⟨rfl, hJx3⟩)
      · have hlt : b.size < t.size := by rw [← sz_data b, HBB.out, ← sz_data t]; exact HCL.out
        gi_wp2
        exact ⟨⟨pre ++ [⟨(a, f), has⟩], b, rfl, by simp; omega, Lib.hid (by
          have h1 := HT.out
          unfold Told at h1 ⊢
          rw [h1, HSC.out, HBB.out]
          simp [lineOf, HA.out]), hJ3⟩, hlt⟩
      · gi_wp2
        refine bodyPost_ret (results_none rfl _ _ _) rfl ?_
        exact ⟨⟨_, rfl⟩, .inr ⟨pre ++ [⟨(a, f), has⟩], ⟨b.data.toList, by
          have h1 := HT.out
          unfold Told at h1 ⊢
          rw [h1, HSC.out, HBB.out]
          simp [lineOf, HA.out]⟩, hJx3⟩⟩
    · have ⟨e1, e2, e3⟩ := bytes_none t h0
      have HE := Lib.hid e3; clear e3
      gi_wp2
      go_end0
      exact ⟨⟨_, rfl⟩, .inl ⟨pre, by have := HT.out; rwa [HE.out] at this, hj⟩⟩

theorem grown_below {w w' : World} (h : Below w.heap.size w w') (row : Option Nat) : w.grownBy w' row := ⟨h.os, h.tape, h.output, h.size, fun k hk _ => h.block k hk⟩
theorem keepsOthers_below {w w' : World} (h : Below w.heap.size w w') : KeepsOthers w w' :=
  ⟨h.size, fun k _ hk _ => (h.block k (Array.getElem?_eq_some_iff.1 hk).1).trans hk⟩
theorem lines_stops (n : Nat) (hn : 1 ≤ n) (Bn : Nat) (s : ByteArray) (hs : s.size ≤ 281474976710656) (w : World) (hBn : Bn < w.heap.size) (hc : w.cell? ⟨Bn, 0, none⟩ = some (.string s)) :
    SeqStopsK Fence.wide n Tryd.prog 56 #[.pointer (some ⟨Bn, 0, none⟩)] (fun x : Line => #[Value.string x.1.1, Value.bool x.1.2]) SizeK
      (fun xs => Told s.data.toList xs []) (fun pre => ∃ rest, Told s.data.toList pre rest) 9223372036854775807 w := fun l J Jx W hW hJ _ hY h0 =>
  lines1_in n hn l Bn s hs J Jx (fun pre _ _ h hb => hJ pre _ _ none h (grown_below hb none) (fun r e => by cases e)) hY W ((hW.cell (p := ⟨Bn, 0, none⟩) hBn).trans hc) h0
end Go.Proofs.YtogmkekbdfckpaaDoor
