/- The contract of name.tries, and of the iterator that it hands back. -/
import Derived.RangeFuncBox
import Derived.RangeFuncLeaves
import Derived.RangeFuncFrom
import Derived.RangeFuncBound
import Derived.RangeFuncCalls
import Derived.Shelf.Abstract
import Derived.Shelf.RegionOpen
import Derived.OwnWalkIn
import Derived.TacticsInMore
import Derived.LoopNIn
import Derived.LoopIn
import Derived.Maps.OwnIn
import Derived.Test.YtjbeblbiajegmaaDoorName4
import Derived.Test.YtjbeblbiajegmaaDoorPf
namespace Go.Proofs.YtjbeblbiajegmaaDoor
open Go.RowKit Go.Shelf

attribute [local go_sem] Oper.semAt_some

/-- A text of at most 32 bytes. -/
abbrev Short := { s : ByteArray // s.size ≤ 32 }

theorem tab_below {w w' : World} {n₀ : Nat} (h : Below n₀ w w') (hg : 1 < n₀) (ht : Tab w) : Tab w' := by
  unfold Tab Lib.TabIs at *
  exact var?_below h (by kernel_rfl) hg ht

set_option maxHeartbeats 1000000 in
theorem tries_in (F : Fence) (n : Nat) (hf : F.fn 26) (hro : F.round = none) (s : ByteArray) (w : World) :
    CallsIn F n Tryd.prog 26 #[.string s] w fun e w' => e = .returned (.func (.func 32) #[] #[.pointer (some ⟨w.heap.size, 0, none⟩)]) ∧ w' = w.alloc (.cells #[.string s] 9) := by
  refine callsIn_of_wp Tryd.func26 rfl hf ?_ hro
  simp only [Tryd.ntmps26, List.size_toArray, List.length_cons, List.length_nil, Nat.reduceAdd, Nat.reduceSub, Array.replicate_succ, Array.replicate_zero, List.push_toArray, List.append_toArray, List.nil_append, List.cons_append]
  gi_wp2
  go_ret
  exact ⟨rfl, rfl⟩

theorem itoa_any (n : Int) (w : World) (h0 : -9223372036854775808 ≤ n) (h1 : n ≤ 9223372036854775807) (ht : Tab w) :
    Calls Tryd.prog 29 #[.int .i64 n] w fun e w' => e = .returned (.string ⟨(Lib.itoa n).toArray⟩) ∧ Below w.heap.size w w' :=
  (Tryd.strconv_Itoa n h0 h1 w ht).mono fun e w' ⟨he, k, os, hw⟩ => ⟨he, by rw [hw]; exact below_grow _ _ _⟩

theorem cell_new_l (W : World) (v : Value) (t : TypeId) : (W.alloc (.cells #[v] t)).cell? ⟨W.heap.size, 0, none⟩ = some v ∧ (W.alloc (.cells #[v] t)).frozen? ⟨W.heap.size, 0, none⟩ = false := by simp
theorem cell_alloc_l {W : World} {a : Addr} {v : Value} (o : Obj) (h : W.cell? a = some v) : (W.alloc o).cell? a = some v := cell_kept h (World.grownBy_alloc W o none) (fun r e => by cases e)
theorem frozen_alloc_l {W : World} {a : Addr} {v : Value} (o : Obj) (h : W.cell? a = some v) (hf : W.frozen? a = false) : (W.alloc o).frozen? a = false := (frozen_kept h (World.grownBy_alloc W o none) (fun r e => by cases e)).trans hf

/-- What has been tried. -/
def Tried (stem : List UInt8) (xs : List Short) : Prop := ∀ i (h : i < xs.length), xs[i].1.data.toList = cand stem i ∧ mayL (cand stem i) = true

theorem Tried.snoc {stem : List UInt8} {xs : List Short} (h : Tried stem xs) (x : Short) (hx : x.1.data.toList = cand stem xs.length) (hm : mayL (cand stem xs.length) = true) : Tried stem (xs ++ [x]) := by
  intro i hi
  by_cases hl : i < xs.length
  · rw [List.getElem_append_left hl]; exact h i hl
  · have : i = xs.length := by simp at hi; omega
    subst this; simp; exact ⟨hx, hm⟩

/-- More rounds there are not. -/
def N63 : Nat := 9223372036854775807

/-- How many numbers are left, before they are used up. -/
def left63 (z : Int) : Nat := if 0 < z then (9223372036854775808 - z).toNat else 0
theorem left63_step (z : Int) (h : 0 < z) (h2 : z ≤ 9223372036854775807) : left63 (wrap64 (z + 1)) < left63 z := by
  unfold left63; rw [if_pos h]
  by_cases he : z = 9223372036854775807
  · subst he; rw [if_neg (by unfold wrap64; omega)]; omega
  · have : wrap64 (z + 1) = z + 1 := IntWalk.wrap64_in _ (by omega)
    rw [this, if_pos (by omega)]; omega

set_option maxRecDepth 100000 in
set_option maxHeartbeats 1000000 in
theorem tries1_in (n : Nat) (hn : 1 ≤ n) (l Bn n₀ : Nat) (stem : ByteArray) (hs : stem.size ≤ 140737488355328) (hg : 1 < n₀) (hBn : Bn < n₀) (J Jx : List Short → World → Prop)
    (hJ : ∀ pre W W', J pre W → Below W.heap.size W W' → J pre W')
    (hY : ∀ pre (x : Short) W, J pre W → pre.length < N63 → YieldAt Fence.wide (n - 1) Tryd.prog l #[.string x.1] W fun e W' =>
      (e = .returned (.bool true) ∧ J (pre ++ [x]) W' ∧ Below n₀ W W') ∨ (e = .returned (.bool false) ∧ Jx (pre ++ [x]) W'))
    (W : World) (hn₀ : n₀ ≤ W.heap.size) (ht : Tab W) (hc : W.cell? ⟨Bn, 0, none⟩ = some (.string stem)) (h0 : J [] W) :
    CallsIn Fence.wide n Tryd.prog 32 #[.func (.yield l) #[] #[], .pointer (some ⟨Bn, 0, none⟩)] W fun e W' => (∃ v, e = .returned v) ∧
      ((∃ xs, (Tried stem.data.toList xs ∧ (mayL (cand stem.data.toList xs.length) = false ∨ 9223372036854775806 ≤ xs.length)) ∧ J xs W') ∨ (∃ pre, Tried stem.data.toList pre ∧ Jx pre W')) := by
  refine callsIn_of_wp Tryd.func32 rfl trivial ?_ rfl
  simp only [Tryd.ntmps32, List.size_toArray, List.length_cons, List.length_nil, Nat.reduceAdd, Nat.reduceSub, Array.replicate_succ, Array.replicate_zero, List.push_toArray, List.append_toArray, List.nil_append, List.cons_append]
  have hfn : ∀ k, Fence.wide.fn k := fun _ => trivial
  gi_wp2
  gi_loopw [3, 4] (fun p c wr => ∃ (pre : List Short) (t : ByteArray) (z : Int), p = .string t ∧ c = .int .i64 z ∧ t.size ≤ 281474976710656 ∧ Hid (t.data.toList = cand stem.data.toList pre.length) ∧ Hid ((0 < z → z = pre.length + 2 ∧ z ≤ 9223372036854775807) ∧ (z ≤ 0 → 9223372036854775806 ≤ pre.length)) ∧ Tried stem.data.toList pre ∧ J pre wr ∧ Below n₀ W wr)
    (fun _ c _ => left63 (intOf c))
  case atStart => exact ⟨[], stem, 2, rfl, rfl, by omega, Lib.hid rfl, Lib.hid ⟨by simp, by simp⟩, fun i hi => by simp at hi, h0, Below.refl _ _⟩
  case round =>
    obtain ⟨pre, t, z, rfl, rfl, hts, HT, HZ, hT, hj, hb⟩ := hrel
    by_cases hz : 0 < z
    · have HZ1 := Lib.hid (HZ.out.1 hz)
      cases hm : mayL t.data.toList
      · gi_wp2_with (first | (gi_at_call 16; refine (callsIn_wide.2 (may_any _ _ hts)).mono ?_; rintro e w' ⟨rfl, hb1⟩))
        go_end0
        exact ⟨⟨_, rfl⟩, .inl ⟨pre, ⟨hT, .inl (by rw [← HT.out]; exact hm)⟩, hJ _ _ _ hj hb1⟩⟩
      · have hts2 : t.size ≤ 32 := by
          have := (of_decide_eq_true (show decide _ = true from hm)).2.1; rw [sz_data] at this; exact this
        gi_wp2_with (first | (gi_at_call 16; refine (callsIn_wide.2 (may_any _ _ hts)).mono ?_; rintro e w' ⟨rfl, hb1⟩; obtain ⟨fn, tmps, assign, body, hy, hR⟩ := hY pre ⟨t, hts2⟩ w' (hJ _ _ _ hj hb1) (by have := HZ1.out; unfold N63; omega)))
        refine hR.mono ?_
        rintro e W3 (⟨rfl, hJ3, hk3⟩ | ⟨rfl, hJx3⟩)
        · have hb3 : Below n₀ W W3 := (hb.trans (hb1.mono (Nat.le_trans hn₀ hb.size))).trans hk3
          have hq3 : W3.cell? ⟨Bn, 0, none⟩ = some (.string stem) := (hb3.cell (p := ⟨Bn, 0, none⟩) hBn).trans hc
          have ht2 : Tab W3 := tab_below hb3 hg ht
          have ht3 : Tab W3.drew := ht2
          have hlen : (Lib.itoa z).length ≤ 21 := Lib.itoa_length_le z (by omega) (by have := HZ1.out.2; omega)
          have hz2 : z ≤ 9223372036854775807 := HZ1.out.2
          have HN := Lib.hid (show (stem ++ (⟨(Lib.itoa z).toArray⟩ : ByteArray)).data.toList = cand stem.data.toList (pre.length + 1) by
            have e := HZ1.out.1; rw [e, show ((pre.length : Int) + 2) = (pre.length : Int) + 1 + 1 by omega]; simp [cand])
          have hW3 : n₀ ≤ W3.heap.size := Nat.le_trans hn₀ hb3.size
          gi_wp2
          gi_region_with (first | (gi_at_call 29; refine (callsIn_wide.2 (itoa_any z _ (by omega) hz2 ht3)).mono ?_; rintro e w4 ⟨rfl, hb4⟩; have hq4 : w4.cell? ⟨Bn, 0, none⟩ = some (.string stem) := (hb4.cell (p := ⟨Bn, 0, none⟩) (Nat.lt_of_lt_of_le hBn hW3)).trans hq3))
          all_goals
            have hb5 : Below W3.heap.size W3 w4 := ⟨hb4.os, hb4.tape, hb4.output, hb4.size, hb4.block⟩
            gi_wp2
            refine ⟨⟨pre ++ [⟨t, hts2⟩], _, _, rfl, rfl, ?_, Lib.hid (by rw [HN.out]; simp), Lib.hid ?_, hT.snoc _ HT.out (by rw [← HT.out]; exact hm), hJ _ _ _ hJ3 hb5, hb3.trans (hb5.mono hW3)⟩, ?_⟩
            · rw [ByteArray.size_append, show (⟨(Lib.itoa z).toArray⟩ : ByteArray).size = (Lib.itoa z).length from by simp [ByteArray.size]]; omega
            · have e := HZ1.out.1
              simp only [List.length_append, List.length_cons, List.length_nil]
              unfold wrap64; omega
            · simp only [intOf]; exact left63_step z hz hz2
        · gi_wp2
          go_end0
          exact ⟨⟨_, rfl⟩, .inr ⟨pre ++ [⟨t, hts2⟩], hT.snoc _ HT.out (by rw [← HT.out]; exact hm), hJx3⟩⟩
    · have HZ2 := Lib.hid (HZ.out.2 (by omega))
      gi_wp2
      go_end0
      exact ⟨⟨_, rfl⟩, .inl ⟨pre, ⟨hT, .inr HZ2.out⟩, hj⟩⟩
end Go.Proofs.YtjbeblbiajegmaaDoor
