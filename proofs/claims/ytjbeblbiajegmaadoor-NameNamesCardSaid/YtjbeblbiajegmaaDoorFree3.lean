/- The contracts of the reference's Free, and of works, which each statement of the layer asks. -/
import Derived.Test.YtjbeblbiajegmaaDoorFree2
import Derived.Test.YtjbeblbiajegmaaDoorName3
namespace Go.Proofs.YtjbeblbiajegmaaDoor
open Go.RowKit

theorem contains_step (ss : List ByteArray) (k : Nat) (h : k < ss.length) (t : List UInt8) : (toks (ss.take (k + 1))).contains t = ((toks (ss.take k)).contains t || t == ss[k].data.toList) := by
  rw [List.take_succ_eq_append_getElem h, toks, List.map_append, List.map_singleton]
  simp only [List.contains_eq_mem, List.mem_append, List.mem_singleton, Bool.decide_or, toks]
  congr 1; rw [Bool.eq_iff_iff]; simp
theorem cand_le (stem : List UInt8) (ss : List (List UInt8)) (n : Nat) (h : ∀ i, i < n → cand stem i ∈ ss) : n ≤ ss.length := by
  have h1 : ((List.range n).map (cand stem)).Nodup := by
    rw [List.nodup_iff_pairwise_ne, List.pairwise_map]
    exact (List.nodup_range (n := n)).imp (fun h e => h (cand_inj stem e))
  have h2 : (List.range n).map (cand stem) ⊆ ss := by
    intro a ha
    obtain ⟨i, hi, rfl⟩ := List.mem_map.1 ha
    exact h i (List.mem_range.1 hi)
  simpa using h1.length_le_of_subset h2

set_option maxRecDepth 100000 in
set_option maxHeartbeats 1000000 in
theorem rfree_any (stem : ByteArray) (hs : stem.size ≤ 140737488355328) (v : Value) (ss : List ByteArray) (w : World) (hv : StrsAt w v ss)
    (hlen : ss.length ≤ 140737488355328) :
    Calls Tryd.prog 12 #[.string stem, v] w fun e w' => ∃ t : ByteArray, e = .returned (.string t) ∧ FreeIs stem.data.toList (toks ss) t.data.toList ∧ Below w.heap.size w w' := by
  obtain ⟨a, cap, rfl, hcells⟩ := hv
  cases hm : mayL stem.data.toList
  · have HF := Lib.hid (show FreeIs stem.data.toList (toks ss) [] from ⟨0, fun i hi => by omega, .inr ⟨hm, rfl⟩⟩)
    go_enter Tryd.func12, Tryd.ntmps12
    go_wp2_with (first | (go_at_call 22; refine (rmay_any _ _ (by omega)).mono ?_; rintro e w' ⟨rfl, rfl⟩))
    go_ret
    exact ⟨_, rfl, HF.out, Below.refl _ _⟩
  · go_enter Tryd.func12, Tryd.ntmps12
    go_wp2_with (first | (go_at_call 22; refine (rmay_any _ _ (by omega)).mono ?_; rintro e w' ⟨rfl, rfl⟩))
    have HM := Lib.hid hm; clear hm
    have hss : stem.size ≤ 32 := by
      have := (of_decide_eq_true (show decide _ = true from HM.out)).2.1; rw [sz_data] at this; exact this
    go_loopw [5, 6] (fun s n wr => ∃ (j : Nat) (t : ByteArray), s = .string t ∧ n = .int .i64 ((j : Int) + 2) ∧ t.size ≤ 64 ∧ Hid (t.data.toList = cand stem.data.toList j) ∧ Hid (∀ i, i < j → mayL (cand stem.data.toList i) = true ∧ cand stem.data.toList i ∈ toks ss) ∧ j ≤ ss.length ∧ Below w.heap.size w wr)
      (fun _ n _ => ss.length + 3 - (intOf n).toNat)
    case atStart => exact ⟨0, stem, rfl, rfl, by omega, Lib.hid rfl, Lib.hid (fun i hi => by omega), by omega, Below.refl _ _⟩
    case round =>
      obtain ⟨j, t, rfl, rfl, hts, HT, HA, hj, hb⟩ := hrel
      cases hm : mayL t.data.toList
      · have HF := Lib.hid (show FreeIs stem.data.toList (toks ss) [] from ⟨j, HA.out, .inr ⟨by rw [← HT.out]; exact hm, rfl⟩⟩)
        go_wp2_with (first | (go_at_call 22; refine (rmay_any _ _ (by omega)).mono ?_; rintro e w' ⟨rfl, rfl⟩))
        go_ret
        exact ⟨_, rfl, HF.out, hb⟩
      · go_wp2_with (first | (go_at_call 22; refine (rmay_any _ _ (by omega)).mono ?_; rintro e w' ⟨rfl, rfl⟩))
        have HMt := Lib.hid hm; clear hm
        obtain ⟨wo, hwo⟩ : ∃ wo : World, wo = wr := ⟨_, rfl⟩
        subst hwo
        go_loop [7, 8] (fun h i => ∃ (k : Nat) (b : Bool), k ≤ ss.length ∧ h = .bool b ∧ i = .int .i64 k ∧ Hid (b = (toks (ss.take k)).contains t.data.toList)) (fun _ i => ss.length - (intOf i).toNat)
        case atStart => exact ⟨0, false, by omega, rfl, rfl, Lib.hid rfl⟩
        case round =>
          obtain ⟨k, b, hk, rfl, rfl, HB⟩ := hrel
          by_cases hlt : k < ss.length
          · obtain ⟨b', o, rfl, hck⟩ := hcells k hlt
            obtain ⟨s, hs'⟩ : ∃ s, s = ss[k] := ⟨_, rfl⟩
            have hck2 : wo.cell? ⟨b', o + k, none⟩ = some (.string s) := by rw [hs']; exact (hb.cell (p := ⟨b', o + k, none⟩) (cell_lt hck)).trans hck
            have HS := Lib.hid hs'; clear hs' hck hcells
            cases b
            · go_wp2
              exact ⟨⟨k + 1, _, by omega, rfl, by go_num, Lib.hid (by rw [contains_step ss k hlt, ← HB.out, ← HS.out, Lib.toList_data, Lib.toList_data]; simp [Bool.beq_comm])⟩, by simp [intOf]; omega⟩
            · go_wp2
              exact ⟨⟨k + 1, true, by omega, rfl, by go_num, Lib.hid (by rw [contains_step ss k hlt, ← HB.out]; rfl)⟩, by simp [intOf]; omega⟩
          · have HC := Lib.hid (show b = (toks ss).contains t.data.toList by have := HB.out; rwa [List.take_of_length_le (by omega)] at this)
            cases b
            · have HF := Lib.hid (show FreeIs stem.data.toList (toks ss) t.data.toList from ⟨j, HA.out, .inl ⟨by rw [← HT.out]; exact HMt.out, by rw [← HT.out]; have := HC.out; simpa using this.symm, HT.out⟩⟩)
              go_wp2
              go_ret
              exact ⟨_, rfl, HF.out, hb⟩
            · have HA2 := Lib.hid (show ∀ i, i < j + 1 → mayL (cand stem.data.toList i) = true ∧ cand stem.data.toList i ∈ toks ss from fun i hi => by
                by_cases he : i = j
                · subst he; rw [← HT.out]; exact ⟨HMt.out, by have := HC.out; simpa using this.symm⟩
                · exact HA.out i (by omega))
              have hj2 : j + 1 ≤ ss.length := by have := cand_le stem.data.toList (toks ss) (j + 1) (fun i hi => (HA2.out i hi).2); simpa using this
              go_wp2_with (first | (go_at_call 24; refine (rshow_any _ _ (by omega) (by omega)).mono ?_; rintro e w2 ⟨u, rfl, hu, hb2⟩; have hul : u.size ≤ 21 := (by rw [← sz_data, hu]; exact Lib.itoa_length_le _ (by omega) (by omega)); have HU := Lib.hid hu; clear hu))
              have hb3 : Below w.heap.size w w2 := hb.trans (hb2.mono hb.size)
              go_roundw
              case rel => exact ⟨j + 1, _, rfl, by go_num, by rw [ByteArray.size_append]; omega, Lib.hid (by rw [ByteArray.data_append, Array.toList_append, HU.out, show ((j : Int) + 2) = (j : Int) + 1 + 1 by omega]; simp [cand]), HA2, hj2, hb3⟩
              case measure => simp [intOf]; omega

set_option maxHeartbeats 1000000 in
theorem copies_any (s : ByteArray) (n : Nat) (w : World) (hs : s.size ≤ 64) (hn : n ≤ 64) :
    Calls Tryd.prog 18 #[.string s, .int .i64 n] w fun e w' => ∃ t : ByteArray, e = .returned (.string t) ∧ t.data.toList = (List.replicate n s.data.toList).flatten ∧ w = w' := by
  go_enter Tryd.func18, Tryd.ntmps18
  go_wp2
  go_loop [5, 6] (fun o i => ∃ (k : Nat) (t : ByteArray), k ≤ n ∧ o = .string t ∧ i = .int .i64 k ∧ t.size ≤ k * 64 ∧ Hid (t.data.toList = (List.replicate k s.data.toList).flatten)) (fun _ i => n - (intOf i).toNat)
  case atStart => exact ⟨0, _, by omega, rfl, rfl, by simp [ByteArray.size], Lib.hid rfl⟩
  case round =>
    obtain ⟨k, t, hk, rfl, rfl, hts, HT⟩ := hrel
    by_cases hlt : k < n
    · go_wp2
      refine ⟨⟨k + 1, _, by omega, rfl, by go_num, by rw [ByteArray.size_append]; omega, Lib.hid ?_⟩, by simp [intOf]; omega⟩
      rw [ByteArray.data_append, Array.toList_append, HT.out, List.replicate_succ']; simp
    · go_wp2
      go_ret
      exact ⟨_, rfl, by rw [HT.out]; congr 2; omega, rfl⟩

theorem num_c (l : List UInt8) (most : Int) (a b : Int) (w : World) (h : numL l most = (a, b)) (hl : l.length ≤ 64) (hm : most ≤ 9223372036854775807) :
    Calls Tryd.prog 13 #[.string ⟨l.toArray⟩, .int .i64 most] w fun e w' => e = .returned (.tuple #[.int .i64 a, .int .i64 b]) ∧ w = w' := by
  refine (num_any ⟨l.toArray⟩ most w (by simp [ByteArray.size]; omega) hm).mono ?_
  rintro e w' ⟨rfl, rfl⟩
  have : numL (⟨l.toArray⟩ : ByteArray).data.toList most = (a, b) := by simpa using h
  rw [this]; exact ⟨rfl, rfl⟩
theorem may_c (l : List UInt8) (b : Bool) (w0 w : World) (h : mayL l = b) (hl : l.length ≤ 64) (hb : Below w0.heap.size w0 w) :
    Calls Tryd.prog 16 #[.string ⟨l.toArray⟩] w fun e w' => e = .returned (.bool b) ∧ Below w0.heap.size w0 w' := by
  refine (may_any ⟨l.toArray⟩ w (by simp [ByteArray.size]; omega)).mono ?_
  rintro e w' ⟨rfl, hb1⟩
  exact ⟨ret_bool (by simpa using h), hb.trans (hb1.mono hb.size)⟩
theorem take_c (l r : List UInt8) (w0 w : World) (h : takeL l = r) (hl : l.length ≤ 64) (hb : Below w0.heap.size w0 w) :
    Calls Tryd.prog 15 #[.string ⟨l.toArray⟩] w fun e w' => e = .returned (.string ⟨r.toArray⟩) ∧ Below w0.heap.size w0 w' := by
  refine (take_any ⟨l.toArray⟩ w (by simp [ByteArray.size]; omega)).mono ?_
  rintro e w' ⟨t, rfl, ht, hb1⟩
  exact ⟨ret_str (by simpa using ht.trans (by simpa using h)), hb.trans (hb1.mono hb.size)⟩
theorem show_c (n : Int) (r : List UInt8) (w0 w : World) (h : Lib.itoa n = r) (h0 : -9223372036854775808 ≤ n) (h1 : n ≤ 9223372036854775807) (ht : Tab w0) (hg : 1 < w0.heap.size) (hb : Below w0.heap.size w0 w) :
    Calls Tryd.prog 14 #[.int .i64 n] w fun e w' => e = .returned (.string ⟨r.toArray⟩) ∧ Below w0.heap.size w0 w' := by
  refine (show_any n w h0 h1 (tab_below hb hg ht)).mono ?_
  rintro e w' ⟨rfl, hb1⟩
  exact ⟨by rw [h], hb.trans (hb1.mono hb.size)⟩
theorem free_c (stem r : List UInt8) (v : Value) (ss : List ByteArray) (w0 w : World) (h : FreeIs stem (toks ss) r) (hl : stem.length ≤ 64) (hv : StrsAt w v ss) (hlen : ss.length ≤ 64) (hsz : ∀ s ∈ ss, s.size ≤ 64) (ht : Tab w0) (hg : 1 < w0.heap.size) (hb : Below w0.heap.size w0 w) :
    Calls Tryd.prog 11 #[.string ⟨stem.toArray⟩, v] w fun e w' => e = .returned (.string ⟨r.toArray⟩) ∧ Below w0.heap.size w0 w' := by
  refine (free_any ⟨stem.toArray⟩ (by simp [ByteArray.size]; omega) v ss w (tab_below hb hg ht) (Nat.lt_of_lt_of_le hg hb.size) hv (by omega) (fun s hs => by have := hsz s hs; unfold maxLen; omega)).mono ?_
  rintro e w' ⟨t, rfl, ht, hb1⟩
  exact ⟨ret_str (by simpa using FreeIs.unique ht (by simpa using h)), hb.trans (hb1.mono hb.size)⟩

theorem strsAt_new (w : World) (ss : List ByteArray) (t : TypeId) (c : Nat) : StrsAt (w.alloc (.cells (ss.map Value.string).toArray t)) (.slice (some ⟨w.heap.size, 0, none⟩) ss.length c) ss := by
  refine ⟨_, c, rfl, fun i hi => ⟨_, _, rfl, ?_⟩⟩
  show (w.alloc _).cell? ⟨w.heap.size, 0 + i, none⟩ = _
  unfold World.cell?
  have : (w.alloc (Obj.cells (ss.map Value.string).toArray t)).heap[w.heap.size]? = some (Obj.cells (ss.map Value.string).toArray t) := World.alloc_heap_new w _
  simp only [this]
  simp [List.getElem?_eq_getElem hi]

theorem free_a : FreeIs [97] (toks [⟨#[97]⟩, ⟨#[97, 50]⟩]) [97, 51] := by
  have c1 : cand [97] 1 = [97, 50] := by decide +kernel
  have c2 : cand [97] 2 = [97, 51] := by decide +kernel
  refine ⟨2, fun i hi => ?_, .inl ⟨by rw [c2]; decide +kernel, by rw [c2]; simp [toks], c2.symm⟩⟩
  obtain rfl | rfl : i = 0 ∨ i = 1 := by omega
  · exact ⟨by decide +kernel, by simp [cand, toks]⟩
  · rw [c1]; exact ⟨by decide +kernel, by simp [toks]⟩

set_option maxRecDepth 100000 in
set_option maxHeartbeats 1000000 in
theorem works_any (w : World) (ht : Tab w) (hg : 1 < w.heap.size) :
    Calls Tryd.prog 10 #[] w fun e w' => e = .returned (.bool true) ∧ Below w.heap.size w w' := by
  have hB := Below.refl w.heap.size w
  go_enter Tryd.func10, Tryd.ntmps10
  go_wp2_with fail
  refine (num_c [48, 55] 9 0 4 _ (by decide +kernel) (by decide) (by decide)).mono ?_
  rintro e w' ⟨rfl, rfl⟩
  go_wp2_with fail
  refine (num_c [49, 50] 11 0 40 _ (by decide +kernel) (by decide) (by decide)).mono ?_
  rintro e w' ⟨rfl, rfl⟩
  go_wp2_with fail
  refine (may_c [97, 95, 49] true w _ (by decide +kernel) (by decide) hB).mono ?_
  clear hB
  rintro e w' ⟨rfl, hB⟩
  go_wp2_with fail
  refine (may_c [95] true w _ (by decide +kernel) (by decide) hB).mono ?_
  clear hB
  rintro e w' ⟨rfl, hB⟩
  go_wp2_with fail
  refine (may_c [90, 57] true w _ (by decide +kernel) (by decide) hB).mono ?_
  clear hB
  rintro e w' ⟨rfl, hB⟩
  go_wp2_with fail
  refine (may_c [49, 97] false w _ (by decide +kernel) (by decide) hB).mono ?_
  clear hB
  rintro e w' ⟨rfl, hB⟩
  go_wp2_with fail
  refine (may_c [] false w _ (by decide +kernel) (by decide) hB).mono ?_
  clear hB
  rintro e w' ⟨rfl, hB⟩
  go_wp2_with fail
  refine (may_c [97, 45, 98] false w _ (by decide +kernel) (by decide) hB).mono ?_
  clear hB
  rintro e w' ⟨rfl, hB⟩
  go_wp2_with fail
  refine (take_c [97, 98, 43, 99] [97, 98] w _ (by decide +kernel) (by decide) hB).mono ?_
  clear hB
  rintro e w' ⟨rfl, hB⟩
  go_wp2_with fail
  refine (show_c (-5) [45, 53] w _ (by decide +kernel) (by decide) (by decide) ht hg hB).mono ?_
  clear hB
  rintro e w' ⟨rfl, hB⟩
  go_wp2_with fail
  refine (free_c [97] [97, 51] _ [⟨#[97]⟩, ⟨#[97, 50]⟩] w _ free_a (by decide) (strsAt_new _ _ _ _) (by decide) (by decide +kernel) ht hg (hB.alloc hB.size _)).mono ?_
  clear hB
  rintro e w' ⟨rfl, hB⟩
  go_wp2_with fail
  go_ret
  exact ⟨rfl, hB⟩
end Go.Proofs.YtjbeblbiajegmaaDoor
