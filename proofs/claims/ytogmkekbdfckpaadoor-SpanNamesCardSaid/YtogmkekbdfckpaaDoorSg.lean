/- The contract of span.May. -/
import Derived.Test.YtogmkekbdfckpaaDoorSf
import Derived.Test.YtogmkekbdfckpaaDoorNa
namespace Go.Proofs.YtogmkekbdfckpaaDoor
open Go.RowKit

theorem kept1n {w w' : World} {o : Obj} (hb : Below (w.alloc o).heap.size (w.alloc o) w') : w'.heap[w.heap.size]? = some o := kept1 hb rfl
theorem keepAlloc {w w' : World} {o q : Obj} {b : Nat} (h : w.heap[b]? = some o) (hb : Below (w.alloc q).heap.size (w.alloc q) w') : w'.heap[b]? = some o := by
  have hlt : b < w.heap.size := by
    rcases Nat.lt_or_ge b w.heap.size with h' | h'
    · exact h'
    · simp [Array.getElem?_eq_none h'] at h
  rw [hb.block _ (by simp; omega), Below.heap_alloc _ _ _ hlt, h]

theorem mayO_n {o : Outc} {n : Int} (h : ¬ (0 ≤ n ∧ n ≤ 4096)) : mayO o n = false := by simp [mayO, h]
theorem mayO_fail {o : Outc} {n : Int} (h : 0 ≤ n ∧ n ≤ 4096) (hk : o.ok = false) : mayO o n = (o.to == 0 && ((o.caps.length : Int) == 0)) := by
  rw [Bool.eq_iff_iff]; simp [mayO, h, hk]
theorem mayO_to {o : Outc} {n : Int} (hk : o.ok = true) (h : ¬ (0 ≤ o.to ∧ o.to ≤ n)) : mayO o n = false := by simp [mayO, hk, h]
theorem mayO_many {o : Outc} {n : Int} (hk : o.ok = true) (h : ¬ o.caps.length ≤ 65536) : mayO o n = false := by simp [mayO, hk, h]
theorem mayO_cap {o : Outc} {n : Int} (hk : o.ok = true) {k : Nat} (hl : k < o.caps.length) (h : capOk o.to o.caps[k] = false) : mayO o n = false := by
  simp only [mayO, hk, if_true]
  have : o.caps.all (capOk o.to) = false := by rw [List.all_eq_false]; exact ⟨_, List.getElem_mem hl, by simp [h]⟩
  simp [this]
theorem mayO_end {o : Outc} {n : Int} (hn : 0 ≤ n ∧ n ≤ 4096) (hk : o.ok = true) (ht : 0 ≤ o.to ∧ o.to ≤ n) (hl : o.caps.length ≤ 65536) (h : ∀ c ∈ o.caps, capOk o.to c = true) : mayO o n = decide (o.caps.Pairwise Fits) := by
  have : o.caps.all (capOk o.to) = true := List.all_eq_true.2 h
  simp [mayO, hk, hn, ht, hl, this]
theorem capOk_bounds {to : Int} {c : Cap} (h : capOk to c = true) : 0 ≤ c.frm ∧ c.frm ≤ c.to := by
  simp only [capOk, Bool.and_eq_true, decide_eq_true_eq] at h; omega
theorem capOk_step {l : List Cap} {to : Int} {k : Nat} (hk : k < l.length) (h : ∀ c ∈ l.take k, capOk to c = true) (hc : capOk to l[k] = true) : ∀ c ∈ l.take (k + 1), capOk to c = true := fun c hm => by
  rw [List.take_succ_eq_append_getElem hk] at hm
  rcases List.mem_append.1 hm with hm | hm
  · exact h c hm
  · simp only [List.mem_singleton] at hm; subst hm; exact hc

set_option maxRecDepth 100000 in
set_option maxHeartbeats 1600000 in
theorem smay_any (o : Outc) (n : Int) (A : Option Addr) (c : Nat) (w : World) (hA : RowAt w A (cellsOf o.caps)) (hs : ∀ c ∈ o.caps, c.name.size ≤ 281474976710656) (hl : o.caps.length ≤ 281474976710656) :
    Calls Tryd.prog 13 #[outV A c o, .int .i64 n] w fun e w' => e = .returned (.bool (mayO o n)) ∧ Below w.heap.size w w' := by
  obtain ⟨ok, to, l⟩ := o
  simp only at hA hs hl
  by_cases hn : 0 ≤ n ∧ n ≤ 4096
  · have n1 : ¬ n < 0 := by omega
    have n2 : ¬ 4096 < n := by omega
    cases ok
    · have HM := Lib.hid (mayO_fail (o := ⟨false, to, l⟩) hn rfl)
      go_enter Tryd.func13, Tryd.ntmps13
      cases h1 : (to == 0) <;> cases h2 : ((l.length : Int) == 0)
      all_goals
        go_wp2_with fail
        go_ret
        exact ⟨ret_bool (by rw [HM.out]; simp [h1, h2]), box1 _ _⟩
    · by_cases ht : 0 ≤ to ∧ to ≤ n
      · have t1 : ¬ to < 0 := by omega
        have t2 : ¬ n < to := by omega
        by_cases hle : l.length ≤ 65536
        · have t3 : ¬ (65536 : Int) < (l.length : Int) := by omega
          have HM := Lib.hid (fun h => mayO_end (o := ⟨true, to, l⟩) hn rfl ht hle h)
          go_enter Tryd.func13, Tryd.ntmps13
          go_wp2_with fail
          go_loopw [43] (fun i wr => ∃ (k : Nat), k ≤ l.length ∧ i = .int .i64 k ∧ (∀ c ∈ l.take k, capOk to c = true) ∧ wr.heap[w.heap.size]? = some (.cells #[.bool true, .int .i64 to, .slice A l.length c] 24 (0, 0)) ∧ Below w.heap.size w wr) (fun i _ => l.length - (intOf i).toNat)
          case atStart => exact ⟨0, by omega, rfl, by simp, heap_alloc_new w _, box1 _ _⟩
          case round =>
            obtain ⟨k, hk, rfl, hall, hbox, hB⟩ := hrel
            have HA := Lib.hid hall; clear hall
            have b3 := blk3 hbox
            by_cases hlt : k < l.length
            · obtain ⟨ab, ao, rfl, x1, x2, x3⟩ := (hA.below hB).caps k hlt
              have hsz := hs _ (List.getElem_mem hlt)
              have HA' := Lib.hid hA; clear hA
              have HB := Lib.hid hB; clear hB
              have HBox := Lib.hid hbox; clear hbox
              have HF : capOk to l[k] = false → Hid (mayO ⟨true, to, l⟩ n = false) := fun h => Lib.hid (mayO_cap (o := ⟨true, to, l⟩) rfl hlt h)
              by_cases g1 : mayL l[k].name.data.toList = true
              · by_cases g2 : l[k].frm < 0
                · have HN := HF (by simp [capOk, g1]; omega)
                  go_wp2_with (first | (go_at_call 16; refine (may_any l[k].name _ hsz).mono ?_; rintro e w' ⟨rfl, hb⟩; have f1 := blk3 (kept1n hb); have f2 := blk3 (keepAlloc HBox.out hb)))
                  go_ret
                  exact ⟨ret_bool HN.out.symm, (HB.out.alloc HB.out.size _).trans (hb.mono (by simp; have := HB.out.size; omega))⟩
                · by_cases g3 : l[k].to < l[k].frm
                  · have HN := HF (by simp [capOk, g1]; omega)
                    go_wp2_with (first | (go_at_call 16; refine (may_any l[k].name _ hsz).mono ?_; rintro e w' ⟨rfl, hb⟩; have f1 := blk3 (kept1n hb); have f2 := blk3 (keepAlloc HBox.out hb)))
                    go_ret
                    exact ⟨ret_bool HN.out.symm, (HB.out.alloc HB.out.size _).trans (hb.mono (by simp; have := HB.out.size; omega))⟩
                  · by_cases g4 : to < l[k].to
                    · have HN := HF (by simp [capOk, g1]; omega)
                      go_wp2_with (first | (go_at_call 16; refine (may_any l[k].name _ hsz).mono ?_; rintro e w' ⟨rfl, hb⟩; have f1 := blk3 (kept1n hb); have f2 := blk3 (keepAlloc HBox.out hb)))
                      go_ret
                      exact ⟨ret_bool HN.out.symm, (HB.out.alloc HB.out.size _).trans (hb.mono (by simp; have := HB.out.size; omega))⟩
                    · have HN := Lib.hid (capOk_step hlt HA.out (show capOk to l[k] = true by simp [capOk, g1]; omega))
                      go_wp2_with (first | (go_at_call 16; refine (may_any l[k].name _ hsz).mono ?_; rintro e w' ⟨rfl, hb⟩; have f1 := blk3 (kept1n hb); have f2 := blk3 (keepAlloc HBox.out hb)))
                      exact ⟨⟨k + 1, by omega, by go_num, HN.out, keepAlloc HBox.out hb, (HB.out.alloc HB.out.size _).trans (hb.mono (by simp; have := HB.out.size; omega))⟩, by simp [intOf]; omega⟩
              · have g1' : mayL l[k].name.data.toList = false := by simpa using g1
                have HN := HF (by simp [capOk, g1'])
                clear g1
                go_wp2_with (first | (go_at_call 16; refine (may_any l[k].name _ hsz).mono ?_; rintro e w' ⟨rfl, hb⟩; have f1 := blk3 (kept1n hb); have f2 := blk3 (keepAlloc HBox.out hb)))
                go_ret
                exact ⟨ret_bool HN.out.symm, (HB.out.alloc HB.out.size _).trans (hb.mono (by simp; have := HB.out.size; omega))⟩
            · have HE := Lib.hid (show ∀ c ∈ l, capOk to c = true from fun c hc => HA.out c (by rw [List.take_of_length_le (by omega)]; exact hc))
              go_wp2_with (first | (go_at_call 38; refine (nested_any l A c _ (hA.below hB) hle (fun c hc => capOk_bounds (HE.out c hc))).mono ?_; rintro e w' ⟨rfl, hb⟩))
              go_ret
              exact ⟨ret_bool (HM.out HE.out).symm, hB.trans (hb.mono hB.size)⟩
        · have t3 : (65536 : Int) < (l.length : Int) := by omega
          have HM := Lib.hid (mayO_many (o := ⟨true, to, l⟩) (n := n) rfl hle)
          go_enter Tryd.func13, Tryd.ntmps13
          go_wp2_with fail
          go_ret
          exact ⟨ret_bool HM.out.symm, box1 _ _⟩
      · have HM := Lib.hid (mayO_to (o := ⟨true, to, l⟩) (n := n) rfl ht)
        by_cases t1 : to < 0
        · go_enter Tryd.func13, Tryd.ntmps13
          go_wp2_with fail
          go_ret
          exact ⟨ret_bool HM.out.symm, box1 _ _⟩
        · have t2 : n < to := by omega
          go_enter Tryd.func13, Tryd.ntmps13
          go_wp2_with fail
          go_ret
          exact ⟨ret_bool HM.out.symm, box1 _ _⟩
  · have HM := Lib.hid (mayO_n (o := ⟨ok, to, l⟩) hn)
    by_cases n1 : n < 0
    · go_enter Tryd.func13, Tryd.ntmps13
      go_wp2_with fail
      go_ret
      exact ⟨ret_bool HM.out.symm, box1 _ _⟩
    · have n2 : 4096 < n := by omega
      go_enter Tryd.func13, Tryd.ntmps13
      go_wp2_with fail
      go_ret
      exact ⟨ret_bool HM.out.symm, box1 _ _⟩
end Go.Proofs.YtogmkekbdfckpaaDoor
