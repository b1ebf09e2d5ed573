/- The contract of bonsairef14.May. -/
import Derived.Test.YtogmkekbdfckpaaDoorSg
namespace Go.Proofs.YtogmkekbdfckpaaDoor
open Go.RowKit

/-- Of the first j, each two. -/
def PairsTo (l : List Cap) (j : Nat) : Prop := ∀ (b a : Nat) (hb : b < l.length) (ha : a < b), b < j → Fits (l[a]'(by omega)) l[b]
theorem pairs_end {l : List Cap} (h : PairsTo l l.length) : l.Pairwise Fits := by
  rw [List.pairwise_iff_getElem]
  intro i j hi hj hij
  exact h j i hj hij hj
theorem pairs_not {l : List Cap} {i j : Nat} (hj : j < l.length) (hi : i < j) (h : ¬ Fits (l[i]'(by omega)) l[j]) : ¬ l.Pairwise Fits := fun hp => h ((List.pairwise_iff_getElem.1 hp) i j (by omega) hj hi)

theorem heapAlloc2 {w : World} {o p x : Obj} {b : Nat} (h : w.heap[b]? = some x) : ((w.alloc o).alloc p).heap[b]? = some x := by
  have hlt : b < w.heap.size := by
    rcases Nat.lt_or_ge b w.heap.size with h' | h'
    · exact h'
    · simp [Array.getElem?_eq_none h'] at h
  rw [Below.heap_alloc _ _ _ (by simp; omega), Below.heap_alloc _ _ _ hlt, h]

set_option maxRecDepth 100000 in
set_option maxHeartbeats 1600000 in
theorem rsmay_any (o : Outc) (n : Int) (A : Option Addr) (c : Nat) (w : World) (hA : RowAt w A (cellsOf o.caps)) (hs : ∀ c ∈ o.caps, c.name.size ≤ 281474976710656) (hl : o.caps.length ≤ 281474976710656) :
    Calls Tryd.prog 20 #[outV A c o, .int .i64 n] w fun e w' => e = .returned (.bool (mayO o n)) ∧ Below w.heap.size w w' := by
  obtain ⟨ok, to, l⟩ := o
  simp only at hA hs hl
  by_cases hn : 0 ≤ n ∧ n ≤ 4096
  · have n1 : ¬ n < 0 := by omega
    have n2 : ¬ 4096 < n := by omega
    cases ok
    · have HM := Lib.hid (mayO_fail (o := ⟨false, to, l⟩) hn rfl)
      go_enter Tryd.func20, Tryd.ntmps20
      cases h1 : (to == 0) <;> cases h2 : ((l.length : Int) == 0)
      all_goals
        go_wp2_with fail
        go_ret
        exact ⟨ret_bool (by rw [HM.out]; simp [h1, h2]), box1 _ _⟩
    · by_cases ht : 0 ≤ to ∧ to ≤ n
      · have t1 : ¬ to < 0 := by omega
        have t2 : ¬ n < to := by omega
        by_cases hle : l.length ≤ 65536
        · have t3 : ¬ (65536 : Int) < (l.length : Int) := by omega
          have HM := Lib.hid (fun h => mayO_end (o := ⟨true, to, l⟩) hn rfl ht hle h)
          go_enter Tryd.func20, Tryd.ntmps20
          go_wp2_with fail
          go_loopw [5] (fun i wr => ∃ (k : Nat), k ≤ l.length ∧ i = .int .i64 k ∧ (∀ c ∈ l.take k, capOk to c = true) ∧ wr.heap[w.heap.size]? = some (.cells #[.bool true, .int .i64 to, .slice A l.length c] 24 (0, 0)) ∧ Below w.heap.size w wr) (fun i _ => l.length - (intOf i).toNat)
          case atStart => exact ⟨0, by omega, rfl, by simp, heap_alloc_new w _, box1 _ _⟩
          case round =>
            obtain ⟨k, hk, rfl, hall, hbox, hB⟩ := hrel
            have HA := Lib.hid hall; clear hall
            have b3 := blk3 hbox
            by_cases hlt : k < l.length
            · obtain ⟨ab, ao, rfl, x1, x2, x3⟩ := (hA.below hB).caps k hlt
              have hsz := hs _ (List.getElem_mem hlt)
              have HA' := Lib.hid hA; clear hA
              have HB := Lib.hid hB; clear hB
              have HBox := Lib.hid hbox; clear hbox
              have HF : capOk to l[k] = false → Hid (mayO ⟨true, to, l⟩ n = false) := fun h => Lib.hid (mayO_cap (o := ⟨true, to, l⟩) rfl hlt h)
              have HB1 := Lib.hid (HB.out.alloc HB.out.size (.cells #[.string l[k].name, .int .i64 l[k].frm, .int .i64 l[k].to] 33))
              have HK := Lib.hid (keepAlloc (q := .cells #[.string l[k].name, .int .i64 l[k].frm, .int .i64 l[k].to] 33) HBox.out (Below.refl _ _))
              have b4 := blk3 HK.out
              by_cases g1 : mayL l[k].name.data.toList = true
              · by_cases g2 : l[k].frm < 0
                · have HN := HF (by simp [capOk, g1]; omega)
                  go_wp2_with (first | (go_at_call 40; refine (rmay_any l[k].name _ hsz).mono ?_; rintro e w' ⟨rfl, rfl⟩))
                  go_ret
                  exact ⟨ret_bool HN.out.symm, HB1.out⟩
                · by_cases g3 : l[k].to < l[k].frm
                  · have HN := HF (by simp [capOk, g1]; omega)
                    go_wp2_with (first | (go_at_call 40; refine (rmay_any l[k].name _ hsz).mono ?_; rintro e w' ⟨rfl, rfl⟩))
                    go_ret
                    exact ⟨ret_bool HN.out.symm, HB1.out⟩
                  · by_cases g4 : to < l[k].to
                    · have HN := HF (by simp [capOk, g1]; omega)
                      go_wp2_with (first | (go_at_call 40; refine (rmay_any l[k].name _ hsz).mono ?_; rintro e w' ⟨rfl, rfl⟩))
                      go_ret
                      exact ⟨ret_bool HN.out.symm, HB1.out⟩
                    · have HN := Lib.hid (capOk_step hlt HA.out (show capOk to l[k] = true by simp [capOk, g1]; omega))
                      go_wp2_with (first | (go_at_call 40; refine (rmay_any l[k].name _ hsz).mono ?_; rintro e w' ⟨rfl, rfl⟩))
                      exact ⟨⟨k + 1, by omega, by go_num, HN.out, HK.out, HB1.out⟩, by simp [intOf]; omega⟩
              · have g1' : mayL l[k].name.data.toList = false := by simpa using g1
                have HN := HF (by simp [capOk, g1'])
                clear g1
                go_wp2_with (first | (go_at_call 40; refine (rmay_any l[k].name _ hsz).mono ?_; rintro e w' ⟨rfl, rfl⟩))
                go_ret
                exact ⟨ret_bool HN.out.symm, HB1.out⟩
            · have HE := Lib.hid (show ∀ c ∈ l, capOk to c = true from fun c hc => HA.out c (by rw [List.take_of_length_le (by omega)]; exact hc))
              have HBox := Lib.hid hbox; clear hbox HA b3
              have HB := Lib.hid hB; clear hB
              obtain ⟨p1, p2, p3, p4, p5, p6⟩ := blk3 HBox.out
              clear p4 p5 p6
              go_wp2_with fail
              clear p1 p2 p3
              go_loopw [7] (fun i wr => ∃ (k : Nat), k ≤ l.length ∧ i = .int .i64 k ∧ PairsTo l k ∧ wr.heap[w.heap.size]? = some (.cells #[.bool true, .int .i64 to, .slice A l.length c] 24 (0, 0)) ∧ Below w.heap.size w wr) (fun i _ => l.length - (intOf i).toNat)
              case atStart => exact ⟨0, by omega, rfl, fun b a hb ha h => by omega, HBox.out, HB.out⟩
              case round =>
                clear HBox HB
                obtain ⟨j, hj, rfl, hP, hbox, hB⟩ := hrel
                have HP := Lib.hid hP; clear hP
                have b3 := blk3 hbox
                have HBox := Lib.hid hbox; clear hbox
                have HB := Lib.hid hB; clear hB
                by_cases hjl : j < l.length
                · go_wp2_with fail
                  clear b3
                  go_loopw [8] (fun i wr => ∃ (k : Nat), k ≤ j ∧ i = .int .i64 k ∧ (∀ (a : Nat) (ha : a < k) (hk : a < l.length), Fits l[a] l[j]) ∧ wr.heap[w.heap.size]? = some (.cells #[.bool true, .int .i64 to, .slice A l.length c] 24 (0, 0)) ∧ Below w.heap.size w wr) (fun i _ => j - (intOf i).toNat)
                  case atStart => exact ⟨0, by omega, rfl, fun a ha => by omega, HBox.out, HB.out⟩
                  case round =>
                    clear HBox HB
                    obtain ⟨i, hi, rfl, hQ, hbox, hB⟩ := hrel
                    have HQ := Lib.hid hQ; clear hQ
                    have b3 := blk3 hbox
                    by_cases hij : i < j
                    · obtain ⟨ab, ao, rfl, x1, x2, x3⟩ := (hA.below hB).caps i (by omega)
                      obtain ⟨_, _, e, y1, y2, y3⟩ := (hA.below hB).caps j hjl
                      injection e with e; injection e with e1 e2; subst e1 e2
                      have HB := Lib.hid hB; clear hB
                      have HBox := Lib.hid hbox; clear hbox
                      have q1 : (i : Int) < (l.length : Int) := by omega
                      have lt1 : ab < wr.heap.size := cellLt x1
                      have lt2 : w.heap.size < wr.heap.size := cellLt b3.1
                      by_cases g1 : l[j].frm < l[i].frm
                      · have HN := Lib.hid (pairs_not hjl hij (fun h => by have := h.1; omega))
                        go_wp2_with fail
                        go_region
                        all_goals
                          go_wp2_with fail
                          go_ret
                          exact ⟨ret_bool (by rw [HM.out HE.out]; simp [HN.out]), (HB.out.drew.alloc HB.out.size _).alloc (by simp; have := HB.out.size; omega) _⟩
                      · by_cases g2 : l[j].frm < l[i].to
                        · by_cases g3 : l[i].to < l[j].to
                          · have HN := Lib.hid (pairs_not hjl hij (fun h => h.2 ⟨g2, g3⟩))
                            go_wp2_with fail
                            go_region
                            all_goals
                              go_wp2_with fail
                              go_ret
                              exact ⟨ret_bool (by rw [HM.out HE.out]; simp [HN.out]), (HB.out.drew.alloc HB.out.size _).alloc (by simp; have := HB.out.size; omega) _⟩
                          · have HN := Lib.hid (show Fits l[i] l[j] from ⟨by omega, by omega⟩)
                            have HQ2 := Lib.hid (show ∀ (a : Nat) (ha : a < i + 1) (hk : a < l.length), Fits l[a] l[j] from fun a ha hk => by
                              by_cases e : a = i
                              · subst e; exact HN.out
                              · exact HQ.out a (by omega) hk)
                            go_wp2_with fail
                            go_region
                            all_goals
                              go_wp2_with fail
                              exact ⟨⟨i + 1, by omega, by go_num, HQ2.out, heapAlloc2 HBox.out, (HB.out.drew.alloc HB.out.size _).alloc (by simp; have := HB.out.size; omega) _⟩, by simp [intOf]; omega⟩
                        · have HN := Lib.hid (show Fits l[i] l[j] from ⟨by omega, by omega⟩)
                          have HQ2 := Lib.hid (show ∀ (a : Nat) (ha : a < i + 1) (hk : a < l.length), Fits l[a] l[j] from fun a ha hk => by
                            by_cases e : a = i
                            · subst e; exact HN.out
                            · exact HQ.out a (by omega) hk)
                          go_wp2_with fail
                          go_region
                          all_goals
                            go_wp2_with fail
                            exact ⟨⟨i + 1, by omega, by go_num, HQ2.out, heapAlloc2 HBox.out, (HB.out.drew.alloc HB.out.size _).alloc (by simp; have := HB.out.size; omega) _⟩, by simp [intOf]; omega⟩
                    · have HN := Lib.hid (show PairsTo l (j + 1) from fun b a hb ha hbj => by
                        by_cases e : b = j
                        · subst e; exact HQ.out a (by omega) (by omega)
                        · exact HP.out b a hb ha (by omega))
                      go_wp2_with fail
                      exact ⟨⟨j + 1, by omega, by go_num, HN.out, hbox, hB⟩, by simp [intOf]; omega⟩
                · have HN := Lib.hid (pairs_end (show PairsTo l l.length from by have := HP.out; rwa [show j = l.length by omega] at this))
                  go_wp2_with fail
                  go_ret
                  exact ⟨ret_bool (by rw [HM.out HE.out]; simp [HN.out]), HB.out⟩
        · have t3 : (65536 : Int) < (l.length : Int) := by omega
          have HM := Lib.hid (mayO_many (o := ⟨true, to, l⟩) (n := n) rfl hle)
          go_enter Tryd.func20, Tryd.ntmps20
          go_wp2_with fail
          go_ret
          exact ⟨ret_bool HM.out.symm, box1 _ _⟩
      · have HM := Lib.hid (mayO_to (o := ⟨true, to, l⟩) (n := n) rfl ht)
        by_cases t1 : to < 0
        · go_enter Tryd.func20, Tryd.ntmps20
          go_wp2_with fail
          go_ret
          exact ⟨ret_bool HM.out.symm, box1 _ _⟩
        · have t2 : n < to := by omega
          go_enter Tryd.func20, Tryd.ntmps20
          go_wp2_with fail
          go_ret
          exact ⟨ret_bool HM.out.symm, box1 _ _⟩
  · have HM := Lib.hid (mayO_n (o := ⟨ok, to, l⟩) hn)
    by_cases n1 : n < 0
    · go_enter Tryd.func20, Tryd.ntmps20
      go_wp2_with fail
      go_ret
      exact ⟨ret_bool HM.out.symm, box1 _ _⟩
    · have n2 : 4096 < n := by omega
      go_enter Tryd.func20, Tryd.ntmps20
      go_wp2_with fail
      go_ret
      exact ⟨ret_bool HM.out.symm, box1 _ _⟩
end Go.Proofs.YtogmkekbdfckpaaDoor
