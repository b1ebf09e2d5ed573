/- The walks of the statements NameTaken, NameBack. -/
import Derived.Test.YtjbeblbiajegmaaDoorLaw1
namespace Go.Proofs.YtjbeblbiajegmaaDoor
open Go.RowKit

theorem extract_take (s t : ByteArray) (h : t.data.toList <+: s.data.toList) : ((s.extract 0 t.size).toList == t.toList) = true := by
  rw [beq_iff_eq, Lib.toList_data, Lib.toList_data, Lib.extract_data, List.drop_zero, Nat.sub_zero, ← sz_data t]
  exact (List.prefix_iff_eq_take.1 h).symm
theorem mayL_taken (s t : ByteArray) (h : t.data.toList = takeL s.data.toList) : mayL t.data.toList = (decide (0 < t.size) && decide (t.size ≤ 32)) := by
  have e := sz_data t
  rw [Bool.eq_iff_iff]
  simp only [mayL, decide_eq_true_eq, Bool.and_eq_true, e]
  constructor
  · rintro ⟨h1, h2, _⟩
    refine ⟨?_, h2⟩
    rw [← e]; exact List.length_pos_iff.2 h1
  · rintro ⟨h1, h2⟩
    refine ⟨?_, h2, by rw [h]; exact takeL_idem _⟩
    exact List.length_pos_iff.1 (by omega)
theorem taken_none (s t : ByteArray) (h : t.data.toList = takeL s.data.toList) (h0 : t.size = 0) (hs : 0 < s.size) : isLetter s[0].toNat = false := by
  cases hl : isLetter s[0].toNat
  · rfl
  · rw [takeL_letter s hs hl] at h
    have := congrArg List.length h; rw [sz_data] at this; simp at this; omega
theorem taken_next (s t : ByteArray) (h : t.data.toList = takeL s.data.toList) (h0 : 0 < t.size) (hs : t.size < s.size) : alnum s[t.size] = false := by
  have hs0 : 0 < s.size := by omega
  cases hl : isLetter s[0].toNat
  · rw [takeL_noletter s hs0 hl] at h
    have := congrArg List.length h; rw [sz_data] at this; rw [List.length_nil] at this; omega
  · rw [takeL_letter s hs0 hl] at h
    have hlen := congrArg List.length h
    rw [sz_data] at hlen
    generalize hr : s.data.toList.drop 1 = r at *
    have hsp : ∀ (r : List UInt8) (n : Nat) (hn : n < r.length), (r.takeWhile alnum).length = n → alnum r[n] = false := by
      intro r
      induction r with
      | nil => intro n hn; simp at hn
      | cons a r ih =>
        intro n hn he
        by_cases ha : alnum a
        · rw [List.takeWhile_cons_of_pos ha] at he
          simp at he
          obtain ⟨m, rfl⟩ : ∃ m, n = m + 1 := ⟨n - 1, by omega⟩
          simpa using ih m (by simpa using hn) (by omega)
        · rw [List.takeWhile_cons_of_neg ha] at he
          simp at he; subst he; simpa using ha
    have hrl : r.length = s.size - 1 := by rw [← hr, List.length_drop, sz_data]
    have := hsp r (t.size - 1) (by omega) (by simp at hlen; omega)
    have e : r[t.size - 1]'(by omega) = s[t.size] := by
      have h1 : s.data.toList[t.size]? = some s[t.size] := Lib.data_getElem? s _ hs
      have h2 : r[t.size - 1]? = s.data.toList[t.size]? := by rw [← hr, List.getElem?_drop]; congr 1; omega
      rw [h1, List.getElem?_eq_getElem (by omega)] at h2
      exact Option.some.inj h2
    rw [← e]; exact this

set_option maxRecDepth 100000 in
set_option maxHeartbeats 1000000 in
theorem nameTaken_walk (s : ByteArray) (w : World) (ht : Tab w) (hg : 1 < w.heap.size) (hm : s.size ≤ maxLen) :
    Calls Tryd.prog 5 #[.string s] w fun e w' => e = .returned (.bool true) ∧ Below w.heap.size w w' := by
  unfold maxLen at hm
  by_cases hsz : s.size ≤ 5000
  · go_enter Tryd.func5, Tryd.ntmps5
    go_wp2_with fail
    refine (works_any _ ht hg).mono ?_
    rintro e w1 ⟨rfl, hB⟩
    go_wp2_with fail
    refine (take_any _ _ (by omega)).mono ?_
    rintro e w2 ⟨t, rfl, htk, hB2⟩
    have hB3 : Below w.heap.size w w2 := hB.trans (hB2.mono hB.size)
    clear hB hB2
    have hle : t.size ≤ s.size := by rw [← sz_data, ← sz_data, htk]; exact takeL_le _
    have hext := extract_take s t (by rw [htk]; exact takeL_prefix _)
    have hmay := mayL_taken s t htk
    have hnone := Lib.hid (taken_none s t htk)
    have hnext := Lib.hid (taken_next s t htk)
    have HT := Lib.hid htk; clear htk
    by_cases h0 : 0 < t.size
    · have ⟨e1, e2⟩ := bytes_ne t h0
      have hi0 : (0 : Int) < (t.size : Int) := by omega
      have hgt : decide (s.size < t.size) = false := by simp; omega
      have hfin : (((t.size : Int) == (s.size : Int)) = true) ∨ (((t.size : Int) == (s.size : Int)) = false ∧ ∃ h : t.size < s.size, isLetter s[t.size].toNat = false ∧ (((s[t.size].toNat : Int) < 48) ∨ (¬ (s[t.size].toNat : Int) < 48 ∧ (57 : Int) < s[t.size].toNat))) := by
        by_cases h : t.size = s.size
        · exact .inl (by simp; omega)
        · refine .inr ⟨by simp; omega, by omega, ?_⟩
          have := hnext.out h0 (by omega)
          rw [alnum, Bool.or_eq_false_iff, isDigit_no] at this
          exact ⟨this.1, by omega⟩
      have hm2 : (mayL t.data.toList = true ∧ decide ((t.size : Int) ≤ 32) = true) ∨ (mayL t.data.toList = false ∧ decide ((t.size : Int) ≤ 32) = false) := by
        rw [hmay]
        by_cases h : t.size ≤ 32
        · left; simp [h, h0]; omega
        · right; simp [h]; omega
      clear hmay
      rcases hm2 with ⟨hm2, hm3⟩ | ⟨hm2, hm3⟩
      all_goals
        rcases hfin with hfin | ⟨hfin, hlt, hl, hd⟩
        · go_wp2_with (first | (go_at_call 16; refine (may_any _ _ (by omega)).mono ?_; rintro e w4 ⟨rfl, hB4⟩))
          go_ret
          exact ⟨rfl, hB3.trans (hB4.mono hB3.size)⟩
        · rcases hd with hd | ⟨hd, hd2⟩
          all_goals
            go_wp2_with (first | (go_at_call 16; refine (may_any _ _ (by omega)).mono ?_; rintro e w4 ⟨rfl, hB4⟩) | (go_at_call 17; refine (letter_any _ _).mono ?_; rintro e w' ⟨rfl, rfl⟩))
            go_ret
            exact ⟨rfl, hB3.trans (hB4.mono hB3.size)⟩
    · have ⟨e1, e2, e3⟩ := bytes_none t h0
      have hx : (s.extract 0 t.size).toList = [] := by rw [e2] at hext; simpa using hext
      have hx2 : (s.extract 0 t.size).toList.isEmpty = true := by rw [hx]; rfl
      have hm2 : mayL [] = false := by decide
      clear hext
      have hgt : decide (s.size < t.size) = false := by simp; omega
      clear hmay
      by_cases hs0 : 0 < s.size
      · have hl := hnone.out (by omega) hs0
        have ⟨e4, e5⟩ := bytes_ne s hs0
        go_wp2_with (first | (go_at_call 16; refine (may_any _ _ (by omega)).mono ?_; rintro e w4 ⟨rfl, hB4⟩) | (go_at_call 17; refine (letter_any _ _).mono ?_; rintro e w' ⟨rfl, rfl⟩))
        go_ret
        exact ⟨rfl, hB3.trans (hB4.mono hB3.size)⟩
      · have ⟨e4, e5, e6⟩ := bytes_none s hs0
        go_wp2_with (first | (go_at_call 16; refine (may_any _ _ (by omega)).mono ?_; rintro e w4 ⟨rfl, hB4⟩))
        go_ret
        exact ⟨rfl, hB3.trans (hB4.mono hB3.size)⟩
  · go_enter Tryd.func5, Tryd.ntmps5
    go_wp2_with fail
    refine (works_any _ ht hg).mono ?_
    rintro e w1 ⟨rfl, hB⟩
    go_wp2_with fail
    refine (works_any _ (tab_below hB hg ht) (Nat.lt_of_lt_of_le hg hB.size)).mono ?_
    rintro e w2 ⟨rfl, hB2⟩
    go_wp2_with fail
    go_ret
    exact ⟨rfl, hB.trans (hB2.mono hB.size)⟩
end Go.Proofs.YtjbeblbiajegmaaDoor
