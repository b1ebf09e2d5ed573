/- The contract of lex.skip. -/
import Derived.Test.YtabncmckojlllaaDoorLm
namespace Go.Proofs.YtabncmckojlllaaDoor
open Go.RowKit
set_option linter.unusedSimpArgs false
set_option linter.unusedVariables false

theorem skip_true : ∀ l : List UInt8, (Lib.indexByte l 10 < 0 → skipM true l = l.length) ∧ (∀ n : Nat, Lib.indexByte l 10 = n → n ≤ l.length ∧ skipM true l = n + skipM false (l.drop n))
  | [] => ⟨fun _ => rfl, fun n h => by simp [Lib.indexByte] at h⟩
  | c :: r => by
    have ih := skip_true r
    have hg := Lib.indexByte_ge r 10
    by_cases hc : c = 10
    · subst hc
      refine ⟨fun h => by simp [Lib.indexByte] at h, fun n h => ?_⟩
      have h0 : n = 0 := by simp [Lib.indexByte] at h; omega
      subst h0
      exact ⟨Nat.zero_le _, by simp [skipM, partB]⟩
    · have h1 : (c == 10) = false := by simpa using hc
      have h2 : (c != 10) = true := by simpa using hc
      constructor
      · intro h
        have h3 : Lib.indexByte r 10 < 0 := by
          unfold Lib.indexByte at h
          rw [if_neg (by simp [h1])] at h
          by_cases h4 : Lib.indexByte r 10 = -1
          · omega
          · rw [if_neg (by simpa using h4)] at h; omega
        simp only [skipM, h2, List.length_cons, ih.1 h3]; omega
      · intro n h
        unfold Lib.indexByte at h
        rw [if_neg (by simp [h1])] at h
        by_cases h4 : Lib.indexByte r 10 = -1
        · rw [if_pos (by simpa using h4)] at h; omega
        · rw [if_neg (by simpa using h4)] at h
          obtain ⟨m, rfl⟩ : ∃ m, n = m + 1 := ⟨n - 1, by omega⟩
          have h5 := ih.2 m (by omega)
          refine ⟨by simp only [List.length_cons]; omega, ?_⟩
          simp only [skipM, h2, List.drop_succ_cons, h5.2]; omega
theorem next_end {s : List UInt8} {k : Nat} (h : s.length ≤ k) : nextL s k = k := by unfold nextL; rw [List.drop_eq_nil_of_le h]; simp [skipM]
theorem next_part {s : List UInt8} {k : Nat} {c : UInt8} (h : s[k]? = some c) (hc : partB c = true) : nextL s k = nextL s (k + 1) := by
  have hl := (List.getElem?_eq_some_iff.1 h).1
  have h35 : c ≠ 35 := fun e => by subst e; revert hc; decide
  unfold nextL
  rw [List.drop_eq_getElem_cons hl, (List.getElem?_eq_some_iff.1 h).2]
  simp only [skipM, if_neg h35, hc, if_true]; omega
theorem next_here {s : List UInt8} {k : Nat} {c : UInt8} (h : s[k]? = some c) (hc : partB c = false) (h35 : c ≠ 35) : nextL s k = k := by
  have hl := (List.getElem?_eq_some_iff.1 h).1
  unfold nextL
  rw [List.drop_eq_getElem_cons hl, (List.getElem?_eq_some_iff.1 h).2]
  simp [skipM, if_neg h35, hc]
theorem next_comment {s : List UInt8} {k : Nat} (h : s[k]? = some 35) : nextL s k = k + skipM true (s.drop k) := by
  have hl := (List.getElem?_eq_some_iff.1 h).1
  unfold nextL
  rw [List.drop_eq_getElem_cons hl, (List.getElem?_eq_some_iff.1 h).2]
  rfl
theorem next_all {s : List UInt8} {k : Nat} (h : s[k]? = some 35) (hi : Lib.indexByte (s.drop k) 10 < 0) : nextL s k = s.length := by
  have hl := (List.getElem?_eq_some_iff.1 h).1
  rw [next_comment h, (skip_true _).1 hi, List.length_drop]; omega
theorem next_line {s : List UInt8} {k n : Nat} (h : s[k]? = some 35) (hi : Lib.indexByte (s.drop k) 10 = n) : nextL s k = nextL s (k + n) ∧ k + n ≤ s.length ∧ 0 < n := by
  have hl := (List.getElem?_eq_some_iff.1 h).1
  obtain ⟨h1, h2⟩ := (skip_true _).2 n hi
  rw [List.length_drop] at h1
  refine ⟨?_, by omega, ?_⟩
  · rw [next_comment h, h2]; unfold nextL; rw [List.drop_drop]; omega
  · rcases Nat.eq_zero_or_pos n with h0 | h0
    · subst h0
      rw [List.drop_eq_getElem_cons hl, (List.getElem?_eq_some_iff.1 h).2] at hi
      have hg := Lib.indexByte_ge (s.drop (k + 1)) 10
      unfold Lib.indexByte at hi
      rw [if_neg (by decide)] at hi
      by_cases h4 : Lib.indexByte (s.drop (k + 1)) 10 = -1
      · rw [if_pos (by simpa using h4)] at hi; omega
      · rw [if_neg (by simpa using h4)] at hi; omega
    · exact h0
theorem next_le (s : List UInt8) (k : Nat) : nextL s k ≤ max k s.length := by
  unfold nextL
  have := skipM_le false (s.drop k)
  rw [List.length_drop] at this
  omega
theorem next_ge (s : List UInt8) (k : Nat) : k ≤ nextL s k := by unfold nextL; omega
theorem eqByte (b : UInt8) (k : Nat) (c : UInt8) (hc : c.toNat = k) : ((b.toNat : Int) == (k : Int)) = decide (b = c) ∧ ((b.toNat : Int) = (k : Int) ↔ b = c) := by
  have h : (b.toNat : Int) = (k : Int) ↔ b = c := by
    constructor
    · intro e; exact UInt8.toNat_inj.1 (by omega)
    · rintro rfl; omega
  exact ⟨by rw [Bool.eq_iff_iff, beq_iff_eq, decide_eq_true_eq]; exact h, h⟩
set_option maxRecDepth 100000 in
set_option maxHeartbeats 2000000 in
theorem skip_any (s : ByteArray) (a : Nat) (w : World) (ha : a ≤ s.size) (hs : s.size ≤ 1000000) :
    Calls Tryd.prog 61 #[.string s, .int .i64 (a : Int)] w fun e w' => e = .returned (.int .i64 (nextL s.data.toList a : Int)) ∧ w' = w := by
  have hsz := sz_data s
  go_enter Tryd.func61, Tryd.ntmps61
  go_wp2_with fail
  go_loopw [1] (fun i wr => ∃ k : Nat, i = .int .i64 (k : Int) ∧ k ≤ s.size ∧ Hid (nextL s.data.toList k = nextL s.data.toList a) ∧ wr = w) (fun i _ => s.size - (intOf i).toNat)
  case atStart => exact ⟨a, rfl, ha, Lib.hid rfl, rfl⟩
  case round =>
    obtain ⟨k, rfl, hk, HN, rfl⟩ := hrel
    by_cases hlt : k < s.size
    · have i1 : (k : Int) < (s.size : Int) := by omega
      have i2 : (0 : Int) ≤ (k : Int) := by omega
      have hA := Lib.data_getElem? s k hlt
      by_cases hp : partB s[k] = true
      · have HP := Lib.hid (next_part hA hp)
        have hp4 : s[k] = 32 ∨ s[k] = 9 ∨ s[k] = 13 ∨ s[k] = 10 := by
          unfold partB at hp; simpa [or_assoc] using hp
        have hp5 : (s[k].toNat : Int) = 32 ∨ (s[k].toNat : Int) = 9 ∨ (s[k].toNat : Int) = 13 ∨ (s[k].toNat : Int) = 10 := by
          rcases hp4 with h | h | h | h <;> rw [h] <;> simp
        clear hA hp hp4
        rcases hp5 with n1 | n1 | n1 | n1
        all_goals
          go_wp2_with fail
          exact ⟨⟨k + 1, by go_num, by omega, Lib.hid (by rw [← HP.out]; exact HN.out), by first | trivial | rfl⟩, by simp only [intOf]; omega⟩
      · by_cases h35 : s[k] = 35
        · have n1 : (s[k].toNat : Int) = 35 := by rw [h35]; rfl
          have hd := cut_data s k (by omega)
          have i3 : (k : Int) ≤ (s.size : Int) := by omega
          rw [h35] at hA
          have hix := Lib.indexByte_ge (s.data.toList.drop k) 10
          by_cases hneg : Lib.indexByte (s.data.toList.drop k) 10 < 0
          · have HI := Lib.hid (next_all hA hneg)
            have HD := Lib.hid hd
            clear hA hp h35 hd
            generalize hz : Lib.indexByte (s.data.toList.drop k) 10 = z at *
            have HZ := Lib.hid hz; clear hz
            go_wp2_with (first | (go_at_call 94; refine (Tryd.strings_IndexByte _ 10 _).mono ?_; rintro e w' ⟨rfl, rfl⟩; rw [HD.out, show ((10 : Int).toNat).toUInt8 = 10 from rfl, HZ.out]) | fail)
            go_ret
            exact ⟨by rw [← HN.out, HI.out, hsz]; rfl, rfl⟩
          · obtain ⟨n, hn⟩ : ∃ n : Nat, Lib.indexByte (s.data.toList.drop k) 10 = (n : Int) := ⟨(Lib.indexByte (s.data.toList.drop k) 10).toNat, by omega⟩
            obtain ⟨h1, h2, h3⟩ := next_line hA hn
            have HI := Lib.hid h1
            have HD := Lib.hid hd
            have HZ := Lib.hid hn
            have i4 : ¬ (n : Int) < 0 := by omega
            clear hA hp h35 hd h1 hix hneg hn
            go_wp2_with (first | (go_at_call 94; refine (Tryd.strings_IndexByte _ 10 _).mono ?_; rintro e w' ⟨rfl, rfl⟩; rw [HD.out, show ((10 : Int).toNat).toUInt8 = 10 from rfl, HZ.out]) | fail)
            exact ⟨⟨k + n, by go_num, by omega, Lib.hid (by rw [← HI.out]; exact HN.out), by first | trivial | rfl⟩, by simp only [intOf]; omega⟩
        · have HP := Lib.hid (next_here hA (by simpa using hp) h35)
          have hp4 : s[k] ≠ 32 ∧ s[k] ≠ 9 ∧ s[k] ≠ 13 ∧ s[k] ≠ 10 := by
            unfold partB at hp; simpa [not_or, and_assoc] using hp
          have n1 : ¬ (s[k].toNat : Int) = 32 := fun e => hp4.1 (UInt8.toNat_inj.1 (by simp; omega))
          have n2 : ¬ (s[k].toNat : Int) = 9 := fun e => hp4.2.1 (UInt8.toNat_inj.1 (by simp; omega))
          have n3 : ¬ (s[k].toNat : Int) = 13 := fun e => hp4.2.2.1 (UInt8.toNat_inj.1 (by simp; omega))
          have n4 : ¬ (s[k].toNat : Int) = 10 := fun e => hp4.2.2.2 (UInt8.toNat_inj.1 (by simp; omega))
          have n5 : ¬ (s[k].toNat : Int) = 35 := fun e => h35 (UInt8.toNat_inj.1 (by simp; omega))
          clear hA hp hp4 h35
          go_wp2_with fail
          go_ret
          exact ⟨by rw [← HN.out, HP.out]; rfl, rfl⟩
    · have hke : k = s.size := by omega
      have i1 : ¬ (k : Int) < (s.size : Int) := by omega
      have HE := Lib.hid (next_end (s := s.data.toList) (k := k) (by omega))
      go_wp2_with fail
      go_ret
      exact ⟨by rw [← HN.out, HE.out, hke]; rfl, rfl⟩
end Go.Proofs.YtabncmckojlllaaDoor
