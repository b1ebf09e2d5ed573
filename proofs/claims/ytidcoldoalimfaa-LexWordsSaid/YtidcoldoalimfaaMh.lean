/- The contract of bonsairef06's count. -/
import Derived.Test.YtidcoldoalimfaaMc
import Derived.Test.YtidcoldoalimfaaNc
namespace Go.Proofs.Ytidcoldoalimfaa
open Go.RowKit
set_option linter.unusedSimpArgs false
set_option linter.unusedVariables false

theorem cut_at (c : UInt8) : ∀ (l : List UInt8) (k : Nat), l[k]? = some c → (∀ j, j < k → l[j]? ≠ some c) → cut1 c l = (l.take k, l.drop (k + 1), true)
  | [], k, h, _ => by simp at h
  | b :: l, 0, h, _ => by
    simp at h; subst h; simp [cut1]
  | b :: l, k + 1, h, hn => by
    have h0 : b ≠ c := fun e => hn 0 (by omega) (by simp [e])
    have ih := cut_at c l k (by simpa using h) fun j hj => by have := hn (j + 1) (by omega); simpa using this
    simp [cut1, h0, ih]
theorem cut_none (c : UInt8) : ∀ (l : List UInt8), (∀ j : Nat, l[j]? ≠ some c) → cut1 c l = (l, [], false)
  | [], _ => rfl
  | b :: l, hn => by
    have h0 : b ≠ c := fun e => hn 0 (by simp [e])
    have ih := cut_none c l fun j => by have := hn (j + 1); simpa using this
    simp [cut1, h0, ih]
/-- What the reference tells of a count. -/
def cV : Option (Nat × Int × Int) → Value
  | none => .tuple #[.int .i64 0, .int .i64 0, .int .i64 0]
  | some x => .tuple #[.int .i64 x.2.1, .int .i64 x.2.2, .int .i64 ((x.1 : Int) + 2)]
def RcPost (o : Option (Nat × Int × Int)) (w : World) (e : Ending) (w' : World) : Prop := e = .returned (cV o) ∧ w = w'
theorem RcPost.no {o : Option (Nat × Int × Int)} {w : World} (h : o = none) : RcPost o w (.returned (.tuple #[.int .i64 0, .int .i64 0, .int .i64 0])) w := by subst h; exact ⟨rfl, rfl⟩
theorem RcPost.yes {o : Option (Nat × Int × Int)} {w : World} {n : Nat} {lo hi z : Int} (h : o = some (n, lo, hi)) (hz : z = (n : Int) + 2) : RcPost o w (.returned (.tuple #[.int .i64 lo, .int .i64 hi, .int .i64 z])) w := by subst h hz; exact ⟨rfl, rfl⟩
/-- A byte does not stand ahead of a place. -/
def NoB (l : List UInt8) (c : UInt8) (k : Nat) : Prop := ∀ j, j < k → l[j]? ≠ some c
theorem NoB.zero (l : List UInt8) (c : UInt8) : NoB l c 0 := fun j hj => by omega
theorem NoB.step {l : List UInt8} {c d : UInt8} {k : Nat} (h : NoB l c k) (hd : l[k]? = some d) (hne : d ≠ c) : NoB l c (k + 1) := fun j hj => by
  by_cases e : j = k
  · subst e; rw [hd]; simpa using hne
  · exact h j (by omega)
theorem NoB.cut {l : List UInt8} {c : UInt8} {k : Nat} (h : NoB l c k) (hk : l[k]? = some c) : cut1 c l = (l.take k, l.drop (k + 1), true) := cut_at c l k hk h
theorem NoB.none {l : List UInt8} {c : UInt8} {k : Nat} (h : NoB l c k) (hk : l.length ≤ k) : cut1 c l = (l, [], false) := cut_none c l fun j => by
  by_cases hj : j < k
  · exact h j hj
  · rw [List.getElem?_eq_none (by omega)]; simp
theorem NoB.drop {l : List UInt8} {c : UInt8} {k : Nat} (h : NoB l c (k + 1)) : NoB (l.drop 1) c k := fun j hj => by rw [List.getElem?_drop]; exact h (1 + j) (by omega)
set_option maxRecDepth 100000 in
set_option maxHeartbeats 1600000 in
theorem rcount_core (s : ByteArray) (o : Option (Nat × Int × Int)) (w : World) (hs : s.size ≤ 1000000) (h0 : s.data.toList[0]? = some 123) (ho : countL (s.data.toList.drop 1) = o) : Calls Try.prog 24 #[.string s] w (RcPost o w) := by
  have HZ := Lib.hid (sz_data s)
  have H0 := Lib.hid h0
  have HO := Lib.hid ho
  clear h0 ho
  go_enter Try.func24, Try.ntmps24
  go_wp2_with fail
  go_loop [5] (fun i => ∃ k : Nat, k ≤ s.size ∧ i = .int .i64 (k : Int) ∧ NoB s.data.toList 125 k) (fun i => s.size - (intOf i).toNat)
  case atStart => exact ⟨0, Nat.zero_le _, rfl, NoB.zero _ _⟩
  case round =>
    obtain ⟨k, hk, rfl, hN⟩ := hrel
    have HN := Lib.hid hN; clear hN
    by_cases hlt : k < s.size
    · have k1 : (k : Int) < (s.size : Int) := by omega
      have k0 : (0 : Int) ≤ (k : Int) := by omega
      have HE := Lib.hid (Lib.data_getElem? s k hlt)
      obtain ⟨c, hc⟩ : ∃ c, s[k] = c := ⟨_, rfl⟩
      rw [hc] at HE
      by_cases hq : c = 125
      · subst hq
        have q1 : (((125 : UInt8).toNat : Int) != 125) = false := rfl
        obtain ⟨m, rfl⟩ : ∃ m, k = m + 1 := by
          rcases Nat.eq_zero_or_pos k with e | e
          · subst e; have := H0.out; rw [HE.out] at this; cases this
          · exact ⟨k - 1, by omega⟩
        have HC := Lib.hid (HN.out.drop.cut (show (s.data.toList.drop 1)[m]? = some 125 from by rw [List.getElem?_drop, show 1 + m = m + 1 by omega]; exact HE.out))
        have HM1 := Lib.hid (show ((m + 1 : Nat) : Int) = (m : Int) + 1 from by omega)
        have k2 : (1 : Int) ≤ (m : Int) + 1 := by omega
        have k3 : (m : Int) + 1 ≤ (s.size : Int) := by omega
        have k4 : (m : Int) + 1 < (s.size : Int) := by omega
        have k5 : (0 : Int) ≤ (m : Int) + 1 := by omega
        have HI := Lib.hid (show (s.extract 1 (m + 1)).data.toList = (s.data.toList.drop 1).take m from by rw [Lib.extract_data]; rfl)
        have HIZ := Lib.hid (show (s.extract 1 (m + 1)).size = m from by rw [ByteArray.size_extract]; omega)
        have HCO := Lib.hid (show countL (s.data.toList.drop 1) = o ∧ True from ⟨HO.out, trivial⟩)
        clear HN
        go_wp2_with fail
        clear q1 hc
        generalize s.extract 1 (m + 1) = y at *
        have HYL := Lib.hid (sz_data y)
        have hyz : y.size = m := HIZ.out
        have HCL := Lib.hid (show ∀ r : Option (Nat × Int × Int), (if (numL (cut1 44 y.data.toList).1 99).2 ≠ 0 then none else if (cut1 44 y.data.toList).2.2 = false then some (m, (numL (cut1 44 y.data.toList).1 99).1, (numL (cut1 44 y.data.toList).1 99).1)
          else if (cut1 44 y.data.toList).2.1 = [] then some (m, (numL (cut1 44 y.data.toList).1 99).1, -1)
          else if (numL (cut1 44 y.data.toList).2.1 99).2 ≠ 0 ∨ (numL (cut1 44 y.data.toList).2.1 99).1 < (numL (cut1 44 y.data.toList).1 99).1 then none else some (m, (numL (cut1 44 y.data.toList).1 99).1, (numL (cut1 44 y.data.toList).2.1 99).1)) = r → o = r from fun r hr => by
          rw [← HO.out, ← hr]
          unfold countL
          rw [HC.out]
          simp only
          rw [if_neg (by simp), ← HI.out, HYL.out, hyz])
        clear HC HO HI HIZ
        subst hyz
        go_loop [7] (fun i => ∃ j : Nat, j ≤ y.size ∧ i = .int .i64 (j : Int) ∧ NoB y.data.toList 44 j) (fun i => y.size - (intOf i).toNat)
        case atStart => exact ⟨0, Nat.zero_le _, rfl, NoB.zero _ _⟩
        case round =>
          obtain ⟨j, hj, rfl, hN⟩ := hrel
          have HN := Lib.hid hN; clear hN
          have j3 : (j : Int) ≤ (y.size : Int) := by omega
          have j0 : (0 : Int) ≤ (j : Int) := by omega
          have HL := Lib.hid (show (y.extract 0 j).data.toList = y.data.toList.take j from by rw [Lib.extract_data]; simp)
          have HLZ := Lib.hid (show (y.extract 0 j).size ≤ 281474976710656 from by rw [ByteArray.size_extract]; omega)
          by_cases hlj : j < y.size
          · have j1 : (j : Int) < (y.size : Int) := by omega
            have HE2 := Lib.hid (Lib.data_getElem? y j hlj)
            obtain ⟨d, hd⟩ : ∃ d, y[j] = d := ⟨_, rfl⟩
            rw [hd] at HE2
            by_cases hq2 : d = 44
            · subst hq2
              have q2 : (((44 : UInt8).toNat : Int) != 44) = false := rfl
              have HC2 := Lib.hid (HN.out.cut HE2.out)
              rw [HC2.out] at HCL
              simp only at HCL
              have j2 : ((j : Int) == (y.size : Int)) = false := by simp; omega
              have j4 : (j : Int) + 1 ≤ (y.size : Int) := by omega
              have j5 : (0 : Int) ≤ (j : Int) + 1 := by omega
              have HJ1 := Lib.hid (show ((j : Int) + 1).toNat = j + 1 from by omega)
              have HR := Lib.hid (show (y.extract (j + 1) y.size).data.toList = y.data.toList.drop (j + 1) from by rw [Lib.extract_data, ← HYL.out, ← List.length_drop, List.take_length])
              have HRZ := Lib.hid (show (y.extract (j + 1) y.size).size ≤ 281474976710656 from by rw [ByteArray.size_extract]; omega)
              obtain ⟨lo, e1, hlo⟩ : ∃ lo e1, numL (y.data.toList.take j) 99 = (lo, e1) := ⟨_, _, rfl⟩
              rw [hlo] at HCL
              have HN1 := Lib.hid (fun w => show Calls Try.prog 36 #[.string (y.extract 0 j), .int .i64 99] w fun e w' => e = .returned (.tuple #[.int .i64 lo, .int .i64 e1]) ∧ w' = w from by
                have h := rnum_any (y.extract 0 j) 99 w HLZ.out (by decide) (by decide)
                rw [HL.out, hlo] at h; exact h)
              clear hlo
              by_cases he1 : e1 = 0
              · subst he1
                rw [if_neg (by simp), if_neg (by simp)] at HCL
                by_cases hjl : j + 1 = y.size
                · have j6 : ((j : Int) + 1 == (y.size : Int)) = true := by simp; omega
                  have HF := Lib.hid (HCL.out _ (by rw [if_pos (List.drop_of_length_le (by have := HYL.out; omega))]))
                  clear hjl
                  go_wp2_with (first | (go_at_call 36; (with_reducible refine (HN1.out _).mono ?_); rintro e w' ⟨rfl, rfl⟩) | fail)
                  exact bodyPost_ret (v := .tuple #[.int .i64 lo, .int .i64 (-1), .int .i64 ((y.size : Int) + 1 + 1)]) (by simp [results, Try.results24, go_sem]) rfl (RcPost.yes HF.out (by omega))
                · have j6 : ((j : Int) + 1 == (y.size : Int)) = false := by simp; omega
                  have hne : y.data.toList.drop (j + 1) ≠ [] := fun h => by have := congrArg List.length h; rw [List.length_drop] at this; have := HYL.out; simp at *; omega
                  rw [if_neg hne] at HCL
                  clear hjl hne
                  obtain ⟨hi, e2, hhi⟩ : ∃ hi e2, numL (y.data.toList.drop (j + 1)) 99 = (hi, e2) := ⟨_, _, rfl⟩
                  rw [hhi] at HCL
                  have HN2 := Lib.hid (fun w => show Calls Try.prog 36 #[.string (y.extract (j + 1) y.size), .int .i64 99] w fun e w' => e = .returned (.tuple #[.int .i64 hi, .int .i64 e2]) ∧ w' = w from by
                    have h := rnum_any (y.extract (j + 1) y.size) 99 w HRZ.out (by decide) (by decide)
                    rw [HR.out, hhi] at h; exact h)
                  clear hhi
                  by_cases he2 : e2 = 0
                  · subst he2
                    by_cases hlt2 : hi < lo
                    · have HF := Lib.hid (HCL.out _ (if_pos (.inr hlt2)))
                      go_wp2_with (first | (go_at_call 36; (with_reducible refine (HN1.out _).mono ?_); rintro e w' ⟨rfl, rfl⟩) | (go_at_call 36; (with_reducible refine (HN2.out _).mono ?_); rintro e w' ⟨rfl, rfl⟩) | fail)
                      exact bodyPost_ret (v := .tuple #[.int .i64 0, .int .i64 0, .int .i64 0]) (by simp [results, Try.results24, go_sem]) rfl (RcPost.no HF.out)
                    · have HF := Lib.hid (HCL.out _ (if_neg (fun h => by rcases h with h | h; exact h rfl; exact hlt2 h)))
                      go_wp2_with (first | (go_at_call 36; (with_reducible refine (HN1.out _).mono ?_); rintro e w' ⟨rfl, rfl⟩) | (go_at_call 36; (with_reducible refine (HN2.out _).mono ?_); rintro e w' ⟨rfl, rfl⟩) | fail)
                      exact bodyPost_ret (v := .tuple #[.int .i64 lo, .int .i64 hi, .int .i64 ((y.size : Int) + 1 + 1)]) (by simp [results, Try.results24, go_sem]) rfl (RcPost.yes HF.out (by omega))
                  · have j7 : (e2 == 0) = false := by simpa using he2
                    have HF := Lib.hid (HCL.out _ (if_pos (.inl he2)))
                    go_wp2_with (first | (go_at_call 36; (with_reducible refine (HN1.out _).mono ?_); rintro e w' ⟨rfl, rfl⟩) | (go_at_call 36; (with_reducible refine (HN2.out _).mono ?_); rintro e w' ⟨rfl, rfl⟩) | fail)
                    exact bodyPost_ret (v := .tuple #[.int .i64 0, .int .i64 0, .int .i64 0]) (by simp [results, Try.results24, go_sem]) rfl (RcPost.no HF.out)
              · have j7 : (e1 == 0) = false := by simpa using he1
                have HF := Lib.hid (HCL.out _ (if_pos he1))
                go_wp2_with (first | (go_at_call 36; (with_reducible refine (HN1.out _).mono ?_); rintro e w' ⟨rfl, rfl⟩) | fail)
                exact bodyPost_ret (v := .tuple #[.int .i64 0, .int .i64 0, .int .i64 0]) (by simp [results, Try.results24, go_sem]) rfl (RcPost.no HF.out)
            · have q2 : ((d.toNat : Int) != 44) = true := neB d 44 (by decide) hq2
              have HF := HN.out.step HE2.out hq2
              go_wp2_with fail
              exact ⟨⟨j + 1, by omega, by go_num, HF⟩, by simp only [intOf]; omega⟩
          · obtain rfl : j = y.size := by omega
            have HC2 := Lib.hid (HN.out.none (by have := HYL.out; omega))
            rw [HC2.out] at HCL
            simp only at HCL
            obtain ⟨lo, e1, hlo⟩ : ∃ lo e1, numL y.data.toList 99 = (lo, e1) := ⟨_, _, rfl⟩
            rw [hlo] at HCL
            have HN1 := Lib.hid (fun w => show Calls Try.prog 36 #[.string y, .int .i64 99] w fun e w' => e = .returned (.tuple #[.int .i64 lo, .int .i64 e1]) ∧ w' = w from by
              have h := rnum_any y 99 w (by omega) (by decide) (by decide)
              rw [hlo] at h; exact h)
            clear hlo
            have j1 : ¬ (y.size : Int) < (y.size : Int) := by omega
            by_cases he1 : e1 = 0
            · subst he1
              have HF := Lib.hid (HCL.out (some (y.size, lo, lo)) (by simp))
              go_wp2_with (first | (go_at_call 36; (with_reducible refine (HN1.out _).mono ?_); rintro e w' ⟨rfl, rfl⟩) | fail)
              exact bodyPost_ret (v := .tuple #[.int .i64 lo, .int .i64 lo, .int .i64 ((y.size : Int) + 1 + 1)]) (by simp [results, Try.results24, go_sem]) rfl (RcPost.yes HF.out (by omega))
            · have j7 : (e1 == 0) = false := by simpa using he1
              have HF := Lib.hid (HCL.out _ (if_pos he1))
              go_wp2_with (first | (go_at_call 36; (with_reducible refine (HN1.out _).mono ?_); rintro e w' ⟨rfl, rfl⟩) | fail)
              exact bodyPost_ret (v := .tuple #[.int .i64 0, .int .i64 0, .int .i64 0]) (by simp [results, Try.results24, go_sem]) rfl (RcPost.no HF.out)
      · have q1 : ((c.toNat : Int) != 125) = true := neB c 125 (by decide) hq
        have HF := HN.out.step HE.out hq
        go_wp2_with fail
        exact ⟨⟨k + 1, by omega, by go_num, HF⟩, by simp only [intOf]; omega⟩
    · obtain rfl : k = s.size := by omega
      have HF := Lib.hid (show o = none from by
        rw [← HO.out]
        unfold countL
        have h1 : 0 < s.size := by
          rcases Nat.eq_zero_or_pos s.size with e | e
          · have := H0.out; rw [List.getElem?_eq_none (by have := HZ.out; omega)] at this; cases this
          · exact e
        obtain ⟨n, hn⟩ : ∃ n, s.size = n + 1 := ⟨s.size - 1, by omega⟩
        have h2 := HN.out
        rw [hn] at h2
        rw [h2.drop.none (by rw [List.length_drop, HZ.out]; omega)]
        rfl)
      go_wp2_with fail
      exact bodyPost_ret (v := .tuple #[.int .i64 0, .int .i64 0, .int .i64 0]) (by simp [results, Try.results24, go_sem]) rfl (RcPost.no HF.out)
theorem rcount_any (s : ByteArray) (w : World) (hs : s.size ≤ 1000000) (h0 : s.data.toList[0]? = some 123) : Calls Try.prog 24 #[.string s] w (RcPost (countL (s.data.toList.drop 1)) w) := rcount_core s _ w hs h0 rfl
end Go.Proofs.Ytidcoldoalimfaa
