/- The contracts of bonsairef06's skip, all, signs. -/
import Derived.Test.YtidcoldoalimfaaLq
import Derived.Test.YtidcoldoalimfaaLk
import Derived.Test.YtidcoldoalimfaaMc
namespace Go.Proofs.Ytidcoldoalimfaa
open Go.RowKit
set_option linter.unusedSimpArgs false
set_option linter.unusedVariables false

theorem in_next {s : List UInt8} {k : Nat} {c : UInt8} (h : s[k]? = some c) (hc : c ≠ 10) : k + skipM true (s.drop k) = k + 1 + skipM true (s.drop (k + 1)) := by
  have hl := (List.getElem?_eq_some_iff.1 h).1
  rw [List.drop_eq_getElem_cons hl]
  have e : s[k] = c := by rw [List.getElem?_eq_getElem hl] at h; exact Option.some.inj h
  rw [e]
  simp only [skipM]
  rw [show (c != 10) = true from by simpa using hc]
  omega
theorem in_line {s : List UInt8} {k : Nat} (h : s[k]? = some 10) : k + skipM true (s.drop k) = nextL s k := by
  have hl := (List.getElem?_eq_some_iff.1 h).1
  unfold nextL
  rw [List.drop_eq_getElem_cons hl]
  have e : s[k] = 10 := by rw [List.getElem?_eq_getElem hl] at h; exact Option.some.inj h
  rw [e]
  simp [skipM, partB]
theorem in_end {s : List UInt8} {k : Nat} (h : s.length ≤ k) : k + skipM true (s.drop k) = nextL s k := by
  rw [next_end h, List.drop_eq_nil_of_le h]; simp [skipM]
def SkipPost (s : List UInt8) (a : Nat) (w : World) (e : Ending) (w' : World) : Prop := e = .returned (.int .i64 (nextL s a : Int)) ∧ w = w'
set_option maxRecDepth 100000 in
set_option maxHeartbeats 1600000 in
theorem rskip_any (s : ByteArray) (a : Nat) (w : World) (ha : a ≤ s.size) (hs : s.size ≤ 1000000) : Calls Try.prog 15 #[.string s, .int .i64 (a : Int)] w (SkipPost s.data.toList a w) := by
  have HZ := Lib.hid (sz_data s)
  go_enter Try.func15, Try.ntmps15
  go_wp2_with fail
  go_loop [1] (fun i => ∃ k : Nat, k ≤ s.size ∧ i = .int .i64 (k : Int) ∧ Hid (nextL s.data.toList a = nextL s.data.toList k)) (fun i => s.size - (intOf i).toNat)
  case atStart => exact ⟨a, ha, rfl, Lib.hid rfl⟩
  case round =>
    obtain ⟨k, hk, rfl, HN⟩ := hrel
    by_cases hlt : k < s.size
    · have k1 : (k : Int) < (s.size : Int) := by omega
      have k0 : (0 : Int) ≤ (k : Int) := by omega
      have HE := Lib.hid (Lib.data_getElem? s k hlt)
      obtain ⟨c, hc⟩ : ∃ c, s[k] = c := ⟨_, rfl⟩
      rw [hc] at HE
      by_cases h35 : c = 35
      · subst h35
        have q1 : (((35 : UInt8).toNat : Int) == 35) = true := rfl
        have HC := Lib.hid (next_comment HE.out)
        go_wp2_with fail
        go_loop [1] (fun i => ∃ m : Nat, k ≤ m ∧ m ≤ s.size ∧ i = .int .i64 (m : Int) ∧ Hid (nextL s.data.toList a = m + skipM true (s.data.toList.drop m)) ∧ Hid (m = k → s.data.toList[m]? = some 35)) (fun i => s.size - (intOf i).toNat)
        case atStart => exact ⟨k, Nat.le_refl _, hk, rfl, Lib.hid (HN.out.trans HC.out), Lib.hid (fun _ => HE.out)⟩
        case round =>
          obtain ⟨m, hkm, hm, rfl, HM, HH⟩ := hrel
          by_cases hlm : m < s.size
          · have m1 : (m : Int) < (s.size : Int) := by omega
            have m0 : (0 : Int) ≤ (m : Int) := by omega
            have HE2 := Lib.hid (Lib.data_getElem? s m hlm)
            obtain ⟨d, hd⟩ : ∃ d, s[m] = d := ⟨_, rfl⟩
            rw [hd] at HE2
            by_cases h10 : d = 10
            · subst h10
              have q2 : (((10 : UInt8).toNat : Int) != 10) = false := rfl
              have HF := Lib.hid (HM.out.trans (in_line HE2.out))
              have hne : m ≠ k := fun e => by have := HH.out e; rw [HE2.out] at this; cases this
              go_wp2_with fail
              exact ⟨⟨m, hm, rfl, HF⟩, by simp only [intOf]; omega⟩
            · have q2 : ((d.toNat : Int) != 10) = true := neB d 10 (by decide) h10
              have HF := Lib.hid (HM.out.trans (in_next HE2.out h10))
              go_wp2_with fail
              exact ⟨⟨m + 1, by omega, by omega, by go_num, HF, Lib.hid (fun e => by omega)⟩, by simp only [intOf]; omega⟩
          · obtain rfl : m = s.size := by omega
            have HF := Lib.hid (HM.out.trans (in_end (by have := HZ.out; omega)))
            go_wp2_with fail
            exact ⟨⟨s.size, Nat.le_refl _, rfl, HF⟩, by simp only [intOf]; omega⟩
      · have q1 : ((c.toNat : Int) == 35) = false := (eqB c 35 (by decide)).trans (decide_eq_false h35)
        by_cases hp : partB c = true
        · have HF := Lib.hid (HN.out.trans (next_part HE.out hp))
          have hq : c = 32 ∨ c = 9 ∨ c = 13 ∨ c = 10 := by simpa [partB, or_assoc] using hp
          clear hp h35
          rcases hq with rfl | rfl | rfl | rfl
          all_goals
            go_wp2_with fail
            exact ⟨⟨k + 1, by omega, by go_num, HF⟩, by simp only [intOf]; omega⟩
        · have hq : c ≠ 32 ∧ c ≠ 9 ∧ c ≠ 13 ∧ c ≠ 10 := by
            refine ⟨?_, ?_, ?_, ?_⟩ <;> (rintro rfl; exact hp rfl)
          have HF := Lib.hid (HN.out.trans (next_here HE.out (by simpa using hp) h35))
          have n1 : ((c.toNat : Int) != 32) = true := neB c 32 (by decide) hq.1
          have n2 : ((c.toNat : Int) != 9) = true := neB c 9 (by decide) hq.2.1
          have n3 : ((c.toNat : Int) != 13) = true := neB c 13 (by decide) hq.2.2.1
          have n4 : ((c.toNat : Int) != 10) = true := neB c 10 (by decide) hq.2.2.2
          clear hp h35 hq
          go_wp2_with fail
          exact bodyPost_ret (v := .int .i64 (k : Int)) (by simp [results, Try.results15, go_sem]) rfl ⟨by rw [HF.out], rfl⟩
    · obtain rfl : k = s.size := by omega
      have HF := Lib.hid (HN.out.trans (next_end (by have := HZ.out; omega)))
      go_wp2_with fail
      exact bodyPost_ret (v := .int .i64 (s.size : Int)) (by simp [results, Try.results15, go_sem]) rfl ⟨by rw [HF.out], rfl⟩
/-- The words that are themselves. -/
def sigL : List (List UInt8) := [[], [], [60, 45], [47], [38], [33], [63], [42], [43], [40], [41], [60], [62], [58]]
def sigV : Array Value := #[.string ⟨#[]⟩, .string ⟨#[]⟩, .string ⟨#[60, 45]⟩, .string ⟨#[47]⟩, .string ⟨#[38]⟩, .string ⟨#[33]⟩, .string ⟨#[63]⟩, .string ⟨#[42]⟩, .string ⟨#[43]⟩, .string ⟨#[40]⟩, .string ⟨#[41]⟩, .string ⟨#[60]⟩, .string ⟨#[62]⟩, .string ⟨#[58]⟩]
def SignsPost (w : World) (e : Ending) (w' : World) : Prop := ∃ g, e = .returned (.slice (some ⟨g, 0, none⟩) 14 14) ∧ w'.heap[g]? = some (.cells sigV 9 (0, 0)) ∧ Below w.heap.size w w'
set_option maxHeartbeats 800000 in
theorem rsigns_any (w : World) : Calls Try.prog 25 #[] w (SignsPost w) := by
  have HB := Lib.hid (bx1 w (.cells sigV 9))
  have HN := Lib.hid (bx_new w (.cells sigV 9))
  unfold SignsPost sigV at *
  go_enter Try.func25, Try.ntmps25
  go_wp2_with fail
  exact bodyPost_ret (v := .slice (some ⟨w.heap.size, 0, none⟩) 14 14) (by simp [results, Try.results25, go_sem]) rfl ⟨w.heap.size, rfl, HN.out, HB.out⟩
def AllPost (w : World) (e : Ending) (w' : World) : Prop := e = .returned (.agg #[.int .u64 18446744073709551615, .int .u64 18446744073709551615, .int .u64 18446744073709551615, .int .u64 18446744073709551615]) ∧ Below w.heap.size w w'
set_option maxHeartbeats 800000 in
theorem rall6_any (w : World) : Calls Try.prog 23 #[] w (AllPost w) := by
  have HR0 := Lib.hid (bx_new w (.cells (fourC 0 0 0 0) 33))
  have HB0 := Lib.hid (bx1 w (.cells (fourC 0 0 0 0) 33))
  obtain ⟨d0, d1, d2, d3, df⟩ := blk4 HR0.out
  have g0 := df 0; have g1 := df 1; have g2 := df 2; have g3 := df 3
  clear df
  go_enter Try.func23, Try.ntmps23
  go_wp2_with fail
  have HK := Lib.hid (bx_new w (.cells #[.int .u64 18446744073709551615, .int .u64 18446744073709551615, .int .u64 18446744073709551615, .int .u64 18446744073709551615] 33))
  have HB := Lib.hid (bx1 w (.cells #[.int .u64 18446744073709551615, .int .u64 18446744073709551615, .int .u64 18446744073709551615, .int .u64 18446744073709551615] 33))
  clear d0 d1 d2 d3 g0 g1 g2 g3 HR0 HB0
  generalize (w.alloc (.cells #[.int .u64 18446744073709551615, .int .u64 18446744073709551615, .int .u64 18446744073709551615, .int .u64 18446744073709551615] 33)) = w1 at *
  obtain ⟨d0, d1, d2, d3, _⟩ := blk4 HK.out
  exact bodyPost_ret (v := .agg #[.int .u64 18446744073709551615, .int .u64 18446744073709551615, .int .u64 18446744073709551615, .int .u64 18446744073709551615]) (by simp [results, Try.results23, go_sem, d0, d1, d2, d3]) rfl ⟨rfl, HB.out⟩
end Go.Proofs.Ytidcoldoalimfaa
