/- The contracts of bonsairef03's digit, within, Sign and Literal. -/
import Derived.Test.YtdcgbcdmkhleoaaDoorUb
import Derived.Test.YtdcgbcdmkhleoaaDoorUe
import Derived.Lib.SmallJoins
namespace Go.Proofs.YtdcgbcdmkhleoaaDoor
open Go.RowKit
set_option linter.unusedSimpArgs false
set_option linter.unusedVariables false

theorem hex_at : ∀ n : Nat, n < 16 → (⟨#[48, 49, 50, 51, 52, 53, 54, 55, 56, 57, 97, 98, 99, 100, 101, 102]⟩ : ByteArray).extract n (n + 1) = ⟨#[hexB n]⟩ := by
  intro n h
  have hc : n = 0 ∨ n = 1 ∨ n = 2 ∨ n = 3 ∨ n = 4 ∨ n = 5 ∨ n = 6 ∨ n = 7 ∨ n = 8 ∨ n = 9 ∨ n = 10 ∨ n = 11 ∨ n = 12 ∨ n = 13 ∨ n = 14 ∨ n = 15 := by omega
  rcases hc with rfl | rfl | rfl | rfl | rfl | rfl | rfl | rfl | rfl | rfl | rfl | rfl | rfl | rfl | rfl | rfl <;> rfl
set_option maxHeartbeats 800000 in
theorem digit3_any (n : Nat) (hn : n < 16) (w : World) :
    Calls Tryd.prog 116 #[.int .i64 n] w fun e w' => w = w' ∧ e = .returned (.string ⟨#[hexB n]⟩) := by
  have HX := Lib.hid (hex_at n hn)
  have i1 : (0 : Int) ≤ (n : Int) := by omega
  have i2 : (n : Int) + 1 ≤ 16 := by omega
  have i3 : (n : Int) ≤ (n : Int) + 1 := by omega
  go_enter Tryd.func116, Tryd.ntmps116
  go_wp2_with fail
  go_ret
  exact ⟨rfl, by rw [← HX.out]; try rfl⟩
theorem digit3_at (z : Int) (n : Nat) (hz : z = (n : Int)) (hn : n < 16) (w : World) :
    Calls Tryd.prog 116 #[.int .i64 z] w fun e w' => w = w' ∧ e = .returned (.string ⟨#[hexB n]⟩) := by
  subst hz; exact digit3_any n hn w
theorem mem_take_at (s : ByteArray) (k : Nat) (hk : k < s.size) (b : UInt8) : b ∈ s.data.toList.take (k + 1) ↔ b ∈ s.data.toList.take k ∨ s[k] = b := by
  have h : k < s.data.toList.length := hk
  rw [List.take_add_one, List.getElem?_eq_getElem h, List.mem_append]
  simp only [Option.toList_some, List.mem_singleton]
  exact or_congr Iff.rfl ⟨fun e => e.symm, fun e => e.symm⟩
set_option maxHeartbeats 800000 in
theorem within3_core (b : UInt8) (s : ByteArray) (w : World) (hs : s.size ≤ 1000) (r : Bool) (HR : Hid (r = decide (b ∈ s.data.toList))) :
    Calls Tryd.prog 117 #[.int .u8 b.toNat, .string s] w fun e w' => w = w' ∧ e = .returned (.bool r) := by
  go_enter Tryd.func117, Tryd.ntmps117
  go_wp2_with fail
  go_loop [5] (fun v5 => ∃ k : Nat, k ≤ s.size ∧ v5 = .int .i64 k ∧ Hid (b ∉ s.data.toList.take k)) (fun v5 => s.size - (intOf v5).toNat)
  case atStart => exact ⟨0, Nat.zero_le _, rfl, Lib.hid (by simp)⟩
  case round =>
    obtain ⟨k, hk, rfl, HN⟩ := hrel
    by_cases hlt : k < s.size
    · have i1 : (k : Int) < (s.size : Int) := by omega
      have i2 : (0 : Int) ≤ (k : Int) := by omega
      by_cases he : s[k] = b
      · have i3 : ((s[k].toNat : Int) == (b.toNat : Int)) = true := by rw [he]; simp
        have HD := Lib.hid (show b ∈ s.data.toList from List.mem_of_mem_take ((mem_take_at s k hlt b).2 (.inr he)))
        clear he
        go_wp2_with fail
        go_ret
        exact ⟨rfl, ret_bool (show true = r from by rw [HR.out, decide_eq_true HD.out])⟩
      · have i3 : ((s[k].toNat : Int) == (b.toNat : Int)) = false := by
          rw [beq_eq_false_iff_ne]
          intro h
          exact he (UInt8.toNat_inj.1 (by omega))
        have HD := Lib.hid (show b ∉ s.data.toList.take (k + 1) from fun h => ((mem_take_at s k hlt b).1 h).elim HN.out he)
        clear he
        go_wp2_with fail
        exact ⟨⟨k + 1, hlt, by go_num, HD⟩, by simp [intOf]; omega⟩
    · obtain rfl : k = s.size := by omega
      go_wp2_with fail
      go_ret
      have HD := Lib.hid (show b ∉ s.data.toList from fun h => HN.out (by rwa [List.take_of_length_le (show s.data.toList.length ≤ s.size from Nat.le_refl _)]))
      exact ⟨rfl, ret_bool (show false = r from by rw [HR.out, decide_eq_false HD.out])⟩
theorem within3_any (b : UInt8) (s : ByteArray) (w : World) (hs : s.size ≤ 1000) :
    Calls Tryd.prog 117 #[.int .u8 b.toNat, .string s] w fun e w' => w = w' ∧ e = .returned (.bool (decide (b ∈ s.data.toList))) :=
  within3_core b s w hs _ (Lib.hid rfl)

theorem str1 (b : UInt8) : strOfNums [(b.toNat : Int)] = ⟨#[b]⟩ := by simp [strOfNums]
set_option maxRecDepth 100000 in
set_option maxHeartbeats 1600000 in
theorem sign3_any (b : UInt8) (sp : ByteArray) (w : World) (hs : sp.size ≤ 1000) :
    Calls Tryd.prog 100 #[.int .u8 b.toNat, .string sp] w fun e w' => e = .returned (.string ⟨(signR sp.data.toList b).toArray⟩) ∧ Below w.heap.size w w' := by
  have hcv := conv1
  have hs1 : ∀ x : Int, (strOfNums [x]).size = 1 := fun x => strOfNums_size [x]
  have hb := b.toNat_lt
  by_cases h10 : b = 10
  · subst h10
    go_enter Tryd.func100, Tryd.ntmps100
    go_wp2_with fail
    go_ret
    exact ⟨by simp [signR], Below.refl _ _⟩
  by_cases h13 : b = 13
  · subst h13
    go_enter Tryd.func100, Tryd.ntmps100
    go_wp2_with fail
    go_ret
    exact ⟨by simp [signR], Below.refl _ _⟩
  by_cases h9 : b = 9
  · subst h9
    go_enter Tryd.func100, Tryd.ntmps100
    go_wp2_with fail
    go_ret
    exact ⟨by simp [signR], Below.refl _ _⟩
  have e10 : ((b.toNat : Int) == 10) = false := by
    rw [beq_eq_false_iff_ne]; intro h; exact h10 (UInt8.toNat_inj.1 (by show b.toNat = 10; omega))
  have e13 : ((b.toNat : Int) == 13) = false := by
    rw [beq_eq_false_iff_ne]; intro h; exact h13 (UInt8.toNat_inj.1 (by show b.toNat = 13; omega))
  have e9 : ((b.toNat : Int) == 9) = false := by
    rw [beq_eq_false_iff_ne]; intro h; exact h9 (UInt8.toNat_inj.1 (by show b.toNat = 9; omega))
  by_cases hp : b.toNat < 32 ∨ 126 < b.toNat
  · have HS := Lib.hid (show signR sp.data.toList b = [92, 120, hexB (b.toNat / 16), hexB (b.toNat % 16)] from by
      unfold signR; rw [if_neg h10, if_neg h13, if_neg h9, if_pos hp])
    clear h10 h13 h9
    rcases hp with hp | hp
    · have i1 : (b.toNat : Int) < 32 := by omega
      go_enter Tryd.func100, Tryd.ntmps100
      go_wp2_with (go_at_call 116; first | (refine (digit3_at _ (b.toNat / 16) (by omega) (by omega) _).mono ?_; rintro e w5 ⟨rfl, rfl⟩) | (refine (digit3_at _ (b.toNat % 16) (by omega) (by omega) _).mono ?_; rintro e w5 ⟨rfl, rfl⟩))
      go_ret
      exact ⟨by rw [HS.out]; try rfl, Below.refl _ _⟩
    · have i1 : ¬ (b.toNat : Int) < 32 := by omega
      have i2 : 126 < (b.toNat : Int) := by omega
      go_enter Tryd.func100, Tryd.ntmps100
      go_wp2_with (go_at_call 116; first | (refine (digit3_at _ (b.toNat / 16) (by omega) (by omega) _).mono ?_; rintro e w5 ⟨rfl, rfl⟩) | (refine (digit3_at _ (b.toNat % 16) (by omega) (by omega) _).mono ?_; rintro e w5 ⟨rfl, rfl⟩))
      go_ret
      exact ⟨by rw [HS.out]; try rfl, Below.refl _ _⟩
  · have i1 : ¬ (b.toNat : Int) < 32 := by omega
    have i2 : ¬ 126 < (b.toNat : Int) := by omega
    have HW := Lib.hid (within3_any b sp w hs)
    have HS0 := Lib.hid (show signR sp.data.toList b = if b ∈ sp.data.toList then [92, b] else [b] from by
      unfold signR; rw [if_neg h10, if_neg h13, if_neg h9, if_neg hp])
    have H1 := Lib.hid (str1 b)
    clear h10 h13 h9 hp
    by_cases hm : b ∈ sp.data.toList
    · have HS := Lib.hid (HS0.out.trans (if_pos hm))
      rw [decide_eq_true hm] at HW
      clear hm HS0
      go_enter Tryd.func100, Tryd.ntmps100
      go_wp2_with (go_at_call 117; refine HW.out.mono ?_; rintro e w5 ⟨rfl, rfl⟩)
      go_ret
      exact ⟨by rw [HS.out, H1.out]; try rfl, (Below.refl _ _).alloc (Nat.le_refl _) _⟩
    · have HS := Lib.hid (HS0.out.trans (if_neg hm))
      rw [decide_eq_false hm] at HW
      clear hm HS0
      go_enter Tryd.func100, Tryd.ntmps100
      go_wp2_with (go_at_call 117; refine HW.out.mono ?_; rintro e w5 ⟨rfl, rfl⟩)
      go_ret
      exact ⟨by rw [HS.out, H1.out]; try rfl, (Below.refl _ _).alloc (Nat.le_refl _) _⟩

theorem signR_lit (b : UInt8) : signR [34, 92] b = signB [34] b := signR_eq [34] [34, 92] (fun x => by simp only [List.mem_cons, List.not_mem_nil, or_false]; exact or_comm) (fun x hx => by
  simp only [List.mem_cons, List.not_mem_nil, or_false] at hx
  rcases hx with rfl | rfl <;> decide) b
theorem signR_class (b : UInt8) : signR [93, 45, 94, 92] b = signB [93, 45, 94] b := signR_eq [93, 45, 94] [93, 45, 94, 92] (fun x => by
  simp only [List.mem_cons, List.not_mem_nil, or_false]
  constructor
  · rintro (h | h | h | h) <;> simp [h]
  · rintro (h | h | h | h) <;> simp [h]) (fun x hx => by
  simp only [List.mem_cons, List.not_mem_nil, or_false] at hx
  rcases hx with rfl | rfl | rfl | rfl <;> decide) b
/-- The literal's signs, of the first k bytes. -/
def litK (s : ByteArray) (k : Nat) : List UInt8 := (s.data.toList.take k).flatMap (signB [34])
theorem litK_len (s : ByteArray) (k : Nat) : (litK s k).length ≤ k * 4 := by
  have h := flat_len (signB [34]) 4 (s.data.toList.take k) fun x _ => (signB_len [34] x).2
  have h2 : (s.data.toList.take k).length ≤ k := by simp; omega
  unfold litK
  omega
theorem litK_succ (s : ByteArray) (k : Nat) (hk : k < s.size) : litK s (k + 1) = litK s k ++ signB [34] s[k] := by
  have h : k < s.data.toList.length := hk
  unfold litK
  rw [List.take_add_one, List.getElem?_eq_getElem h, List.flatMap_append]
  simp only [Option.toList_some, List.flatMap_cons, List.flatMap_nil, List.append_nil]
  rfl
set_option maxHeartbeats 1600000 in
theorem rlit_any (s : ByteArray) (w : World) (hs : s.size ≤ 1000000) :
    Calls Tryd.prog 83 #[.string s] w fun e w' => e = .returned (.string ⟨(litB s.data.toList).toArray⟩) ∧ Below w.heap.size w w' := by
  go_enter Tryd.func83, Tryd.ntmps83
  go_wp2_with fail
  go_loopw [3, 4] (fun v3 v4 wr => ∃ (k : Nat) (o : ByteArray), k ≤ s.size ∧ v4 = .int .i64 k ∧ v3 = .string o ∧ o.size ≤ k * 4 ∧ Hid (o = ⟨(litK s k).toArray⟩) ∧ Hid (Below w.heap.size w wr)) (fun _ v4 _ => s.size - (intOf v4).toNat)
  case atStart => exact ⟨0, ByteArray.empty, Nat.zero_le _, rfl, rfl, Nat.le_refl _, Lib.hid (by simp [litK]; rfl), Lib.hid (Below.refl _ _)⟩
  case round =>
    obtain ⟨k, o, hk, rfl, rfl, hol, HO, HB⟩ := hrel
    by_cases hlt : k < s.size
    · have i1 : (k : Int) < (s.size : Int) := by omega
      have i2 : (0 : Int) ≤ (k : Int) := by omega
      have HN := Lib.hid (show o ++ (⟨(signB [34] s[k]).toArray⟩ : ByteArray) = ⟨(litK s (k + 1)).toArray⟩ from by
        rw [HO.out, litK_succ s k hlt]
        exact ByteArray.ext (by simp))
      have HC := Lib.hid (sign3_any s[k] ⟨#[34, 92]⟩ wr (by decide))
      rw [show (⟨#[34, 92]⟩ : ByteArray).data.toList = [34, 92] from rfl, signR_lit] at HC
      have hsl : (⟨(signB [34] s[k]).toArray⟩ : ByteArray).size ≤ 4 := (signB_len [34] s[k]).2
      generalize (⟨(signB [34] s[k]).toArray⟩ : ByteArray) = z at *
      go_wp2_with (go_at_call 100; refine HC.out.mono ?_; rintro e w5 ⟨rfl, hb5⟩; have HB5 := Lib.hid (HB.out.trans (hb5.mono HB.out.size)); clear hb5)
      exact ⟨⟨k + 1, _, hlt, by go_num, rfl, by simp; omega, HN, HB5⟩, by simp [intOf]; omega⟩
    · obtain rfl : k = s.size := by omega
      have HN := Lib.hid (show (⟨#[34]⟩ ++ o ++ ⟨#[34]⟩ : ByteArray) = ⟨(litB s.data.toList).toArray⟩ from by
        rw [HO.out]
        unfold litK litB
        rw [List.take_of_length_le (show s.data.toList.length ≤ s.size from Nat.le_refl _)]
        exact ByteArray.ext (by simp))
      go_wp2_with fail
      go_ret
      exact ⟨by rw [← HN.out]; try rfl, HB.out⟩
end Go.Proofs.YtdcgbcdmkhleoaaDoor
