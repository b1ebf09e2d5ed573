/- The contract of bonsairef03's sign. -/
import Derived.Test.YtidcoldoalimfaaMa
import Derived.Test.YtidcoldoalimfaaLf
namespace Go.Proofs.Ytidcoldoalimfaa
open Go.RowKit
set_option linter.unusedSimpArgs false
set_option linter.unusedVariables false

/-- What the reference tells of a sign. -/
def sgRV : SR → Value
  | .ok b n => .tuple #[.int .u8 (b.toNat : Int), .int .i64 (n : Int), .int .i64 0]
  | .no p k => .tuple #[.int .u8 0, .int .i64 (p : Int), .int .i64 (k : Int)]
def RsPost (s : SR) (w : World) (e : Ending) (w' : World) : Prop := e = .returned (sgRV s) ∧ w = w'
theorem RsPost.of_no {s : SR} {w : World} {p k : Nat} {e : Ending} {z : Int} (h : s = .no p k) (hz : z = (p : Int)) (he : e = .returned (.tuple #[.int .u8 0, .int .i64 z, .int .i64 (k : Int)])) : RsPost s w e w := by subst h hz; exact ⟨he, rfl⟩
theorem RsPost.of_ok {s : SR} {w : World} {b : UInt8} {n : Nat} {e : Ending} {z y : Int} (h : s = .ok b n) (hz : z = (n : Int)) (hy : y = (b.toNat : Int)) (he : e = .returned (.tuple #[.int .u8 y, .int .i64 z, .int .i64 0])) : RsPost s w e w := by subst h hz hy; exact ⟨he, rfl⟩
def LeftOk (left : List UInt8) : Prop := left = [34] ∨ left = clsL
theorem LeftOk.nots {left : List UInt8} (h : LeftOk left) : (110 : UInt8) ∉ left ∧ (114 : UInt8) ∉ left ∧ (116 : UInt8) ∉ left := by
  rcases h with rfl | rfl <;> decide
theorem sg_none {left t : List UInt8} {a : Nat} (h : t[a]? = none) : signR left t a = .no t.length 8 := by unfold signR; rw [h]
theorem sg_low {left t : List UInt8} {a : Nat} {b : UInt8} (h : t[a]? = some b) (hb : b.toNat < 32 ∨ 126 < b.toNat) : signR left t a = .no a 4 := by
  unfold signR; rw [h]
  simp only
  rw [if_neg (by rintro rfl; simp at hb), if_neg (by unfold plainP; omega)]
theorem sg_left {left t : List UInt8} {a : Nat} {b : UInt8} (h : t[a]? = some b) (h92 : b ≠ 92) (hb : b ∈ left) : signR left t a = .no a 4 := by
  unfold signR; rw [h]
  simp only
  rw [if_neg h92, if_neg (fun hp => hp.2.2 hb)]
theorem sg_plain {left t : List UInt8} {a : Nat} {b : UInt8} (h : t[a]? = some b) (h92 : b ≠ 92) (hb : b ∉ left) (h1 : 32 ≤ b.toNat) (h2 : b.toNat ≤ 126) : signR left t a = .ok b (a + 1) := by
  unfold signR; rw [h]
  simp only
  rw [if_neg h92, if_pos ⟨⟨h1, h2⟩, h92, hb⟩]
theorem sg_short {left t : List UInt8} {a : Nat} (h : t[a]? = some 92) (hn : t[a + 1]? = none) : signR left t a = .no t.length 8 := by
  unfold signR; rw [h]
  simp only [if_true, hn]
theorem sg_mean {left t : List UInt8} {a : Nat} {c v : UInt8} (h : t[a]? = some 92) (hn : t[a + 1]? = some c) (hv : meantB left c = some v) : signR left t a = .ok v (a + 2) := by
  unfold signR; rw [h]
  simp only [if_true, hn, hv]
theorem sg_bad {left t : List UInt8} {a : Nat} {c : UInt8} (h : t[a]? = some 92) (hn : t[a + 1]? = some c) (hv : meantB left c = none) (hx : c ≠ 120) : signR left t a = .no (a + 1) 4 := by
  unfold signR; rw [h]
  simp only [if_true, hn, hv, if_neg hx]
theorem sg_hex {left t : List UInt8} {a : Nat} (h : t[a]? = some 92) (hn : t[a + 1]? = some 120) (hv : meantB left 120 = none) : signR left t a = hexR t (a + 2) := by
  unfold signR; rw [h]
  simp only [if_true, hn, hv]
theorem mean_left {left : List UInt8} {c : UInt8} (hl : LeftOk left) (h1 : c ≠ 110) (h2 : c ≠ 114) (h3 : c ≠ 116) : (c ∈ left ++ [92] → meantB left c = some c) ∧ (c ∉ left ++ [92] → meantB left c = none) := by
  unfold meantB
  refine ⟨fun h => ?_, fun h => ?_⟩
  · by_cases hm : c ∈ left
    · rw [if_pos hm]
    · have : c = 92 := by simpa [hm] using h
      subst this
      rw [if_neg hm]; simp
  · rw [List.mem_append, List.mem_singleton, not_or] at h
    rw [if_neg h.1, if_neg h1, if_neg h2, if_neg h3, if_neg h.2]
theorem eqB (b : UInt8) (k : Nat) (hk : k < 256) : ((b.toNat : Int) == (k : Int)) = decide (b = UInt8.ofNat k) := by
  rw [Bool.eq_iff_iff, beq_iff_eq, decide_eq_true_eq, ← UInt8.toNat_inj, ofNat_small hk]
  omega
set_option maxRecDepth 100000 in
set_option maxHeartbeats 2000000 in
theorem rsign_any (t sp : ByteArray) (left : List UInt8) (a : Nat) (w : World) (hl : LeftOk left) (hsp : sp.data.toList = left ++ [92]) (hs : t.size ≤ 1000000) (ha : a ≤ t.size) :
    Calls Try.prog 32 #[.string t, .int .i64 (a : Int), .string sp] w (RsPost (signR left t.data.toList a) w) := by
  have hss : sp.size ≤ 1000 := by
    have h1 : sp.data.toList.length = sp.size := by simp
    rw [hsp] at h1
    rcases hl with rfl | rfl <;> simp [clsL] at h1 <;> omega
  have HSS := Lib.hid hss; have HSP := Lib.hid hsp
  clear hss hsp
  have HZ := Lib.hid (sz_data t)
  by_cases h1 : t.size ≤ a
  · have i1 : ¬ (a : Int) < (t.size : Int) := by omega
    have HN := Lib.hid (sg_none (left := left) (List.getElem?_eq_none (by have := HZ.out; omega) : t.data.toList[a]? = none))
    go_enter Try.func32, Try.ntmps32
    go_wp2_with fail
    exact bodyPost_ret (v := .tuple #[.int .u8 0, .int .i64 (t.size : Int), .int .i64 8]) (by simp [results, Try.results32, go_sem]) rfl (RsPost.of_no HN.out (by have := HZ.out; omega) rfl)
  have hlt : a < t.size := by omega
  have i1 : (a : Int) < (t.size : Int) := by omega
  have i0 : (0 : Int) ≤ (a : Int) := by omega
  clear h1
  have HA := Lib.hid (Lib.data_getElem? t a hlt)
  obtain ⟨c, hc⟩ : ∃ c, t[a] = c := ⟨_, rfl⟩
  rw [hc] at HA
  have HC := Lib.hid hc
  by_cases h2 : c.toNat < 32
  · have i2 : (c.toNat : Int) < 32 := by omega
    have HN := Lib.hid (sg_low (left := left) HA.out (.inl h2))
    clear h2
    go_enter Try.func32, Try.ntmps32
    go_wp2_with fail
    exact bodyPost_ret (v := .tuple #[.int .u8 0, .int .i64 (a : Int), .int .i64 4]) (by simp [results, Try.results32, go_sem]) rfl (RsPost.of_no HN.out rfl rfl)
  have i2 : ¬ (c.toNat : Int) < 32 := by omega
  by_cases h3 : 126 < c.toNat
  · have i3 : (126 : Int) < (c.toNat : Int) := by omega
    have HN := Lib.hid (sg_low (left := left) HA.out (.inr h3))
    clear h2 h3
    go_enter Try.func32, Try.ntmps32
    go_wp2_with fail
    exact bodyPost_ret (v := .tuple #[.int .u8 0, .int .i64 (a : Int), .int .i64 4]) (by simp [results, Try.results32, go_sem]) rfl (RsPost.of_no HN.out rfl rfl)
  have i3 : ¬ (126 : Int) < (c.toNat : Int) := by omega
  by_cases h92 : c = 92
  · have i4 : ((c.toNat : Int) != 92) = false := by rw [h92]; rfl
    have i4' : ((c.toNat : Int) == 92) = true := by rw [h92]; rfl
    rw [h92] at HA
    have HNT := Lib.hid hl.nots
    clear h2 h3
    by_cases h5 : t.size ≤ a + 1
    · have i5 : ¬ (a : Int) + 1 < (t.size : Int) := by omega
      have HN := Lib.hid (sg_short (left := left) HA.out (List.getElem?_eq_none (by have := HZ.out; omega)))
      clear h5
      go_enter Try.func32, Try.ntmps32
      go_wp2_with fail
      exact bodyPost_ret (v := .tuple #[.int .u8 0, .int .i64 (t.size : Int), .int .i64 8]) (by simp [results, Try.results32, go_sem, *]) rfl (RsPost.of_no HN.out (by have := HZ.out; omega) rfl)
    have hlt5 : a + 1 < t.size := by omega
    have i5 : (a : Int) + 1 < (t.size : Int) := by omega
    have i6 : (0 : Int) ≤ (a : Int) + 1 := by omega
    clear h5
    have HB := Lib.hid (Lib.data_getElem? t (a + 1) hlt5)
    obtain ⟨d, hd⟩ : ∃ d, t[a + 1] = d := ⟨_, rfl⟩
    rw [hd] at HB
    have HD := Lib.hid hd
    by_cases g1 : d = 110
    · have j1 : ((d.toNat : Int) == 110) = true := by rw [g1]; rfl
      have HN := Lib.hid (sg_mean (left := left) (v := 10) HA.out HB.out (by unfold meantB; rw [g1, if_neg HNT.out.1]; rfl))
      clear g1
      go_enter Try.func32, Try.ntmps32
      go_wp2_with fail
      exact bodyPost_ret (v := .tuple #[.int .u8 10, .int .i64 ((a : Int) + 2), .int .i64 0]) (by simp [results, Try.results32, go_sem, *]) rfl (RsPost.of_ok HN.out (by omega) rfl rfl)
    have j1 : ((d.toNat : Int) == 110) = false := (eqB d 110 (by decide)).trans (decide_eq_false g1)
    by_cases g2 : d = 114
    · have j2 : ((d.toNat : Int) == 114) = true := by rw [g2]; rfl
      have HN := Lib.hid (sg_mean (left := left) (v := 13) HA.out HB.out (by unfold meantB; rw [g2, if_neg HNT.out.2.1]; rfl))
      clear g1 g2
      go_enter Try.func32, Try.ntmps32
      go_wp2_with fail
      exact bodyPost_ret (v := .tuple #[.int .u8 13, .int .i64 ((a : Int) + 2), .int .i64 0]) (by simp [results, Try.results32, go_sem, *]) rfl (RsPost.of_ok HN.out (by omega) rfl rfl)
    have j2 : ((d.toNat : Int) == 114) = false := (eqB d 114 (by decide)).trans (decide_eq_false g2)
    by_cases g3 : d = 116
    · have j3 : ((d.toNat : Int) == 116) = true := by rw [g3]; rfl
      have HN := Lib.hid (sg_mean (left := left) (v := 9) HA.out HB.out (by unfold meantB; rw [g3, if_neg HNT.out.2.2]; rfl))
      clear g1 g2 g3
      go_enter Try.func32, Try.ntmps32
      go_wp2_with fail
      exact bodyPost_ret (v := .tuple #[.int .u8 9, .int .i64 ((a : Int) + 2), .int .i64 0]) (by simp [results, Try.results32, go_sem, *]) rfl (RsPost.of_ok HN.out (by omega) rfl rfl)
    have j3 : ((d.toNat : Int) == 116) = false := (eqB d 116 (by decide)).trans (decide_eq_false g3)
    have HML := Lib.hid (mean_left hl g1 g2 g3)
    clear g1 g2 g3
    by_cases g4 : d ∈ left ++ [92]
    · have HM := Lib.hid (show true = decide (d ∈ sp.data.toList) from by rw [HSP.out, decide_eq_true g4])
      have HN := Lib.hid (sg_mean (left := left) HA.out HB.out (HML.out.1 g4))
      clear g4
      go_enter Try.func32, Try.ntmps32
      go_wp2_with (first | (go_at_call 48; (with_reducible refine (rwithin_any d sp _ HSS.out true HM).mono ?_); rintro e w' ⟨rfl, rfl⟩) | fail)
      exact bodyPost_ret (v := .tuple #[.int .u8 (d.toNat : Int), .int .i64 ((a : Int) + 2), .int .i64 0]) (by simp [results, Try.results32, go_sem, *]) rfl (RsPost.of_ok HN.out (by omega) rfl rfl)
    have HM := Lib.hid (show false = decide (d ∈ sp.data.toList) from by rw [HSP.out, decide_eq_false g4])
    by_cases g5 : d = 120
    · have j5 : ((d.toNat : Int) != 120) = false := by rw [g5]; rfl
      have HN := Lib.hid (sg_hex (left := left) HA.out (g5 ▸ HB.out) (g5 ▸ HML.out.2 g4))
      clear g4 g5
      go_enter Try.func32, Try.ntmps32
      go_wp2_with (first | (go_at_call 48; (with_reducible refine (rwithin_any d sp _ HSS.out false HM).mono ?_); rintro e w' ⟨rfl, rfl⟩) | fail)
      clear j1 j2 j3 j5 i2 i3 i4 i4'
      go_loop [10, 11] (fun n i => ∃ k sum : Nat, k ≤ 2 ∧ n = .int .i64 (sum : Int) ∧ i = .int .i64 ((a : Int) + 2 + (k : Int)) ∧ Hid (HexInv t.data.toList (a + 2) k sum)) (fun n i => a + 4 - (intOf i).toNat)
      case atStart => exact ⟨0, 0, by omega, rfl, by simp, Lib.hid (.inl ⟨rfl, rfl⟩)⟩
      case round =>
        obtain ⟨k, sum, hk, rfl, rfl, HI⟩ := hrel
        by_cases hk2 : k < 2
        · have k1 : (a : Int) + 2 + (k : Int) < (a : Int) + 4 := by omega
          by_cases hs2 : a + 2 + k < t.size
          · have k2 : (a : Int) + 2 + (k : Int) < (t.size : Int) := by omega
            have k3 : (0 : Int) ≤ (a : Int) + 2 + (k : Int) := by omega
            have HE := Lib.hid (Lib.data_getElem? t (a + 2 + k) hs2)
            have HI2 : ((a : Int) + 2 + (k : Int)).toNat = a + 2 + k := by omega
            have HS := Lib.hid (HI.out.lt hk2)
            obtain ⟨x, hx⟩ : ∃ x, t[a + 2 + k] = x := ⟨_, rfl⟩
            rw [hx] at HE
            cases hv : hexV x with
            | none =>
              have HQ := Lib.hid (HI.out.bad hk2 HE.out hv)
              have HX := Lib.hid (hexI_none hv)
              clear hv
              go_wp2_with (first | (go_at_call 49; (with_reducible refine (rhex_any x _).mono ?_); rintro e w' ⟨rfl, rfl⟩; rw [HX.out]) | fail)
              exact bodyPost_ret (v := .tuple #[.int .u8 0, .int .i64 ((a : Int) + 2 + (k : Int)), .int .i64 4]) (by simp [results, Try.results32, go_sem, *]) rfl (RsPost.of_no (HN.out.trans HQ.out) (by omega) rfl)
            | some y =>
              have HX := Lib.hid (hexI_some hv)
              have HY := hexV_lt hv
              have HQ := Lib.hid (HI.out.step hk2 HE.out hv)
              have k5 : ¬ (y : Int) < 0 := by omega
              have k6 : sum < 16 := HS.out
              clear hv
              go_wp2_with (first | (go_at_call 49; (with_reducible refine (rhex_any x _).mono ?_); rintro e w' ⟨rfl, rfl⟩; rw [HX.out]) | fail)
              exact ⟨⟨k + 1, 16 * sum + y, by omega, by congr 1; omega, by go_num, HQ⟩, by simp only [intOf]; omega⟩
          · have k2 : ¬ (a : Int) + 2 + (k : Int) < (t.size : Int) := by omega
            have HQ := Lib.hid (HI.out.none hk2 (List.getElem?_eq_none (by have := HZ.out; omega)))
            go_wp2_with fail
            exact bodyPost_ret (v := .tuple #[.int .u8 0, .int .i64 (t.size : Int), .int .i64 8]) (by simp [results, Try.results32, go_sem, *]) rfl (RsPost.of_no (HN.out.trans HQ.out) (by have := HZ.out; omega) rfl)
        · obtain rfl : k = 2 := by omega
          have HQ := Lib.hid (show sum < 256 ∧ hexR t.data.toList (a + 2) = .ok (UInt8.ofNat sum) (a + 2 + 2) from by rcases HI.out with ⟨h, _⟩ | ⟨h, _⟩ | ⟨_, h⟩ <;> first | exact h | omega)
          have q1 := HQ.out.1
          go_wp2_with fail
          exact bodyPost_ret (v := .tuple #[.int .u8 (sum : Int), .int .i64 ((a : Int) + 4), .int .i64 0]) (by simp [results, Try.results32, go_sem, *]) rfl (RsPost.of_ok (HN.out.trans HQ.out.2) (by omega) (by rw [ofNat_small q1]) rfl)
    · have j5 : ((d.toNat : Int) == 120) = false := (eqB d 120 (by decide)).trans (decide_eq_false g5)
      have HN := Lib.hid (sg_bad (left := left) HA.out HB.out (HML.out.2 g4) g5)
      clear g4 g5
      go_enter Try.func32, Try.ntmps32
      go_wp2_with (first | (go_at_call 48; (with_reducible refine (rwithin_any d sp _ HSS.out false HM).mono ?_); rintro e w' ⟨rfl, rfl⟩) | fail)
      exact bodyPost_ret (v := .tuple #[.int .u8 0, .int .i64 ((a : Int) + 1), .int .i64 4]) (by simp [results, Try.results32, go_sem, *]) rfl (RsPost.of_no HN.out (by omega) rfl)
  have i4 : ((c.toNat : Int) == 92) = false := (eqB c 92 (by decide)).trans (decide_eq_false h92)
  by_cases hm : c ∈ left
  · have HN := Lib.hid (sg_left HA.out h92 hm)
    have HM := Lib.hid (show true = decide (c ∈ sp.data.toList) from by rw [HSP.out]; simp [hm])
    clear h2 h3 h92 hm
    go_enter Try.func32, Try.ntmps32
    go_wp2_with (first | (go_at_call 48; (with_reducible refine (rwithin_any c sp _ HSS.out true HM).mono ?_); rintro e w' ⟨rfl, rfl⟩) | fail)
    exact bodyPost_ret (v := .tuple #[.int .u8 0, .int .i64 (a : Int), .int .i64 4]) (by simp [results, Try.results32, go_sem]) rfl (RsPost.of_no HN.out rfl rfl)
  · have HN := Lib.hid (sg_plain HA.out h92 hm (by omega) (by omega))
    have HM := Lib.hid (show false = decide (c ∈ sp.data.toList) from by rw [HSP.out]; simp [hm, h92])
    clear h2 h3 h92 hm
    go_enter Try.func32, Try.ntmps32
    go_wp2_with (first | (go_at_call 48; (with_reducible refine (rwithin_any c sp _ HSS.out false HM).mono ?_); rintro e w' ⟨rfl, rfl⟩) | fail)
    exact bodyPost_ret (v := .tuple #[.int .u8 (c.toNat : Int), .int .i64 ((a : Int) + 1), .int .i64 0]) (by simp [results, Try.results32, go_sem, HC.out]) rfl (RsPost.of_ok HN.out (by omega) rfl rfl)
end Go.Proofs.Ytidcoldoalimfaa
