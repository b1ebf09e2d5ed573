/- The contracts of a reader's hex, sign, signs, and of quote.begin. -/
import Derived.Test.YtpfokabdpmjobaaDoorLr
import Derived.Test.YtpfokabdpmjobaaDoorQp
namespace Go.Proofs.YtpfokabdpmjobaaDoor
open Go.RowKit
set_option linter.unusedSimpArgs false
set_option linter.unusedVariables false
def SgPost (r : Nat) (t left : ByteArray) (en : UInt8) (m : Nat) (e0 : Int) (s : SR) (w : World) (e : Ending) (w' : World) : Prop :=
  (match s with
   | .ok b n => e = .returned (.tuple #[u8V b, .bool true]) ∧ RD w' r t left en m (n : Int) e0
   | .no p k => e = .returned (.tuple #[.int .u8 0, .bool false]) ∧ RD w' r t left en m (p : Int) (k : Int)) ∧ w.grownBy w' (some r)
theorem SgPost.of_ok {r : Nat} {t left : ByteArray} {en : UInt8} {m : Nat} {e0 : Int} {s : SR} {w : World} {e : Ending} {w' : World} {b : UInt8} {n : Nat} {z : Int} (h : s = .ok b n) (hz : z = (n : Int)) (he : e = .returned (.tuple #[u8V b, .bool true])) (hr : RD w' r t left en m z e0) (hg : w.grownBy w' (some r)) : SgPost r t left en m e0 s w e w' := by
  subst h hz; exact ⟨⟨he, hr⟩, hg⟩
theorem SgPost.of_no {r : Nat} {t left : ByteArray} {en : UInt8} {m : Nat} {e0 : Int} {s : SR} {w : World} {e : Ending} {w' : World} {p k : Nat} {z z' : Int} (h : s = .no p k) (hz : z = (p : Int)) (hz' : z' = (k : Int)) (he : e = .returned (.tuple #[.int .u8 0, .bool false])) (hr : RD w' r t left en m z z') (hg : w.grownBy w' (some r)) : SgPost r t left en m e0 s w e w' := by
  subst h hz hz'; exact ⟨⟨he, hr⟩, hg⟩
theorem ofNat_small {n : Nat} (h : n < 256) : (UInt8.ofNat n).toNat = n := by simp; omega
def HexInv (t : List UInt8) (a k : Nat) (sum : Nat) : Prop :=
  (k = 0 ∧ sum = 0) ∨ (k = 1 ∧ ∃ c, t[a]? = some c ∧ hexV c = some sum) ∨ (k = 2 ∧ sum < 256 ∧ hexR t a = .ok (UInt8.ofNat sum) (a + 2))
theorem HexInv.none {t : List UInt8} {a k sum : Nat} (h : HexInv t a k sum) (hk : k < 2) (hn : t[a + k]? = none) : hexR t a = .no t.length 8 := by
  rcases h with ⟨rfl, rfl⟩ | ⟨rfl, c, h1, h2⟩ | ⟨rfl, _⟩
  · unfold hexR; rw [show t[a]? = Option.none from hn]
  · unfold hexR; rw [h1]; simp only [h2, hn]
  · omega
theorem HexInv.bad {t : List UInt8} {a k sum : Nat} {d : UInt8} (h : HexInv t a k sum) (hk : k < 2) (hn : t[a + k]? = some d) (hd : hexV d = Option.none) : hexR t a = .no (a + k) 4 := by
  rcases h with ⟨rfl, rfl⟩ | ⟨rfl, c, h1, h2⟩ | ⟨rfl, _⟩
  · unfold hexR; rw [show t[a]? = some d from hn]; simp only [hd]; rfl
  · unfold hexR; rw [h1]; simp only [h2, hn, hd]
  · omega
theorem HexInv.step {t : List UInt8} {a k sum y : Nat} {d : UInt8} (h : HexInv t a k sum) (hk : k < 2) (hn : t[a + k]? = some d) (hd : hexV d = some y) : HexInv t a (k + 1) (16 * sum + y) := by
  have hy := hexV_lt hd
  rcases h with ⟨rfl, rfl⟩ | ⟨rfl, c, h1, h2⟩ | ⟨rfl, _⟩
  · exact .inr (.inl ⟨rfl, d, hn, by simpa using hd⟩)
  · have := hexV_lt h2
    refine .inr (.inr ⟨rfl, by omega, ?_⟩)
    unfold hexR; rw [h1]; simp only [h2, hn, hd]
  · omega
theorem HexInv.lt {t : List UInt8} {a k sum : Nat} (h : HexInv t a k sum) (hk : k < 2) : sum < 16 := by
  rcases h with ⟨rfl, rfl⟩ | ⟨rfl, c, h1, h2⟩ | ⟨rfl, _⟩
  · omega
  · exact hexV_lt h2
  · omega
theorem nib16 : ∀ (s d : Fin 16), bits BinOp.or IntKind.u8 (((s.val : Nat) : Int) * 16 % 256) ((d.val : Nat) : Int) = ((16 * s.val + d.val : Nat) : Int) := by decide
theorem nib {s : Nat} {d : Int} {y : Nat} (hs : s < 16) (hd : d = (y : Int)) (hy : y < 16) : Value.int .u8 (bits BinOp.or IntKind.u8 ((s : Int) * 16 % 256) d) = .int .u8 ((16 * s + y : Nat) : Int) := by
  subst hd; rw [nib16 ⟨s, hs⟩ ⟨y, hy⟩]
theorem hexV_dig {c : UInt8} (h1 : (48 : Int) ≤ c.toNat) (h2 : (c.toNat : Int) ≤ 57) : hexV c = some (c.toNat - 48) := by unfold hexV; rw [if_pos ⟨by omega, by omega⟩]
theorem hexV_low {c : UInt8} (h1 : (97 : Int) ≤ c.toNat) (h2 : (c.toNat : Int) ≤ 102) : hexV c = some (c.toNat - 87) := by unfold hexV; rw [if_neg (by omega), if_pos ⟨by omega, by omega⟩]
theorem hexV_up {c : UInt8} (h1 : (65 : Int) ≤ c.toNat) (h2 : (c.toNat : Int) ≤ 70) : hexV c = some (c.toNat - 55) := by unfold hexV; rw [if_neg (by omega), if_neg (by omega), if_pos ⟨by omega, by omega⟩]
theorem hexV_no {c : UInt8} (h1 : ¬ ((48 : Int) ≤ c.toNat ∧ (c.toNat : Int) ≤ 57)) (h2 : ¬ ((97 : Int) ≤ c.toNat ∧ (c.toNat : Int) ≤ 102)) (h3 : ¬ ((65 : Int) ≤ c.toNat ∧ (c.toNat : Int) ≤ 70)) : hexV c = none := by
  unfold hexV; rw [if_neg (by omega), if_neg (by omega), if_neg (by omega)]
set_option maxRecDepth 100000 in
set_option maxHeartbeats 2000000 in
theorem hex_any (r : Nat) (t left : ByteArray) (en : UInt8) (m a : Nat) (e0 : Int) (w : World) (h : RD w r t left en m (a : Int) e0) (hs : t.size ≤ 1000000) :
    Calls Tryd.prog 100 #[.pointer (some ⟨r, 0, none⟩)] w (SgPost r t left en m e0 (hexR t.data.toList a) w) := by
  have HR0 := Lib.hid h
  clear h
  go_enter Tryd.func100, Tryd.ntmps100
  go_wp2_with fail
  go_loopw [4, 7] (fun v i wr => ∃ k sum : Nat, k ≤ 2 ∧ v = .int .u8 (sum : Int) ∧ i = .int .i64 (k : Int) ∧ Hid (HexInv t.data.toList a k sum) ∧ Hid (RD wr r t left en m ((a + k : Nat) : Int) e0) ∧ Hid (w.grownBy wr (some r))) (fun _ i _ => 2 - (intOf i).toNat)
  case atStart => exact ⟨0, 0, by omega, rfl, rfl, Lib.hid (.inl ⟨rfl, rfl⟩), HR0, Lib.hid (World.grownBy.refl _ _)⟩
  case round =>
    clear HR0
    obtain ⟨k, sum, hk, rfl, rfl, HI, HR, HG⟩ := hrel
    by_cases hlt : k < 2
    · have i1 : (k : Int) < 2 := by omega
      by_cases ha : a + k < t.size
      · have HA := Lib.hid (Lib.data_getElem? t (a + k) ha)
        have HS := Lib.hid (HI.out.lt hlt)
        obtain ⟨c, hc⟩ : ∃ c, t[a + k] = c := ⟨_, rfl⟩
        rw [hc] at HA
        have HC := Lib.hid hc; clear hc
        by_cases d1 : (48 : Int) ≤ c.toNat ∧ (c.toNat : Int) ≤ 57
        · obtain ⟨d2, d3⟩ := d1
          go_wp2_with (first | (go_at_call 93; refine (next_some r t left en m (a + k) e0 _ HR.out ha hs).mono ?_; rw [HC.out]; rintro e1 w1 ⟨rfl, h1, h2⟩; have HR1 := Lib.hid h1; have HG1 := Lib.hid (HG.out.trans h2); clear h1 h2))
          exact ⟨⟨k + 1, 16 * sum + (c.toNat - 48), by omega, nib HS.out (by omega) (by omega), by go_num, Lib.hid (HI.out.step hlt HA.out (hexV_dig d2 d3)), HR1, HG1⟩, by simp only [intOf]; omega⟩
        by_cases d4 : (97 : Int) ≤ c.toNat ∧ (c.toNat : Int) ≤ 102
        · obtain ⟨d2, d3⟩ := d4
          have d5 : ¬ (c.toNat : Int) ≤ 57 := by omega
          have d6 : (48 : Int) ≤ c.toNat := by omega
          clear d1
          go_wp2_with (first | (go_at_call 93; refine (next_some r t left en m (a + k) e0 _ HR.out ha hs).mono ?_; rw [HC.out]; rintro e1 w1 ⟨rfl, h1, h2⟩; have HR1 := Lib.hid h1; have HG1 := Lib.hid (HG.out.trans h2); clear h1 h2))
          exact ⟨⟨k + 1, 16 * sum + (c.toNat - 87), by omega, nib HS.out (by omega) (by omega), by go_num, Lib.hid (HI.out.step hlt HA.out (hexV_low d2 d3)), HR1, HG1⟩, by simp only [intOf]; omega⟩
        by_cases d7 : (65 : Int) ≤ c.toNat ∧ (c.toNat : Int) ≤ 70
        · obtain ⟨d2, d3⟩ := d7
          have d5 : ¬ (c.toNat : Int) ≤ 57 := by omega
          have d6 : (48 : Int) ≤ c.toNat := by omega
          have d8 : ¬ (97 : Int) ≤ c.toNat := by omega
          clear d1 d4
          go_wp2_with (first | (go_at_call 93; refine (next_some r t left en m (a + k) e0 _ HR.out ha hs).mono ?_; rw [HC.out]; rintro e1 w1 ⟨rfl, h1, h2⟩; have HR1 := Lib.hid h1; have HG1 := Lib.hid (HG.out.trans h2); clear h1 h2))
          exact ⟨⟨k + 1, 16 * sum + (c.toNat - 55), by omega, nib HS.out (by omega) (by omega), by go_num, Lib.hid (HI.out.step hlt HA.out (hexV_up d2 d3)), HR1, HG1⟩, by simp only [intOf]; omega⟩
        have HN := Lib.hid (HI.out.bad hlt HA.out (hexV_no d1 d4 d7))
        have HD := Lib.hid (show (¬ (48 : Int) ≤ c.toNat ∨ ¬ (c.toNat : Int) ≤ 57) ∧ (¬ (97 : Int) ≤ c.toNat ∨ ¬ (c.toNat : Int) ≤ 102) ∧ (¬ (65 : Int) ≤ c.toNat ∨ ¬ (c.toNat : Int) ≤ 70) from by omega)
        clear d1 d4 d7
        have hdd := HD.out.1
        rcases hdd with d1 | d1 <;> rcases HD.out.2.1 with d2 | d2 <;> rcases HD.out.2.2 with d3 | d3
        all_goals
          go_wp2_with (first
            | (go_at_call 93; refine (next_some r t left en m (a + k) e0 _ HR.out ha hs).mono ?_; rw [HC.out]; rintro e1 w1 ⟨rfl, h1, h2⟩; have c4 := h1.cells.2.2.2.2.1; have HR1 := Lib.hid h1; have HG1 := Lib.hid (HG.out.trans h2); clear h1 h2)
            | (go_at_call 85; refine (fail_any r t left en m _ e0 _ _ HR1.out).mono ?_; rintro e1 w2 ⟨rfl, h1, h2⟩; have HR2 := Lib.hid h1; have HG2 := Lib.hid (HG1.out.trans h2); clear h1 h2))
          all_goals
            refine bodyPost_ret (v := .tuple #[.int .u8 0, .bool false]) (by simp [results, Tryd.results100, go_sem]) rfl ?_
            exact SgPost.of_no HN.out (by omega) rfl rfl HR2.out HG2.out
      · have HN := Lib.hid (HI.out.none hlt (List.getElem?_eq_none (by have := sz_data t; omega)))
        go_wp2_with (first | (go_at_call 93; refine (next_none r t left en m (a + k) e0 _ HR.out ha hs).mono ?_; rintro e1 w1 ⟨rfl, h1, h2⟩; have HR1 := Lib.hid h1; have HG1 := Lib.hid (HG.out.trans h2); clear h1 h2))
        refine bodyPost_ret (v := .tuple #[.int .u8 0, .bool false]) (by simp [results, Tryd.results100, go_sem]) rfl ?_
        exact SgPost.of_no HN.out (by have := sz_data t; omega) rfl rfl HR1.out HG1.out
    · obtain rfl : k = 2 := by omega
      have HQ := Lib.hid (show sum < 256 ∧ hexR t.data.toList a = .ok (UInt8.ofNat sum) (a + 2) from by rcases HI.out with ⟨h, _⟩ | ⟨h, _⟩ | ⟨_, h⟩ <;> first | exact h | omega)
      go_wp2_with fail
      have e1 : (Value.int .u8 (sum : Int)) = u8V (UInt8.ofNat sum) := by
        show Value.int .u8 (sum : Int) = .int .u8 (((UInt8.ofNat sum).toNat : Nat) : Int)
        rw [ofNat_small HQ.out.1]
      rw [e1]
      refine bodyPost_ret (v := .tuple #[u8V (UInt8.ofNat sum), .bool true]) (by simp [results, Tryd.results100, go_sem]) rfl ?_
      exact SgPost.of_ok HQ.out.2 rfl rfl HR.out HG.out
theorem zeroU8 : ∀ w, (zeroValue 5).run Tryd.prog w = .ok (.int .u8 0) w := fun w => by kernel_rfl
theorem esc_some {left : List UInt8} {c v : UInt8} (h : meantB left c = some v) : (escF left c).getD (.int .u8 0) = u8V v ∧ (escF left c).isSome = true := by simp [escF, h]
theorem esc_none {left : List UInt8} {c : UInt8} (h : meantB left c = none) : (escF left c).getD (.int .u8 0) = .int .u8 0 ∧ (escF left c).isSome = false := by simp [escF, h]
theorem eq120 (b : UInt8) : ((b.toNat : Int) == 120) = decide (b = 120) := by
  rw [Bool.eq_iff_iff, beq_iff_eq, decide_eq_true_eq, ← UInt8.toNat_inj]
  show _ ↔ b.toNat = 120
  omega
set_option maxRecDepth 100000 in
set_option maxHeartbeats 2000000 in
theorem sign_any (r : Nat) (t left : ByteArray) (en : UInt8) (m n0 a : Nat) (e0 : Int) (w : World) (h : RD w r t left en m (a : Int) e0) (hm : BMap w m n0 (escF left.data.toList)) (hmr : m ≠ r) (hs : t.size ≤ 1000000) :
    Calls Tryd.prog 95 #[.pointer (some ⟨r, 0, none⟩)] w (SgPost r t left en m e0 (signR left.data.toList t.data.toList a) w) := by
  have HR := Lib.hid h; have HM := Lib.hid hm
  clear h hm
  have hsz := sz_data t
  by_cases ha : a < t.size
  · have hA : t.data.toList[a]? = some t[a] := Lib.data_getElem? t a ha
    obtain ⟨b, hb⟩ : ∃ b, t[a] = b := ⟨_, rfl⟩
    rw [hb] at hA
    have HC := Lib.hid hb; clear hb
    have h92 := eq92 b
    by_cases hb : b = 92
    · rw [decide_eq_true hb] at h92
      have h92' : (b.toNat : Int) = 92 := by simpa using h92
      by_cases ha2 : a + 1 < t.size
      · have hA2 : t.data.toList[a + 1]? = some t[a + 1] := Lib.data_getElem? t (a + 1) ha2
        obtain ⟨c, hc⟩ : ∃ c, t[a + 1] = c := ⟨_, rfl⟩
        rw [hc] at hA2
        have HC2 := Lib.hid hc; clear hc
        cases hme : meantB left.data.toList c with
        | some v =>
          have HS := Lib.hid (show signR left.data.toList t.data.toList a = .ok v (a + 2) from by unfold signR; rw [hA]; simp only [if_pos hb, hA2, hme])
          obtain ⟨E1, E2⟩ := esc_some hme
          have HE1 := Lib.hid E1; have HE2 := Lib.hid E2
          clear E1 E2 hme hA hA2 hb
          go_enter Tryd.func95, Tryd.ntmps95
          go_wp2_with (first
            | (go_at_call 93; refine (next_some r t left en m a e0 _ HR.out ha hs).mono ?_; rw [HC.out]; rintro e1 w1 ⟨rfl, h1, h2⟩; have HR1 := Lib.hid h1; have HG1 := Lib.hid h2; clear h1 h2)
            | (go_at_call 93; refine (next_some r t left en m (a + 1) e0 _ HR1.out ha2 hs).mono ?_; rw [HC2.out]; rintro e1 w2 ⟨rfl, h1, h2⟩; have c3 := h1.cells.2.2.2.1; have HR2 := Lib.hid h1; have HG2 := Lib.hid (HG1.out.trans h2); have HM2 := Lib.hid (HM.out.kept HG2.out (by simpa using hmr)); clear h1 h2)
            | (at_lookup; refine wpList_look_bmap rfl _ _ _ rfl 5 Tryd.underlying143 (zeroU8 _) _ _ _ rfl HM2.out c _ rfl rfl ?_; rw [HE1.out, HE2.out])
            | fail)
          refine bodyPost_ret (v := .tuple #[u8V v, .bool true]) (by simp [results, Tryd.results95, go_sem]) rfl ?_
          exact SgPost.of_ok HS.out rfl rfl HR2.out HG2.out
        | none =>
          obtain ⟨E1, E2⟩ := esc_none hme
          have HE1 := Lib.hid E1; have HE2 := Lib.hid E2
          clear E1 E2
          have h120 := eq120 c
          by_cases hx : c = 120
          · rw [decide_eq_true hx] at h120
            have h120' : (c.toNat : Int) = 120 := by simpa using h120
            have HS := Lib.hid (show signR left.data.toList t.data.toList a = hexR t.data.toList (a + 2) from by unfold signR; rw [hA]; simp only [if_pos hb, hA2, hme, if_pos hx])
            clear hme hA hA2 hb hx
            cases hh : hexR t.data.toList (a + 2) with
            | ok v n =>
              rw [hh] at HS
              have HH := Lib.hid hh; clear hh
              go_enter Tryd.func95, Tryd.ntmps95
              go_wp2_with (first
                | (go_at_call 93; refine (next_some r t left en m a e0 _ HR.out ha hs).mono ?_; rw [HC.out]; rintro e1 w1 ⟨rfl, h1, h2⟩; have HR1 := Lib.hid h1; have HG1 := Lib.hid h2; clear h1 h2)
                | (go_at_call 93; refine (next_some r t left en m (a + 1) e0 _ HR1.out ha2 hs).mono ?_; rw [HC2.out]; rintro e1 w2 ⟨rfl, h1, h2⟩; have c3 := h1.cells.2.2.2.1; have HR2 := Lib.hid h1; have HG2 := Lib.hid (HG1.out.trans h2); have HM2 := Lib.hid (HM.out.kept HG2.out (by simpa using hmr)); clear h1 h2)
                | (at_lookup; refine wpList_look_bmap rfl _ _ _ rfl 5 Tryd.underlying143 (zeroU8 _) _ _ _ rfl HM2.out c _ rfl rfl ?_; rw [HE1.out, HE2.out])
                | (go_at_call 100; refine (hex_any r t left en m (a + 2) e0 _ HR2.out hs).mono ?_; rw [HH.out]; rintro e1 w3 ⟨⟨rfl, h1⟩, h2⟩; have HR3 := Lib.hid h1; have HG3 := Lib.hid (HG2.out.trans h2); clear h1 h2)
                | fail)
              refine bodyPost_ret (v := .tuple #[u8V v, .bool true]) (by simp [results, Tryd.results95, go_sem]) rfl ?_
              exact SgPost.of_ok HS.out rfl rfl HR3.out HG3.out
            | no p k =>
              rw [hh] at HS
              have HH := Lib.hid hh; clear hh
              go_enter Tryd.func95, Tryd.ntmps95
              go_wp2_with (first
                | (go_at_call 93; refine (next_some r t left en m a e0 _ HR.out ha hs).mono ?_; rw [HC.out]; rintro e1 w1 ⟨rfl, h1, h2⟩; have HR1 := Lib.hid h1; have HG1 := Lib.hid h2; clear h1 h2)
                | (go_at_call 93; refine (next_some r t left en m (a + 1) e0 _ HR1.out ha2 hs).mono ?_; rw [HC2.out]; rintro e1 w2 ⟨rfl, h1, h2⟩; have c3 := h1.cells.2.2.2.1; have HR2 := Lib.hid h1; have HG2 := Lib.hid (HG1.out.trans h2); have HM2 := Lib.hid (HM.out.kept HG2.out (by simpa using hmr)); clear h1 h2)
                | (at_lookup; refine wpList_look_bmap rfl _ _ _ rfl 5 Tryd.underlying143 (zeroU8 _) _ _ _ rfl HM2.out c _ rfl rfl ?_; rw [HE1.out, HE2.out])
                | (go_at_call 100; refine (hex_any r t left en m (a + 2) e0 _ HR2.out hs).mono ?_; rw [HH.out]; rintro e1 w3 ⟨⟨rfl, h1⟩, h2⟩; have HR3 := Lib.hid h1; have HG3 := Lib.hid (HG2.out.trans h2); clear h1 h2)
                | fail)
              refine bodyPost_ret (v := .tuple #[.int .u8 0, .bool false]) (by simp [results, Tryd.results95, go_sem]) rfl ?_
              exact SgPost.of_no HS.out rfl rfl rfl HR3.out HG3.out
          · rw [decide_eq_false hx] at h120
            have h120' : ¬ (c.toNat : Int) = 120 := by simpa using h120
            have h120n : ((c.toNat : Int) != 120) = true := by simpa using h120'
            have HS := Lib.hid (show signR left.data.toList t.data.toList a = .no (a + 1) 4 from by unfold signR; rw [hA]; simp only [if_pos hb, hA2, hme, if_neg hx])
            clear hme hA hA2 hb hx
            go_enter Tryd.func95, Tryd.ntmps95
            go_wp2_with (first
              | (go_at_call 93; refine (next_some r t left en m a e0 _ HR.out ha hs).mono ?_; rw [HC.out]; rintro e1 w1 ⟨rfl, h1, h2⟩; have HR1 := Lib.hid h1; have HG1 := Lib.hid h2; clear h1 h2)
              | (go_at_call 93; refine (next_some r t left en m (a + 1) e0 _ HR1.out ha2 hs).mono ?_; rw [HC2.out]; rintro e1 w2 ⟨rfl, h1, h2⟩; have c3 := h1.cells.2.2.2.1; have c4 := h1.cells.2.2.2.2.1; have HR2 := Lib.hid h1; have HG2 := Lib.hid (HG1.out.trans h2); have HM2 := Lib.hid (HM.out.kept HG2.out (by simpa using hmr)); clear h1 h2)
              | (at_lookup; refine wpList_look_bmap rfl _ _ _ rfl 5 Tryd.underlying143 (zeroU8 _) _ _ _ rfl HM2.out c _ rfl rfl ?_; rw [HE1.out, HE2.out])
              | (go_at_call 85; refine (fail_any r t left en m _ e0 _ _ HR2.out).mono ?_; rintro e1 w3 ⟨rfl, h1, h2⟩; have HR3 := Lib.hid h1; have HG3 := Lib.hid (HG2.out.trans h2); clear h1 h2)
              | fail)
            refine bodyPost_ret (v := .tuple #[.int .u8 0, .bool false]) (by simp [results, Tryd.results95, go_sem]) rfl ?_
            exact SgPost.of_no HS.out (by omega) rfl rfl HR3.out HG3.out
      · have HS := Lib.hid (show signR left.data.toList t.data.toList a = .no t.data.toList.length 8 from by unfold signR; rw [hA]; simp only [if_pos hb, List.getElem?_eq_none (show t.data.toList.length ≤ a + 1 by omega)])
        clear hA hb
        go_enter Tryd.func95, Tryd.ntmps95
        go_wp2_with (first
          | (go_at_call 93; refine (next_some r t left en m a e0 _ HR.out ha hs).mono ?_; rw [HC.out]; rintro e1 w1 ⟨rfl, h1, h2⟩; have HR1 := Lib.hid h1; have HG1 := Lib.hid h2; clear h1 h2)
          | (go_at_call 93; refine (next_none r t left en m (a + 1) e0 _ HR1.out ha2 hs).mono ?_; rintro e1 w2 ⟨rfl, h1, h2⟩; have HR2 := Lib.hid h1; have HG2 := Lib.hid (HG1.out.trans h2); clear h1 h2)
          | fail)
        refine bodyPost_ret (v := .tuple #[.int .u8 0, .bool false]) (by simp [results, Tryd.results95, go_sem]) rfl ?_
        exact SgPost.of_no HS.out (by omega) rfl rfl HR2.out HG2.out
    · rw [decide_eq_false hb] at h92
      have h92' : ¬ (b.toNat : Int) = 92 := by simpa using h92
      have h92n : ((b.toNat : Int) != 92) = true := by simpa using h92'
      by_cases hp : plainP b left.data.toList
      · have HS := Lib.hid (show signR left.data.toList t.data.toList a = .ok b (a + 1) from by unfold signR; rw [hA]; simp only [if_neg hb, if_pos hp])
        have HP := Lib.hid (decide_eq_true hp)
        clear hA hb hp
        go_enter Tryd.func95, Tryd.ntmps95
        go_wp2_with (first
          | (go_at_call 93; refine (next_some r t left en m a e0 _ HR.out ha hs).mono ?_; rw [HC.out]; rintro e1 w1 ⟨rfl, h1, h2⟩; have c1 := h1.cells.2.1; have HR1 := Lib.hid h1; have HG1 := Lib.hid h2; clear h1 h2)
          | (go_at_call 99; refine (plain_any b left _).mono ?_; rintro e w' ⟨rfl, rfl⟩; rw [HP.out])
          | fail)
        refine bodyPost_ret (v := .tuple #[u8V b, .bool true]) (by simp [results, Tryd.results95, go_sem]) rfl ?_
        exact SgPost.of_ok HS.out rfl rfl HR1.out HG1.out
      · have HS := Lib.hid (show signR left.data.toList t.data.toList a = .no a 4 from by unfold signR; rw [hA]; simp only [if_neg hb, if_neg hp])
        have HP := Lib.hid (decide_eq_false hp)
        clear hA hb hp
        go_enter Tryd.func95, Tryd.ntmps95
        go_wp2_with (first
          | (go_at_call 93; refine (next_some r t left en m a e0 _ HR.out ha hs).mono ?_; rw [HC.out]; rintro e1 w1 ⟨rfl, h1, h2⟩; have c1 := h1.cells.2.1; have c4 := h1.cells.2.2.2.2.1; have HR1 := Lib.hid h1; have HG1 := Lib.hid h2; clear h1 h2)
          | (go_at_call 99; refine (plain_any b left _).mono ?_; rintro e w' ⟨rfl, rfl⟩; rw [HP.out])
          | (go_at_call 85; refine (fail_any r t left en m _ e0 _ _ HR1.out).mono ?_; rintro e1 w3 ⟨rfl, h1, h2⟩; have HR3 := Lib.hid h1; have HG3 := Lib.hid (HG1.out.trans h2); clear h1 h2)
          | fail)
        refine bodyPost_ret (v := .tuple #[.int .u8 0, .bool false]) (by simp [results, Tryd.results95, go_sem]) rfl ?_
        exact SgPost.of_no HS.out (by omega) rfl rfl HR3.out HG3.out
  · have HS := Lib.hid (show signR left.data.toList t.data.toList a = .no t.data.toList.length 8 from by unfold signR; rw [List.getElem?_eq_none (show t.data.toList.length ≤ a by omega)])
    go_enter Tryd.func95, Tryd.ntmps95
    go_wp2_with (first
      | (go_at_call 93; refine (next_none r t left en m a e0 _ HR.out ha hs).mono ?_; rintro e1 w2 ⟨rfl, h1, h2⟩; have HR2 := Lib.hid h1; have HG2 := Lib.hid h2; clear h1 h2)
      | fail)
    refine bodyPost_ret (v := .tuple #[.int .u8 0, .bool false]) (by simp [results, Tryd.results95, go_sem]) rfl ?_
    exact SgPost.of_no HS.out (by omega) rfl rfl HR2.out HG2.out
end Go.Proofs.YtpfokabdpmjobaaDoor
