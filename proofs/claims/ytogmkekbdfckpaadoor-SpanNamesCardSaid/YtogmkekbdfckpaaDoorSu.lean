/- The walk of the statement SpanMoved. -/
import Derived.Test.YtogmkekbdfckpaaDoorSs
import Derived.Test.YtogmkekbdfckpaaDoorSt
import Derived.Deep.RegionHeld3
namespace Go.Proofs.YtogmkekbdfckpaaDoor
open Go.RowKit
set_option linter.unusedSimpArgs false
set_option linter.unusedVariables false

theorem ShiftPost.row {w w' : World} {r : Outc × Bool} {e : Ending} (h : ShiftPost w r e w') : ∃ A c, e = .returned (.tuple #[outV A c r.1, .bool r.2]) ∧ Hid (RowAt w' A (cellsOf r.1.caps)) ∧ Below w.heap.size w w' := by
  obtain ⟨v, he, ho, hb⟩ := h
  obtain ⟨A, c, rfl, hr⟩ := ho.row
  exact ⟨A, c, he, Lib.hid hr, hb⟩
theorem long1 (o : Outc) (A : Option Addr) (c : Nat) (w : World) (hA : RowAt w A (cellsOf o.caps)) (hl : o.caps.length ≤ 281474976710656) :
    Calls Tryd.prog 10 #[.slice (some ⟨w.heap.size, 0, none⟩) 1 1] (w.alloc (.cells #[.bool o.ok, .int .i64 o.to, .slice A o.caps.length c] 24)) fun e w' => ∃ b : Bool, e = .returned (.bool b) ∧ (w.alloc (.cells #[.bool o.ok, .int .i64 o.to, .slice A o.caps.length c] 24)) = w' ∧ (b = false → o.caps.length < 900) := by
  refine (long_any [⟨A, c, o⟩] (some ⟨w.heap.size, 0, none⟩) 1 (w.alloc (.cells #[.bool o.ok, .int .i64 o.to, .slice A o.caps.length c] 24)) (RowAt.blk (heap_alloc_new w _)) (fun i h => ?_) (by simp) (fun i h => ?_)).mono ?_
  · obtain rfl : i = 0 := by simp at h; omega
    exact hA.below (box1 _ _)
  · obtain rfl : i = 0 := by simp at h; omega
    exact hl
  · rintro e w' ⟨b, he, hw, hb⟩
    exact ⟨b, he, hw, fun h => hb h 0 (by simp)⟩

set_option maxRecDepth 100000 in
set_option maxHeartbeats 1600000 in
theorem spanMoved_walk (o : Outc) (by' : Int) (A : Option Addr) (c : Nat) (w : World) (hA : RowAt w A (cellsOf o.caps)) (hs : ∀ c ∈ o.caps, c.name.size ≤ 281474976710656) (hl : o.caps.length ≤ 281474976710656) (hby : -9223372036854775808 ≤ by' ∧ by' ≤ 9223372036854775807) (ht : Tab w) :
    Calls Tryd.prog 4 #[outV A c o, .int .i64 by'] w fun e w' => e = .returned (.bool true) ∧ Below w.heap.size w w' := by
  obtain ⟨ok, to, l⟩ := o
  simp only at hA hs hl
  have HBY := Lib.hid hby
  obtain ⟨hby1, hby2⟩ := hby
  go_enter Tryd.func4, Tryd.ntmps4
  have HT := Lib.hid ht; clear ht
  go_wp2_with fail
  generalize hW : w.alloc (.cells #[.bool ok, .int .i64 to, .slice A l.length c] 24) = W
  have HWZ := Lib.hid (show W.heap.size = w.heap.size + 1 by rw [← hW]; simp)
  have HWB := Lib.hid (show Below w.heap.size w W by rw [← hW]; exact box1 _ _)
  have HK := Lib.hid (show W.heap[w.heap.size]? = some (.cells #[.bool ok, .int .i64 to, .slice A l.length c] 24 (0, 0)) by rw [← hW]; exact heap_alloc_new _ _)
  clear hW
  have HR := Lib.hid (hA.below HWB.out); clear hA
  have HTW := Lib.hid (HT.out.below HWB.out); clear HT
  have HF := Lib.hid (show ∀ w', Below W.heap.size W w' → w'.cell? ⟨w.heap.size, 0, none⟩ = some (.bool ok) ∧ w'.cell? ⟨w.heap.size, 1, none⟩ = some (.int .i64 to) ∧ w'.cell? ⟨w.heap.size, 2, none⟩ = some (.slice A l.length c) from fun w' hb => by
    have h := blk3 ((hb.block _ (by have := HWZ.out; omega)).trans HK.out); exact ⟨h.1, h.2.1, h.2.2.1⟩)
  refine (works_any _ HTW.out).mono ?_
  rintro e w1 ⟨rfl, hb1⟩
  have HB1 := Lib.hid hb1; clear hb1
  obtain ⟨f1, f2, f3⟩ := HF.out _ HB1.out
  go_wp2_with fail
  refine (long1 ⟨ok, to, l⟩ A c w1 (HR.out.below HB1.out) hl).mono ?_
  rintro e w2 ⟨b, rfl, rfl, hlong⟩
  have HB2 := Lib.hid (HB1.out.alloc HB1.out.size (.cells #[.bool ok, .int .i64 to, .slice A l.length c] 24)); clear HB1
  clear f1 f2 f3
  generalize (w1.alloc (.cells #[.bool ok, .int .i64 to, .slice A l.length c] 24)) = w2 at *
  cases b
  · clear hlong
    obtain ⟨f1, f2, f3⟩ := HF.out _ HB2.out
    go_wp2_with fail
    refine (shift_any ⟨ok, to, l⟩ by' A c _ (HR.out.below HB2.out) hs hl HBY.out).mono ?_
    rintro e w3 hp
    obtain ⟨A3, c3, rfl, HR3, hb3⟩ := hp.row
    clear hp f1 f2 f3
    have HB3 := Lib.hid (HB2.out.trans (hb3.mono HB2.out.size)); clear hb3 HB2
    have hz3 := HB3.out.size
    cases hr : (shiftO ⟨ok, to, l⟩ by').2
    · have HN := Lib.hid (shift_no hr)
      have e0 := HN.out.1
      rw [e0] at HR3
      rw [e0]
      clear hr e0 HR3
      cases hm : mayO ⟨ok, to, l⟩ 4096
      · have HMM := Lib.hid hm; clear hm
        go_wp2_with fail
        generalize hWn : w3.alloc (.cells #[.bool false, .int .i64 0, .slice A3 0 c3] 24) = Wn
        have hn3 : w3.heap.size < Wn.heap.size := by rw [← hWn]; simp
        have HBn := Lib.hid (show Below W.heap.size W Wn by rw [← hWn]; exact HB3.out.alloc hz3 _)
        have hnb := (show Wn.heap[w3.heap.size]? = some (.cells #[.bool false, .int .i64 0, .slice A3 0 c3] 24 (0, 0)) by rw [← hWn]; exact heap_alloc_new _ _)
        clear hWn
        have HSB := Lib.hid (show ∀ w', Below Wn.heap.size Wn w' → (w'.cell? ⟨w3.heap.size, 0, none⟩ = some (.bool false) ∧ w'.cell? ⟨w3.heap.size, 1, none⟩ = some (.int .i64 0) ∧ w'.cell? ⟨w3.heap.size, 2, none⟩ = some (.slice A3 0 c3)) ∧ (w'.cell? ⟨w.heap.size, 0, none⟩ = some (.bool ok) ∧ w'.cell? ⟨w.heap.size, 1, none⟩ = some (.int .i64 to) ∧ w'.cell? ⟨w.heap.size, 2, none⟩ = some (.slice A l.length c)) ∧ Below Wn.heap.size Wn w' from
          fun w' hb => by
            have h := blk3 ((hb.block _ hn3).trans hnb)
            exact ⟨⟨h.1, h.2.1, h.2.2.1⟩, HF.out _ (HBn.out.trans (hb.mono HBn.out.size)), hb⟩)
        clear hnb
        have HB0 := Lib.hid (show Below Wn.heap.size Wn Wn.drew from (Below.refl _ _).drew)
        obtain ⟨⟨p1, p2, p3⟩, ⟨p4, p5, p6⟩, _⟩ := HSB.out _ HB0.out
        have hund : undef = Value.tuple #[] := rfl
        first
          | go_region_with (first | (go_at_call 18; refine (fail_any _).mono ?_; rintro e w5 ⟨rfl, hb5⟩; have HB5 := Lib.hid (HB0.out.trans (hb5.mono HB0.out.size)); clear hb5; obtain ⟨⟨r1, r2, r3⟩, ⟨r4, r5, r6⟩, _⟩ := HSB.out _ HB5.out) | (go_at_call 12; refine (same_any ⟨false, 0, []⟩ ⟨false, 0, []⟩ A3 none c3 0 _ (fun j u h => by simp [cellsOf] at h) (fun j u h => by simp [cellsOf] at h) (by simp) (by simp)).mono ?_; rintro e w6 ⟨he, hb6⟩; obtain rfl : e = .returned (.bool true) := (by rw [he]; simp); clear he; have HB6 := Lib.hid (HB5.out.trans (hb6.mono HB5.out.size)); clear hb6; obtain ⟨⟨s1, s2, s3⟩, ⟨s4, s5, s6⟩, _⟩ := HSB.out _ HB6.out) | (go_at_call 13; refine (smay_any ⟨ok, to, l⟩ 4096 A c _ (HR.out.below (HBn.out.trans (HB6.out.mono HBn.out.size))) hs hl).mono ?_; rintro e w7 ⟨he, hb7⟩; rw [HMM.out] at he; subst he; have HB7 := Lib.hid (HB6.out.trans (hb7.mono HB6.out.size)); clear hb7))
          | fail
        all_goals clear hund
        all_goals go_wp2_with fail
        all_goals go_ret
        all_goals exact ⟨rfl, HWB.out.trans ((HBn.out.trans (HB7.out.mono HBn.out.size)).mono HWB.out.size)⟩
      · have HMM := Lib.hid hm
        obtain ⟨rfl, hb0⟩ := HN.out.2 hm
        clear hm
        have hbz : (by' != 0) = true := by simpa using hb0
        clear hb0
        go_wp2_with fail
        generalize hWn : w3.alloc (.cells #[.bool false, .int .i64 0, .slice A3 0 c3] 24) = Wn
        have hn3 : w3.heap.size < Wn.heap.size := by rw [← hWn]; simp
        have HBn := Lib.hid (show Below W.heap.size W Wn by rw [← hWn]; exact HB3.out.alloc hz3 _)
        have hnb := (show Wn.heap[w3.heap.size]? = some (.cells #[.bool false, .int .i64 0, .slice A3 0 c3] 24 (0, 0)) by rw [← hWn]; exact heap_alloc_new _ _)
        clear hWn
        have HSB := Lib.hid (show ∀ w', Below Wn.heap.size Wn w' → (w'.cell? ⟨w3.heap.size, 0, none⟩ = some (.bool false) ∧ w'.cell? ⟨w3.heap.size, 1, none⟩ = some (.int .i64 0) ∧ w'.cell? ⟨w3.heap.size, 2, none⟩ = some (.slice A3 0 c3)) ∧ (w'.cell? ⟨w.heap.size, 0, none⟩ = some (.bool true) ∧ w'.cell? ⟨w.heap.size, 1, none⟩ = some (.int .i64 to) ∧ w'.cell? ⟨w.heap.size, 2, none⟩ = some (.slice A l.length c)) ∧ Below Wn.heap.size Wn w' from
          fun w' hb => by
            have h := blk3 ((hb.block _ hn3).trans hnb)
            exact ⟨⟨h.1, h.2.1, h.2.2.1⟩, HF.out _ (HBn.out.trans (hb.mono HBn.out.size)), hb⟩)
        clear hnb
        have HB0 := Lib.hid (show Below Wn.heap.size Wn Wn.drew from (Below.refl _ _).drew)
        go_region_held3 (fun w' => (w'.cell? ⟨w3.heap.size, 0, none⟩ = some (.bool false) ∧ w'.cell? ⟨w3.heap.size, 1, none⟩ = some (.int .i64 0) ∧ w'.cell? ⟨w3.heap.size, 2, none⟩ = some (.slice A3 0 c3)) ∧ (w'.cell? ⟨w.heap.size, 0, none⟩ = some (.bool true) ∧ w'.cell? ⟨w.heap.size, 1, none⟩ = some (.int .i64 to) ∧ w'.cell? ⟨w.heap.size, 2, none⟩ = some (.slice A l.length c)) ∧ Below Wn.heap.size Wn w')
          (first | exact HSB.out _ HB0.out | exact HSB.out _ HB5.out | exact HSB.out _ HB6.out | exact HSB.out _ HB7.out)
          (first | (go_at_call 18; refine (fail_any _).mono ?_; rintro e w5 ⟨rfl, hb5⟩; have HB5 := Lib.hid (HB0.out.trans (hb5.mono HB0.out.size)); clear hb5) | (go_at_call 12; refine (same_any ⟨false, 0, []⟩ ⟨false, 0, []⟩ A3 none c3 0 _ (fun j u h => by simp [cellsOf] at h) (fun j u h => by simp [cellsOf] at h) (by simp) (by simp)).mono ?_; rintro e w6 ⟨he, hb6⟩; obtain rfl : e = .returned (.bool true) := (by rw [he]; simp); clear he; have HB6 := Lib.hid (HB5.out.trans (hb6.mono HB5.out.size)); clear hb6) | (go_at_call 13; refine (smay_any ⟨true, to, l⟩ 4096 A c _ (HR.out.below (HBn.out.trans (HB6.out.mono HBn.out.size))) hs hl).mono ?_; rintro e w7 ⟨he, hb7⟩; rw [HMM.out] at he; subst he; have HB7 := Lib.hid (HB6.out.trans (hb7.mono HB6.out.size)); clear hb7))
        all_goals go_wp2_with fail
        all_goals go_ret
        all_goals exact ⟨rfl, HWB.out.trans ((HBn.out.trans (HB7.out.mono HBn.out.size)).mono HWB.out.size)⟩
    · cases ok
      · have HN := Lib.hid (shift_failed (o := ⟨false, to, l⟩) rfl hr)
        have e0 := HN.out
        rw [e0] at HR3
        rw [e0]
        clear hr e0
        have hm1 : w.heap.size < w3.heap.size := by have := HWZ.out; omega
        obtain ⟨f1, f2, f3⟩ := HF.out _ HB3.out
        go_wp2_with fail
        refine (same_any ⟨false, to, l⟩ ⟨false, to, l⟩ A3 A c3 c _ (HR3.out.below (box1 _ _)) (HR.out.below (HB3.out.alloc hz3 _)) hl hl).mono ?_
        rintro e w4 ⟨rfl, hb4⟩
        go_wp2_with fail
        go_ret
        exact ⟨ret_bool (by simp), HWB.out.trans (((HB3.out.alloc hz3 _).trans (hb4.mono (by simp; omega))).mono HWB.out.size)⟩
      · have hM := shift_yes rfl hr
        have HR2 := Lib.hid hr
        clear hr
        generalize (shiftO ⟨true, to, l⟩ by').1 = x at *
        obtain ⟨xk, xt, xl⟩ := x
        obtain rfl : xk = true := hM.xok
        obtain rfl : xt = to + by' := hM.xto
        have HM := Lib.hid hM
        have hlo := hM.lo
        have hhi := hM.hi
        have hxl : xl.length ≤ 65536 := ((may_iff rfl).1 hM.xmay).2.2.2.2.1
        have hxs : Hid (∀ c ∈ xl, c.name.size ≤ 281474976710656) := Lib.hid fun c hc => by
          have h := ((may_iff rfl).1 hM.xmay).2.2.2.2.2.1 c hc
          have h1 := h.1
          simp only [mayL, decide_eq_true_eq] at h1
          rw [← sz_data]; omega
        have hto : 0 ≤ to ∧ to ≤ 4096 := by have h := (may_iff rfl).1 hM.may; exact ⟨h.2.2.1, h.2.2.2.1⟩
        have hto2 : 0 ≤ to + by' ∧ to + by' ≤ 4096 := by have h := (may_iff rfl).1 hM.xmay; exact ⟨h.2.2.1, h.2.2.2.1⟩
        obtain ⟨ht0, ht1⟩ := hto
        obtain ⟨ht2, ht3⟩ := hto2
        have HMO := Lib.hid (may_own hM.may rfl)
        have HMX := Lib.hid (may_own hM.xmay rfl)
        have HML := Lib.hid (may_less (o := ⟨true, to + by', xl⟩) rfl)
        have HBK := Lib.hid hM.back
        clear hM
        have hm1 : w.heap.size < w3.heap.size := by have := HWZ.out; omega
        obtain ⟨f1, f2, f3⟩ := HF.out _ HB3.out
        go_wp2_with fail
        clear f1 f2 f3
        generalize hWn : w3.alloc (.cells #[.bool true, .int .i64 (to + by'), .slice A3 xl.length c3] 24) = Wn
        have hn3 : w3.heap.size < Wn.heap.size := by rw [← hWn]; simp
        have HBn := Lib.hid (show Below W.heap.size W Wn by rw [← hWn]; exact HB3.out.alloc hz3 _)
        have HKn := Lib.hid (show Wn.heap[w3.heap.size]? = some (.cells #[.bool true, .int .i64 (to + by'), .slice A3 xl.length c3] 24 (0, 0)) by rw [← hWn]; exact heap_alloc_new _ _)
        have HR3n := Lib.hid (show RowAt Wn A3 (cellsOf xl) by rw [← hWn]; exact HR3.out.below (box1 _ _))
        clear hWn HR3
        have HG := Lib.hid (show ∀ w', Below Wn.heap.size Wn w' → (w'.cell? ⟨w3.heap.size, 0, none⟩ = some (.bool true) ∧ w'.cell? ⟨w3.heap.size, 1, none⟩ = some (.int .i64 (to + by')) ∧ w'.cell? ⟨w3.heap.size, 2, none⟩ = some (.slice A3 xl.length c3)) ∧ (w'.cell? ⟨w.heap.size, 0, none⟩ = some (.bool true) ∧ w'.cell? ⟨w.heap.size, 1, none⟩ = some (.int .i64 to) ∧ w'.cell? ⟨w.heap.size, 2, none⟩ = some (.slice A l.length c)) from
          fun w' hb => by
            have h := blk3 ((hb.block _ hn3).trans HKn.out)
            exact ⟨⟨h.1, h.2.1, h.2.2.1⟩, HF.out _ (HBn.out.trans (hb.mono HBn.out.size))⟩)
        have hsh := shift_any ⟨true, to + by', xl⟩ (-by') A3 c3 Wn HR3n.out hxs.out (by simp only; omega) (by omega)
        rw [HBK.out] at hsh
        refine hsh.mono ?_
        clear hsh
        rintro e w5 hp
        obtain ⟨A5, c5, rfl, HR5, hb5⟩ := hp.row
        clear hp
        have HB5 := Lib.hid hb5; clear hb5
        have hz5 := HB5.out.size
        have hm5 : w.heap.size < w5.heap.size := by omega
        have hm6 : w3.heap.size < w5.heap.size := by omega
        obtain ⟨⟨p1, p2, p3⟩, q1, q2, q3⟩ := HG.out w5 HB5.out
        go_wp2_with fail
        clear p1 p2 p3 q1 q2 q3
        refine (same_any ⟨true, to, l⟩ ⟨true, to, l⟩ A5 A c5 c _ (HR5.out.below (box1 _ _)) (HR.out.below ((HBn.out.trans (HB5.out.mono HBn.out.size)).trans ((box1 w5 _).mono (by omega)))) hl hl).mono ?_
        rintro e w6 ⟨he, hb6⟩
        obtain rfl : e = .returned (.bool true) := by rw [he]; simp
        clear he
        have HB6 := Lib.hid ((HB5.out.alloc hz5 _).trans (hb6.mono (by simp; omega))); clear hb6
        obtain ⟨⟨p1, p2, p3⟩, q1, q2, q3⟩ := HG.out w6 HB6.out
        have e1 : (to + by' - to == by') = true := by simp; omega
        go_wp2_with fail
        clear p1 p2 p3 q1 q2 q3
        have hm := smay_any ⟨true, to + by', xl⟩ (to + by') A3 c3 w6 (HR3n.out.below HB6.out) hxs.out (by simp only; omega)
        rw [HMX.out] at hm
        refine hm.mono ?_
        clear hm
        rintro e w7 ⟨rfl, hb7⟩
        have HB7 := Lib.hid (HB6.out.trans (hb7.mono HB6.out.size)); clear hb7
        obtain ⟨⟨p1, p2, p3⟩, q1, q2, q3⟩ := HG.out w7 HB7.out
        go_wp2_with fail
        clear p1 p2 p3 q1 q2 q3
        have hm := smay_any ⟨true, to, l⟩ to A c w7 (HR.out.below (HBn.out.trans (HB7.out.mono HBn.out.size))) hs hl
        rw [HMO.out] at hm
        refine hm.mono ?_
        clear hm
        rintro e w8 ⟨rfl, hb8⟩
        have HB8 := Lib.hid (HB7.out.trans (hb8.mono HB7.out.size)); clear hb8
        obtain ⟨⟨p1, p2, p3⟩, q1, q2, q3⟩ := HG.out w8 HB8.out
        cases h0 : (to + by' == 0)
        · go_wp2_with fail
          clear p1 p2 p3 q1 q2 q3
          have hm := smay_any ⟨true, to + by', xl⟩ (to + by' - 1) A3 c3 w8 (HR3n.out.below HB8.out) hxs.out (by simp only; omega)
          rw [HML.out] at hm
          refine hm.mono ?_
          clear hm
          rintro e w9 ⟨rfl, hb9⟩
          go_wp2_with fail
          go_ret
          exact ⟨rfl, HWB.out.trans ((HBn.out.trans ((HB8.out.trans (hb9.mono HB8.out.size)).mono HBn.out.size)).mono HWB.out.size)⟩
        · go_wp2_with fail
          go_ret
          exact ⟨rfl, HWB.out.trans ((HBn.out.trans (HB8.out.mono HBn.out.size)).mono HWB.out.size)⟩
  · clear hlong
    go_wp2_with fail
    refine (works_any _ (HTW.out.below HB2.out)).mono ?_
    rintro e w3 ⟨rfl, hb3⟩
    go_wp2_with fail
    go_ret
    exact ⟨rfl, HWB.out.trans ((HB2.out.trans (hb3.mono HB2.out.size)).mono HWB.out.size)⟩
end Go.Proofs.YtogmkekbdfckpaaDoor
