/- The walk of the statement SpanBack. -/
import Derived.Test.YtogmkekbdfckpaaDoorSu
import Derived.Test.YtogmkekbdfckpaaDoorTd
import Derived.Test.YtogmkekbdfckpaaDoorTb
namespace Go.Proofs.YtogmkekbdfckpaaDoor
open Go.RowKit
set_option linter.unusedSimpArgs false
set_option linter.unusedVariables false

theorem parse_shown {o : Outc} (hm : mayO o 4096 = true) : parseO (textO o) = (o, 0) := parse_yes (lo_of_text hm) hm rfl
theorem text_len {o : Outc} (hm : mayO o 4096 = true) (hl : o.caps.length < 900) : (textO o).length ≤ 80000 := by
  unfold textO
  cases hk : o.ok
  · simp
  · have h1 := mayO_caps' hm
    have h2 := lines_len h1.2.2.2
    have h3 := itoa_len o.to h1.1 h1.2.1
    simp only [if_true, headO, List.length_append, List.length_cons, List.length_nil]
    omega
theorem may_names {o : Outc} (hm : mayO o 4096 = true) : (∀ c ∈ o.caps, c.name.size ≤ 281474976710656) ∧ o.caps.length ≤ 281474976710656 := by
  have h1 := mayO_caps' hm
  refine ⟨fun c hc => ?_, by omega⟩
  have h := (h1.2.2.2 c hc).1
  simp only [mayL, decide_eq_true_eq] at h
  rw [← sz_data]; omega
theorem ba_of {t s : ByteArray} (h : t.data.toList = s.data.toList) : t = s := by
  obtain ⟨⟨t⟩⟩ := t; obtain ⟨⟨s⟩⟩ := s; simp only at h; rw [h]

set_option maxRecDepth 100000 in
set_option maxHeartbeats 1600000 in
theorem spanBack_walk (o : Outc) (s : ByteArray) (A : Option Addr) (c : Nat) (w : World) (hA : RowAt w A (cellsOf o.caps)) (hs : ∀ c ∈ o.caps, c.name.size ≤ 281474976710656) (hl : o.caps.length ≤ 281474976710656) (ht : Tab w) :
    Calls Tryd.prog 7 #[outV A c o, .string s] w fun e w' => e = .returned (.bool true) ∧ Below w.heap.size w w' := by
  obtain ⟨ok, to, l⟩ := o
  simp only at hA hs hl
  go_enter Tryd.func7, Tryd.ntmps7
  have HT := Lib.hid ht; clear ht
  have HS := Lib.hid hs; clear hs
  go_wp2_with fail
  generalize hW : w.alloc (.cells #[.bool ok, .int .i64 to, .slice A l.length c] 24) = W
  have HWZ := Lib.hid (show W.heap.size = w.heap.size + 1 by rw [← hW]; simp)
  have HWB := Lib.hid (show Below w.heap.size w W by rw [← hW]; exact box1 _ _)
  have HK := Lib.hid (show W.heap[w.heap.size]? = some (.cells #[.bool ok, .int .i64 to, .slice A l.length c] 24 (0, 0)) by rw [← hW]; exact heap_alloc_new _ _)
  clear hW
  have HR := Lib.hid (hA.below HWB.out); clear hA
  have HTW := Lib.hid (HT.out.below HWB.out); clear HT
  have HF := Lib.hid (show ∀ w', Below W.heap.size W w' → w'.cell? ⟨w.heap.size, 0, none⟩ = some (.bool ok) ∧ w'.cell? ⟨w.heap.size, 1, none⟩ = some (.int .i64 to) ∧ w'.cell? ⟨w.heap.size, 2, none⟩ = some (.slice A l.length c) from fun w' hb => by
    have h := blk3 ((hb.block _ (by have := HWZ.out; omega)).trans HK.out); exact ⟨h.1, h.2.1, h.2.2.1⟩)
  refine (works_any _ HTW.out).mono ?_
  rintro e w1 ⟨rfl, hb1⟩
  have HB1 := Lib.hid hb1; clear hb1
  obtain ⟨f1, f2, f3⟩ := HF.out _ HB1.out
  go_wp2_with fail
  refine (long1 ⟨ok, to, l⟩ A c w1 (HR.out.below HB1.out) hl).mono ?_
  rintro e w2 ⟨b, rfl, rfl, hlong⟩
  have HLG := Lib.hid hlong; clear hlong
  have HB2 := Lib.hid (HB1.out.alloc HB1.out.size (.cells #[.bool ok, .int .i64 to, .slice A l.length c] 24)); clear HB1
  clear f1 f2 f3
  generalize (w1.alloc (.cells #[.bool ok, .int .i64 to, .slice A l.length c] 24)) = w2 at *
  by_cases hgo : b = false ∧ s.size ≤ 6000
  · obtain ⟨rfl, hs6⟩ := hgo
    have HLL := Lib.hid (HLG.out rfl); clear HLG
    obtain ⟨f1, f2, f3⟩ := HF.out _ HB2.out
    go_wp2_with fail
    refine (sshow_any ⟨ok, to, l⟩ A c _ (HR.out.below HB2.out) HS.out hl (HTW.out.below HB2.out)).mono ?_
    rintro e w3 ⟨t, rfl, ht3, hb3⟩
    clear f1 f2 f3
    have HB3 := Lib.hid (HB2.out.trans (hb3.mono HB2.out.size)); clear hb3 HB2
    have hz3 := HB3.out.size
    obtain ⟨f1, f2, f3⟩ := HF.out _ HB3.out
    cases hm : mayO ⟨ok, to, l⟩ 4096
    case' false =>
      have HMM := Lib.hid hm
      rw [show showO ⟨ok, to, l⟩ = ([], 4) from show_no hm]
      clear hm ht3
      go_wp2_with fail
      have hmm := smay_any ⟨ok, to, l⟩ 4096 A c w3 (HR.out.below HB3.out) HS.out hl
      rw [HMM.out] at hmm
      refine hmm.mono ?_
      clear hmm f1 f2 f3
      rintro e w4 ⟨rfl, hb4⟩
      have HBV := Lib.hid (HB3.out.trans (hb4.mono HB3.out.size)); clear hb4 HB3 hz3
      go_wp2_with fail
      generalize w4 = V at *
    case' true =>
      have HMM := Lib.hid hm
      rw [show showO ⟨ok, to, l⟩ = (textO ⟨ok, to, l⟩, 0) from if_pos hm] at ht3 ⊢
      simp only at ht3
      have htl : t.size ≤ 80000 := by rw [← sz_data, ht3]; exact text_len hm HLL.out
      have HPP := Lib.hid (show parseO t.data.toList = (⟨ok, to, l⟩, 0) by rw [ht3]; exact parse_shown hm)
      clear hm ht3
      go_wp2_with fail
      have hmm := smay_any ⟨ok, to, l⟩ 4096 A c w3 (HR.out.below HB3.out) HS.out hl
      rw [HMM.out] at hmm
      refine hmm.mono ?_
      clear hmm f1 f2 f3
      rintro e w4 ⟨rfl, hb4⟩
      have HB4 := Lib.hid (HB3.out.trans (hb4.mono HB3.out.size)); clear hb4 HB3 hz3
      go_wp2_with fail
      have hpp := parse_any t (by omega) w4
      rw [HPP.out] at hpp
      refine hpp.mono ?_
      clear hpp
      rintro e w5 ⟨_, rfl, ho5, hb5⟩
      obtain ⟨X, xc, rfl, hr5⟩ := ho5.row
      clear ho5
      have HR5 := Lib.hid hr5; clear hr5
      have HB5 := Lib.hid (HB4.out.trans (hb5.mono HB4.out.size)); clear hb5 HB4
      have hz5 := HB5.out.size
      have hm5 : w.heap.size < w5.heap.size := by have := HWZ.out; omega
      obtain ⟨f1, f2, f3⟩ := HF.out _ HB5.out
      go_wp2_with fail
      refine (same_any ⟨ok, to, l⟩ ⟨ok, to, l⟩ X A xc c _ (HR5.out.below (box1 _ _)) (HR.out.below (HB5.out.alloc hz5 _)) hl hl).mono ?_
      rintro e w6 ⟨he, hb6⟩
      obtain rfl : e = .returned (.bool true) := by rw [he]; simp
      clear he f1 f2 f3
      have HBV := Lib.hid ((HB5.out.alloc hz5 _).trans (hb6.mono (by simp; omega)))
      clear hb6 hz5 hm5 HB5
      go_wp2_with fail
      generalize w6 = V at *
    all_goals
      clear HMM
      by_cases hc : mayO (loO s.data.toList) 4096 = true ∧ textO (loO s.data.toList) = s.data.toList
      · have hpp := parse_any s (by omega) V
        rw [parse_yes rfl hc.1 hc.2] at hpp
        refine hpp.mono ?_
        clear hpp
        rintro e w7 ⟨_, rfl, ho7, hb7⟩
        obtain ⟨Y, yc, rfl, hr7⟩ := ho7.row
        clear ho7
        generalize loO s.data.toList = x at *
        obtain ⟨hxm, hxt⟩ := hc
        have HX := Lib.hid (may_names hxm)
        have HXS := Lib.hid (show showO x = (textO x, 0) from if_pos hxm)
        obtain ⟨xk, xt, xl⟩ := x
        have HXM := Lib.hid hxm; have HXT := Lib.hid hxt; clear hxm hxt
        have HR7 := Lib.hid hr7; clear hr7
        have HB7 := Lib.hid (HBV.out.trans (hb7.mono HBV.out.size)); clear hb7 HBV
        have hz7 := HB7.out.size
        go_wp2_with fail
        generalize hWn : w7.alloc (.cells #[.bool xk, .int .i64 xt, .slice Y xl.length yc] 24) = Wn
        have hn7 : w7.heap.size < Wn.heap.size := by rw [← hWn]; simp
        have HBn := Lib.hid (show Below W.heap.size W Wn by rw [← hWn]; exact HB7.out.alloc hz7 _)
        have HKn := Lib.hid (show Wn.heap[w7.heap.size]? = some (.cells #[.bool xk, .int .i64 xt, .slice Y xl.length yc] 24 (0, 0)) by rw [← hWn]; exact heap_alloc_new _ _)
        have HRn := Lib.hid (show RowAt Wn Y (cellsOf xl) by rw [← hWn]; exact HR7.out.below (box1 _ _))
        clear hWn HR7
        have HG := Lib.hid (show ∀ w', Below Wn.heap.size Wn w' → (w'.cell? ⟨w7.heap.size, 0, none⟩ = some (.bool xk) ∧ w'.cell? ⟨w7.heap.size, 1, none⟩ = some (.int .i64 xt) ∧ w'.cell? ⟨w7.heap.size, 2, none⟩ = some (.slice Y xl.length yc)) from
          fun w' hb => by
            have h := blk3 ((hb.block _ hn7).trans HKn.out)
            exact ⟨h.1, h.2.1, h.2.2.1⟩)
        have hsh := sshow_any ⟨xk, xt, xl⟩ Y yc Wn HRn.out HX.out.1 HX.out.2 (HTW.out.below HBn.out)
        rw [HXS.out] at hsh
        refine hsh.mono ?_
        clear hsh
        rintro e w8 ⟨u, rfl, hu, hb8⟩
        obtain rfl : u = s := ba_of (by rw [hu]; exact HXT.out)
        clear hu
        have HB8 := Lib.hid hb8; clear hb8
        have hz8 := HB8.out.size
        obtain ⟨g1, g2, g3⟩ := HG.out _ HB8.out
        go_wp2_with fail
        have hmm := smay_any ⟨xk, xt, xl⟩ 4096 Y yc w8 (HRn.out.below HB8.out) HX.out.1 HX.out.2
        rw [HXM.out] at hmm
        refine hmm.mono ?_
        clear hmm g1 g2 g3
        rintro e w9 ⟨rfl, hb9⟩
        go_wp2_with fail
        go_ret
        exact ⟨ret_bool (by simp), HWB.out.trans ((HBn.out.trans ((HB8.out.trans (hb9.mono HB8.out.size)).mono HBn.out.size)).mono HWB.out.size)⟩
      · have hpp := parse_any s (by omega) V
        rw [parse_no rfl (fun h1 h2 => hc ⟨h1, h2⟩)] at hpp
        refine hpp.mono ?_
        clear hpp
        rintro e w7 ⟨_, rfl, ho7, hb7⟩
        obtain ⟨Y, yc, rfl, hr7⟩ := ho7.row
        clear ho7 hr7 hc
        have HB7 := Lib.hid (HBV.out.trans (hb7.mono HBV.out.size)); clear hb7 HBV
        have hz7 := HB7.out.size
        go_wp2_with fail
        go_ret
        exact ⟨rfl, HWB.out.trans ((HB7.out.alloc hz7 _).mono HWB.out.size)⟩
  · have hgo' : b = true ∨ (b = false ∧ ¬ s.size ≤ 6000) := by cases b <;> simp_all
    rcases hgo' with rfl | ⟨rfl, hs3⟩
    all_goals
      clear hgo
      go_wp2_with fail
      refine (works_any _ (HTW.out.below HB2.out)).mono ?_
      rintro e w3 ⟨rfl, hb3⟩
      go_wp2_with fail
      go_ret
      exact ⟨rfl, HWB.out.trans ((HB2.out.trans (hb3.mono HB2.out.size)).mono HWB.out.size)⟩
end Go.Proofs.YtogmkekbdfckpaaDoor
