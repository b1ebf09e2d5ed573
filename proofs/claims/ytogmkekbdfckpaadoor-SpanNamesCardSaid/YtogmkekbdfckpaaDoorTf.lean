/- The walk of the statement SpanTexts. -/
import Derived.Test.YtogmkekbdfckpaaDoorTe
namespace Go.Proofs.YtogmkekbdfckpaaDoor
open Go.RowKit
set_option linter.unusedSimpArgs false
set_option linter.unusedVariables false

theorem parse_caps (s : List UInt8) : (parseO s).1.caps.length ≤ 281474976710656 := by
  unfold parseO
  split
  · rename_i h; exact (may_names h.1).2
  · simp
theorem show_len {o : Outc} (hl : o.caps.length < 900) : (showO o).1.length ≤ 80000 := by
  unfold showO
  split
  · rename_i h; exact text_len h hl
  · simp
theorem ParsePost.row {w w' : World} {r : Outc × Int} {e : Ending} (h : ParsePost w r e w') : ∃ A c, e = .returned (.tuple #[outV A c r.1, .int .i64 r.2]) ∧ Hid (RowAt w' A (cellsOf r.1.caps)) ∧ Below w.heap.size w w' := by
  obtain ⟨v, he, ho, hb⟩ := h
  obtain ⟨A, c, rfl, hr⟩ := ho.row
  exact ⟨A, c, he, Lib.hid hr, hb⟩

set_option maxRecDepth 100000 in
set_option maxHeartbeats 1600000 in
theorem spanTexts_walk (o : Outc) (s : ByteArray) (A : Option Addr) (c : Nat) (w : World) (hA : RowAt w A (cellsOf o.caps)) (hs : ∀ c ∈ o.caps, c.name.size ≤ 281474976710656) (hl : o.caps.length ≤ 281474976710656) (ht : Tab w) :
    Calls Tryd.prog 6 #[outV A c o, .string s] w fun e w' => e = .returned (.bool true) ∧ Below w.heap.size w w' := by
  obtain ⟨ok, to, l⟩ := o
  simp only at hA hs hl
  go_enter Tryd.func6, Tryd.ntmps6
  have HT := Lib.hid ht; clear ht
  have HS := Lib.hid hs; clear hs
  go_wp2_with fail
  generalize hW : w.alloc (.cells #[.bool ok, .int .i64 to, .slice A l.length c] 24) = W
  have HWZ := Lib.hid (show W.heap.size = w.heap.size + 1 by rw [← hW]; simp)
  have HWB := Lib.hid (show Below w.heap.size w W by rw [← hW]; exact box1 _ _)
  have HK := Lib.hid (show W.heap[w.heap.size]? = some (.cells #[.bool ok, .int .i64 to, .slice A l.length c] 24 (0, 0)) by rw [← hW]; exact heap_alloc_new _ _)
  have hcW : (W.cell? ⟨w.heap.size, 0, none⟩ = some (.bool ok) ∧ W.cell? ⟨w.heap.size, 1, none⟩ = some (.int .i64 to) ∧ W.cell? ⟨w.heap.size, 2, none⟩ = some (.slice A l.length c)) := by
    have h := blk3 HK.out; exact ⟨h.1, h.2.1, h.2.2.1⟩
  have HLW := long1 ⟨ok, to, l⟩ A c W (hA.below HWB.out) hl
  rw [HWZ.out] at HLW
  clear hW
  have HR := Lib.hid (hA.below HWB.out); clear hA
  have HTW := Lib.hid (HT.out.below HWB.out); clear HT
  have HF := Lib.hid (show ∀ w', Below W.heap.size W w' → w'.cell? ⟨w.heap.size, 0, none⟩ = some (.bool ok) ∧ w'.cell? ⟨w.heap.size, 1, none⟩ = some (.int .i64 to) ∧ w'.cell? ⟨w.heap.size, 2, none⟩ = some (.slice A l.length c) from fun w' hb => by
    have h := blk3 ((hb.block _ (by have := HWZ.out; omega)).trans HK.out); exact ⟨h.1, h.2.1, h.2.2.1⟩)
  obtain ⟨f1, f2, f3⟩ := hcW
  go_wp2_with fail
  refine HLW.mono ?_
  clear HLW
  rintro e w2 ⟨b, rfl, rfl, hlong⟩
  have HLG := Lib.hid hlong; clear hlong
  have HB2 := Lib.hid (show Below W.heap.size W (W.alloc (.cells #[.bool ok, .int .i64 to, .slice A l.length c] 24)) from box1 _ _)
  clear f1 f2 f3
  generalize (W.alloc (.cells #[.bool ok, .int .i64 to, .slice A l.length c] 24)) = w2 at *
  by_cases hgo : b = false ∧ s.size ≤ 6000
  · obtain ⟨rfl, hs6⟩ := hgo
    have HLL := Lib.hid (HLG.out rfl); clear HLG
    obtain ⟨f1, f2, f3⟩ := HF.out _ HB2.out
    go_wp2_with fail
    refine (sshow_any ⟨ok, to, l⟩ A c _ (HR.out.below HB2.out) HS.out hl (HTW.out.below HB2.out)).mono ?_
    rintro e w3 ⟨t, rfl, ht3, hb3⟩
    clear f1 f2 f3
    have HB3 := Lib.hid (HB2.out.trans (hb3.mono HB2.out.size)); clear hb3 HB2
    have hz3 := HB3.out.size
    obtain ⟨f1, f2, f3⟩ := HF.out _ HB3.out
    have htl : t.size ≤ 80000 := by rw [← sz_data, ht3]; exact show_len HLL.out
    go_wp2_with fail
    refine (rsshow_any ⟨ok, to, l⟩ A c _ (HR.out.below HB3.out) HS.out hl).mono ?_
    rintro e w4 ⟨t', rfl, ht4, hb4⟩
    obtain rfl : t' = t := ba_of (by rw [ht3, ht4])
    clear f1 f2 f3 ht3 ht4
    have HB4 := Lib.hid (HB3.out.trans (hb4.mono HB3.out.size)); clear hb4 HB3 hz3
    generalize (showO ⟨ok, to, l⟩).2 = er at *
    have e1 : (t'.toList == t'.toList) = true := by simp
    have e2 : (er == er) = true := by simp
    have z1 : ¬ 9223372036854775807 < t'.size + s.size := by omega
    have z2 : ¬ 9223372036854775807 < s.size + t'.size := by omega
    go_wp2_with fail
    obtain ⟨ss, hss⟩ : ∃ ss : List ByteArray, ss = [s, t', t' ++ s, s ++ t'] := ⟨_, rfl⟩
    have hsl : ss.length = 4 := by rw [hss]; rfl
    have HSZ := Lib.hid (show ∀ x ∈ ss, x.size ≤ 134217728 by rw [hss]; intro x hx; simp at hx; rcases hx with rfl | rfl | rfl | rfl <;> (try simp only [ByteArray.size_append]) <;> omega)
    generalize hV : w4.alloc (.cells #[.string s, .string t', .string (t' ++ s), .string (s ++ t')] 9) = V
    have HBV := Lib.hid (show Below W.heap.size W V by rw [← hV]; exact HB4.out.alloc HB4.out.size _)
    have HRV := Lib.hid (show RowAt V (some ⟨w4.heap.size, 0, none⟩) (ss.map Value.string) by rw [← hV, hss]; exact RowAt.blk (heap_alloc_new _ _))
    clear hV z1 z2 e1 e2 hss
    generalize hV4 : w4.heap.size = h4 at *
    clear HB4 hV4
    have HBW := Lib.hid HBV.out.size
    go_loopw [10] (fun i wr => ∃ k : Nat, k ≤ 4 ∧ i = .int .i64 k ∧ Below V.heap.size V wr) (fun i _ => 4 - (intOf i).toNat)
    case atStart => exact ⟨0, by omega, rfl, Below.refl _ _⟩
    case round =>
      obtain ⟨k, hk, rfl, hb⟩ := hrel
      have HB := Lib.hid hb; clear hb
      by_cases hlt : k < 4
      · obtain ⟨ab, ao, ha, x1⟩ := strs_caps (HRV.out.below HB.out) k (by omega)
        obtain ⟨rfl, rfl⟩ : ab = h4 ∧ ao = 0 := by simpa using ha.symm
        clear ha
        have HZ := Lib.hid (HSZ.out ss[k] (List.getElem_mem _))
        generalize ss[k] = x at *
        simp only [Nat.zero_add] at x1
        have HX := Lib.hid (show ∀ w', Below wr.heap.size wr w' → w'.cell? ⟨ab, k, none⟩ = some (.string x) from fun w' hb => by
          have := (hb.cell (p := ⟨ab, k, none⟩) (by have := cellLt x1; exact this)).trans x1; exact this)
        have hzr := HB.out.size
        go_wp2_with fail
        refine (parse_any x HZ.out _).mono ?_
        rintro e w5 hp
        obtain ⟨A5, c5, rfl, HR5, hb5⟩ := hp.row
        have HQ := Lib.hid (parse_caps x.data.toList)
        clear hp x1
        have hrp := fun W => rparse_any x W HZ.out
        generalize parseO x.data.toList = r at *
        obtain ⟨⟨rk, rt, rl⟩, re⟩ := r
        have HRP := Lib.hid hrp; clear hrp
        have HB5 := Lib.hid hb5; clear hb5
        have hz5 := HB5.out.size
        have x1 := HX.out _ HB5.out
        have hm5 : ab < w5.heap.size := cellLt x1
        go_wp2_with fail
        generalize hV5 : w5.alloc (.cells #[.bool rk, .int .i64 rt, .slice A5 rl.length c5] 24) = V5
        have hm6 : w5.heap.size < V5.heap.size := by rw [← hV5]; simp
        have HB6 := Lib.hid (show Below wr.heap.size wr V5 by rw [← hV5]; exact HB5.out.alloc hz5 _)
        have HK5 := Lib.hid (show V5.heap[w5.heap.size]? = some (.cells #[.bool rk, .int .i64 rt, .slice A5 rl.length c5] 24 (0, 0)) by rw [← hV5]; exact heap_alloc_new _ _)
        have HR5 := Lib.hid (show RowAt V5 A5 (cellsOf rl) by rw [← hV5]; exact HR5.out.below (box1 _ _))
        clear hV5 HB5
        refine (HRP.out _).mono ?_
        rintro e w6 hp
        obtain ⟨A6, c6, rfl, HR6, hb6⟩ := hp.row
        clear hp x1
        have HB7 := Lib.hid hb6; clear hb6
        have hz7 := HB7.out.size
        obtain ⟨g1, g2, g3, _⟩ := blk3 ((HB7.out.block _ hm6).trans HK5.out)
        have hm7 : w5.heap.size < w6.heap.size := by omega
        have e3 : (re == re) = true := by simp
        go_wp2_with fail
        refine (rsame_any ⟨rk, rt, rl⟩ ⟨rk, rt, rl⟩ A5 A6 c5 c6 _ ((HR5.out.below HB7.out).below (box1 _ _)) (HR6.out.below (box1 _ _)) HQ.out HQ.out).mono ?_
        rintro e w8 ⟨he, hb8⟩
        obtain rfl : e = .returned (.bool true) := by rw [he]; simp
        have HB8 := Lib.hid ((HB7.out.alloc hz7 _).trans (hb8.mono (by simp; omega)))
        clear hb8 he g1 g2 g3 e3
        go_wp2_with fail
        exact ⟨⟨k + 1, by omega, by go_num, HB.out.trans ((HB6.out.trans (HB8.out.mono HB6.out.size)).mono HB.out.size)⟩, by simp [intOf]; omega⟩
      · go_wp2_with fail
        refine (works_any _ (HTW.out.below (HBV.out.trans (HB.out.mono HBW.out)))).mono ?_
        rintro e w8 ⟨rfl, hb8⟩
        go_wp2_with fail
        go_ret
        exact ⟨rfl, HWB.out.trans ((HBV.out.trans ((HB.out.trans (hb8.mono HB.out.size)).mono HBW.out)).mono HWB.out.size)⟩
  · have hgo' : b = true ∨ (b = false ∧ ¬ s.size ≤ 6000) := by cases b <;> simp_all
    rcases hgo' with rfl | ⟨rfl, hs3⟩
    all_goals
      clear hgo
      go_wp2_with fail
      refine (works_any _ (HTW.out.below HB2.out)).mono ?_
      rintro e w3 ⟨rfl, hb3⟩
      go_wp2_with fail
      go_ret
      exact ⟨rfl, HWB.out.trans ((HB2.out.trans (hb3.mono HB2.out.size)).mono HWB.out.size)⟩
end Go.Proofs.YtogmkekbdfckpaaDoor
