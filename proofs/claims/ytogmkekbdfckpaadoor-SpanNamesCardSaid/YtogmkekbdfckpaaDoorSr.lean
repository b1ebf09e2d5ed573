/- The contract of span.Show. -/
import Derived.Test.YtogmkekbdfckpaaDoorSq
namespace Go.Proofs.YtogmkekbdfckpaaDoor
open Go.RowKit
set_option linter.unusedSimpArgs false
set_option linter.unusedVariables false

set_option maxRecDepth 100000 in
set_option maxHeartbeats 1600000 in
theorem sshow_any (o : Outc) (A : Option Addr) (c : Nat) (w : World) (hA : RowAt w A (cellsOf o.caps)) (hs : ∀ c ∈ o.caps, c.name.size ≤ 281474976710656) (hl : o.caps.length ≤ 281474976710656) (ht : Tab w) :
    Calls Tryd.prog 31 #[outV A c o] w (ShowPost w (showO o)) := by
  obtain ⟨ok, to, l⟩ := o
  simp only at hA hs hl
  have HA := Lib.hid (hA.below (box1 w (.cells #[.bool ok, .int .i64 to, .slice A l.length c] 24)))
  cases hm : mayO ⟨ok, to, l⟩ 4096
  · have HM := Lib.hid hm
    have HN := Lib.hid (show_no hm); clear hm
    go_enter Tryd.func31, Tryd.ntmps31
    go_wp2_with (first | (go_at_call 13; refine (smay_any ⟨ok, to, l⟩ 4096 A c _ HA.out hs hl).mono ?_; rintro e w1 ⟨he, hb⟩; rw [HM.out] at he; subst he; have HB := Lib.hid hb; clear hb))
    go_ret2
    rw [HN.out]; exact ⟨_, rfl, rfl, (box1 w _).trans (HB.out.mono (by simp))⟩
  · have HC := Lib.hid (mayO_caps' hm)
    have HM := Lib.hid hm
    obtain ⟨ht0, ht1, hl0, _⟩ := HC.out
    simp only at ht0 ht1 hl0
    cases ok
    · have HN := Lib.hid (show_fail hm rfl); clear hm
      go_enter Tryd.func31, Tryd.ntmps31
      go_wp2_with (first | (go_at_call 13; refine (smay_any ⟨false, to, l⟩ 4096 A c _ HA.out hs hl).mono ?_; rintro e w1 ⟨he, hb⟩; rw [HM.out] at he; subst he; obtain f1 := blk3 (kept1n hb); have HB := Lib.hid hb; clear hb))
      go_ret2
      rw [HN.out]; exact ⟨_, rfl, rfl, (box1 w _).trans (HB.out.mono (by simp))⟩
    · have HN := Lib.hid (show_yes hm rfl); clear hm
      go_enter Tryd.func31, Tryd.ntmps31
      go_wp2_with fail
      have hbox : Below (w.heap.size + 1) (w.alloc (.cells #[.bool true, .int .i64 to, .slice A l.length c] 24)) (w.alloc (.cells #[.bool true, .int .i64 to, .slice A l.length c] 24)) := Below.refl _ _
      generalize hW : w.alloc (.cells #[.bool true, .int .i64 to, .slice A l.length c] 24) = W at hbox HA ⊢
      have hWz : W.heap.size = w.heap.size + 1 := by rw [← hW]; simp
      have HWB := Lib.hid (show Below w.heap.size w W by rw [← hW]; exact box1 _ _)
      have HK := Lib.hid (show W.heap[w.heap.size]? = some (.cells #[.bool true, .int .i64 to, .slice A l.length c] 24 (0, 0)) by rw [← hW]; exact heap_alloc_new _ _)
      clear hW hbox
      have HWZ := Lib.hid hWz
      obtain ⟨f1, f2, f3, _, _, _⟩ := blk3 HK.out
      clear hWz
      go_wp2_with (first | (go_at_call 13; refine (smay_any ⟨true, to, l⟩ 4096 A c _ HA.out hs hl).mono ?_; rintro e w1 ⟨he, hb⟩; rw [HM.out] at he; subst he; obtain ⟨f1', f2', f3', _, _, _⟩ := blk3 ((hb.block _ (by have := HWZ.out; omega)).trans HK.out); have HB := Lib.hid hb; have hz1 := hb.size; have hww : w.heap.size < w1.heap.size := (by have := HWZ.out; omega); have HTB := Lib.hid (tab_below (HWB.out.trans (hb.mono HWB.out.size)) (tab_lt ht) ht); clear hb) | (go_at_call 42; (with_reducible refine (show_at to _ (w1.alloc (.cells #[.pointer none, .slice none 0 0] 63)) (w1.alloc (.cells #[.pointer none, .slice none 0 0] 63)).heap.size (by omega) (by omega) (Below.refl _ _) (Nat.le_refl _) (Tab.below HTB.out (box1 w1 _))).mono ?_); rintro e w2 ⟨t0, rfl, HT0, hts, HB2, hz2⟩) | (go_at_call 41; refine (write_any w1.heap.size w1.heap.size [] _ _ (IsB.below (IsB.new w1 (Nat.le_refl _)) HB2.out) ?_ ?_).mono ?_))
      · have e1 : ByteArray.size ⟨#[109, 97, 116, 99, 104, 32]⟩ = 6 := rfl; have e2 : ByteArray.size ⟨#[10]⟩ = 1 := rfl; simp only [ByteArray.size_append, List.length_nil]; omega
      · have := hz2; simp at this; omega
      rintro e w3 ⟨rfl, hI, hb3, _⟩
      have HI3 := Lib.hid (show IsB w1.heap.size w1.heap.size (headO ⟨true, to, l⟩) w3 by simpa [headO, HT0.out] using hI)
      have HB3 := Lib.hid (((box1 w1 _).trans (HB2.out.mono (by simp))).trans hb3)
      clear hI hb3 HB2 HT0
      clear f1 f2 f3 f1' f2' f3'
      have f3 := blk3 ((HB3.out.block _ hww).trans ((HB.out.block _ (by have := HWZ.out; omega)).trans HK.out))
      go_wp2_with fail
      clear f3
      have hA2 := HA.out.below HB.out
      go_loopw [22, 6] (fun i _ wr => ∃ (k : Nat), k ≤ l.length ∧ i = .int .i64 k ∧ IsB w1.heap.size w1.heap.size (headO ⟨true, to, l⟩ ++ (l.take k).flatMap lineC) wr ∧ Below w1.heap.size w1 wr) (fun i _ _ => l.length - (intOf i).toNat)
      case atStart => exact ⟨0, by omega, rfl, by simpa using HI3.out, HB3.out⟩
      case round =>
        clear HI3 HB3
        obtain ⟨k, hk, rfl, hI, hb⟩ := hrel
        have HI := Lib.hid hI; clear hI
        have HBr := Lib.hid hb; clear hb
        have hzr := HBr.out.size
        by_cases hlt : k < l.length
        · obtain ⟨ab, ao, rfl, x1, x2, x3⟩ := (hA2.below HBr.out).caps k hlt
          have hck := HC.out.2.2.2 _ (List.getElem_mem hlt)
          have hn32 : l[k].name.size ≤ 32 := by have := hck.1; simp only [mayL, decide_eq_true_eq] at this; rw [← sz_data]; exact this.2.1
          have HLN := Lib.hid (show (headO ⟨true, to, l⟩ ++ (l.take k).flatMap lineC).length ≤ 27 + k * 80 from by
            have h1 := itoa_len to ht0 ht1
            have h2 := lines_len (l := l.take k) (fun c hc => HC.out.2.2.2 c (List.mem_of_mem_take hc))
            have h3 := List.length_take_le k l
            simp only [List.length_append, headO, List.length_cons, List.length_nil]; omega)
          obtain ⟨_, m1, m2, m3⟩ := hck
          have HLS := Lib.hid (lines_snoc l k hlt)
          rw [show lineC l[k] = l[k].name.data.toList ++ [32] ++ Lib.itoa l[k].frm ++ [32] ++ Lib.itoa l[k].to ++ [10] from rfl] at HLS
          generalize l[k].name = nm at *
          generalize l[k].frm = fr at *
          generalize l[k].to = tt at *
          go_wp2_with fail
          generalize hWn : wr.alloc (.cells #[.string nm, .int .i64 fr, .int .i64 tt] 33) = Wn
          have hWnz : wr.heap.size < Wn.heap.size := by rw [← hWn]; simp
          have hWnW : w1.heap.size ≤ Wn.heap.size := by omega
          have HBn := Lib.hid (show Below w1.heap.size w1 Wn by rw [← hWn]; exact HBr.out.alloc hzr _)
          have HIn := Lib.hid (show IsB w1.heap.size w1.heap.size (headO ⟨true, to, l⟩ ++ (l.take k).flatMap lineC) Wn by rw [← hWn]; exact IsB.below HI.out (box1 _ _))
          have HTn := Lib.hid (Tab.below HTB.out HBn.out)
          have hnb := (show Wn.heap[wr.heap.size]? = some (.cells #[.string nm, .int .i64 fr, .int .i64 tt] 33 (0, 0)) by rw [← hWn]; exact heap_alloc_new _ _)
          clear hWn x1 x2 x3
          have HSB := Lib.hid (show ∀ w', Keeps Wn w' → w'.cell? ⟨wr.heap.size, 0, none⟩ = some (.string nm) ∧ w'.cell? ⟨wr.heap.size, 1, none⟩ = some (.int .i64 fr) ∧ w'.cell? ⟨wr.heap.size, 2, none⟩ = some (.int .i64 tt) from
            fun w' hk => by have h := blk3 (hk _ _ _ _ hnb (by decide) (by decide)); exact ⟨h.1, h.2.1, h.2.2.1⟩)
          clear hnb
          have HB0 := Lib.hid (show Below Wn.heap.size Wn Wn.drew from (Below.refl _ _).drew)
          have hz0 : Wn.heap.size ≤ Wn.drew.heap.size := Nat.le_refl _
          have HT0' := Lib.hid (Tab.below HTn.out HB0.out)
          have q1 : ¬ 9223372036854775807 < nm.size + 1 := by omega
          go_region_held3 (fun w' => w'.cell? ⟨wr.heap.size, 0, none⟩ = some (.string nm) ∧ w'.cell? ⟨wr.heap.size, 1, none⟩ = some (.int .i64 fr) ∧ w'.cell? ⟨wr.heap.size, 2, none⟩ = some (.int .i64 tt))
            (first | exact HSB.out _ (Keeps.below HB0.out) | exact HSB.out _ (Keeps.below HBa.out) | exact HSB.out _ (Keeps.below HBb.out) | exact HSB.out _ ((Keeps.below HBb.out).trans HKc.out))
            (first | (go_at_call 42; (with_reducible refine (show_at fr _ Wn Wn.heap.size (by omega) (by omega) HB0.out hz0 HT0'.out).mono ?_); rintro e w5 ⟨ta, rfl, HTa, htas, HBa, hza⟩; have q3 : ¬ 9223372036854775807 < nm.size + 1 + ta.size := (by omega); have q4 : ¬ 9223372036854775807 < nm.size + 1 + ta.size + 1 := (by omega)) | (go_at_call 42; (with_reducible refine (show_at tt _ Wn Wn.heap.size (by omega) (by omega) HBa.out hza (Tab.below HTn.out HBa.out)).mono ?_); rintro e w6 ⟨tb, rfl, HTb, htbs, HBb, hzb⟩; have q5 : ¬ 9223372036854775807 < nm.size + 1 + ta.size + 1 + tb.size := (by omega); have q6 : ¬ 9223372036854775807 < nm.size + 1 + ta.size + 1 + tb.size + 1 := (by omega)) | (go_at_call 41; refine (write_any w1.heap.size w1.heap.size _ _ _ (IsB.below HIn.out HBb.out) (by have e1 : ByteArray.size ⟨#[32]⟩ = 1 := rfl; have e2 : ByteArray.size ⟨#[10]⟩ = 1 := rfl; have := HLN.out; simp only [ByteArray.size_append]; omega) (by omega)).mono ?_; rintro e w7 ⟨rfl, hI7, hb7, hk7⟩; have HI7 := Lib.hid hI7; have HB7 := Lib.hid hb7; have HKc := Lib.hid hk7; clear hI7 hb7 hk7))
          all_goals go_wp2_with fail
          all_goals exact ⟨⟨k + 1, by omega, by go_num, by rw [HLS.out]; simpa [HTa.out, HTb.out] using HI7.out, (HBn.out.trans (HBb.out.mono hWnW)).trans HB7.out⟩, by simp [intOf]; omega⟩
        · have hk2 : k = l.length := by omega
          subst hk2
          go_wp2_with (go_at_call 43; refine (Tryd.Builder_String_any w1.heap.size w1.heap.size _ _ HI.out hzr).mono ?_; rintro e w8 ⟨rfl, hb8⟩)
          go_ret2
          rw [HN.out]; exact ⟨_, rfl, rfl, HWB.out.trans ((HB.out.trans ((HBr.out.trans hb8).mono HB.out.size)).mono (by have := HWZ.out; omega))⟩

end Go.Proofs.YtogmkekbdfckpaaDoor
