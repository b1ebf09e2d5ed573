/- The text of an outcome; the contracts of Show: the reference and package span. -/
import Derived.Test.YtogmkekbdfckpaaDoorSp
import Derived.Test.YtogmkekbdfckpaaDoorBu
import Derived.Test.YtogmkekbdfckpaaDoorNd
import Derived.Test.YtogmkekbdfckpaaDoorPd
namespace Go.Proofs.YtogmkekbdfckpaaDoor
open Go.RowKit
set_option linter.unusedSimpArgs false
set_option linter.unusedVariables false

theorem tab_lt {w : World} (h : Tab w) : 1 < w.heap.size := by
  have := World.var?_cell (P := Tryd.prog) (g := 1) (by kernel_rfl) h 0
  exact cellLt (w := w) (a := ⟨1, 0, none⟩) (v := .int .u64 1) (by simpa [Lib.pow10Tab] using this)
theorem tab_below {w w' : World} {n₀ : Nat} (h : Below n₀ w w') (hg : 1 < n₀) (ht : Tab w) : Tab w' := by
  unfold Tab Lib.TabIs at *
  exact var?_below h (by kernel_rfl) hg ht
theorem Tab.below {w w' : World} (ht : Tab w) (h : Below w.heap.size w w') : Tab w' := tab_below h (tab_lt ht) ht

def lineC (c : Cap) : List UInt8 := c.name.data.toList ++ [32] ++ Lib.itoa c.frm ++ [32] ++ Lib.itoa c.to ++ [10]
def headO (o : Outc) : List UInt8 := [109, 97, 116, 99, 104, 32] ++ Lib.itoa o.to ++ [10]
def textO (o : Outc) : List UInt8 := if o.ok then headO o ++ o.caps.flatMap lineC else [102, 97, 105, 108, 10]
def showO (o : Outc) : List UInt8 × Int := if mayO o 4096 then (textO o, 0) else ([], 4)
def ShowPost (w : World) (r : List UInt8 × Int) (e : Ending) (w' : World) : Prop := ∃ t : ByteArray, e = .returned (.tuple #[.string t, .int .i64 r.2]) ∧ t.data.toList = r.1 ∧ Below w.heap.size w w'

theorem itoa_len (n : Int) (h0 : 0 ≤ n) (h1 : n ≤ 4096) : (Lib.itoa n).length ≤ 20 := by
  obtain ⟨m, rfl⟩ := Int.eq_ofNat_of_zero_le h0
  rw [itoa_nat]; exact decDigits_len20 m (by omega)
theorem lines_snoc (l : List Cap) (k : Nat) (hk : k < l.length) : (l.take (k + 1)).flatMap lineC = (l.take k).flatMap lineC ++ lineC l[k] := by
  rw [List.take_succ_eq_append_getElem hk, List.flatMap_append]; simp
theorem line_len {n : Int} {c : Cap} (h : mayL c.name.data.toList = true ∧ 0 ≤ c.frm ∧ c.frm ≤ c.to ∧ c.to ≤ 4096) : (lineC c).length ≤ 80 := by
  have h1 := itoa_len c.frm h.2.1 (by omega)
  have h2 := itoa_len c.to (by omega) h.2.2.2
  have h3 : c.name.data.toList.length ≤ 32 := by have := h.1; simp only [mayL, decide_eq_true_eq] at this; exact this.2.1
  simp only [lineC, List.length_append, List.length_cons, List.length_nil]; omega
theorem lines_len {l : List Cap} (h : ∀ c ∈ l, mayL c.name.data.toList = true ∧ 0 ≤ c.frm ∧ c.frm ≤ c.to ∧ c.to ≤ 4096) : (l.flatMap lineC).length ≤ l.length * 80 := by
  induction l with
  | nil => simp
  | cons c r ih =>
    have := line_len (n := 0) (h c (by simp))
    have := ih (fun c hc => h c (by simp [hc]))
    simp only [List.flatMap_cons, List.length_append, List.length_cons]; omega
theorem show_no {o : Outc} (h : mayO o 4096 = false) : showO o = ([], 4) := by simp [showO, h]
theorem show_fail {o : Outc} (h : mayO o 4096 = true) (hk : o.ok = false) : showO o = ([102, 97, 105, 108, 10], 0) := by simp [showO, h, textO, hk]
theorem show_yes {o : Outc} (h : mayO o 4096 = true) (hk : o.ok = true) : showO o = (headO o ++ o.caps.flatMap lineC, 0) := by simp [showO, h, textO, hk]

theorem rshow_at (n : Int) (w W : World) (B : Nat) (h0 : 0 ≤ n) (h1 : n ≤ 4096) (hb : Below B W w) (hB : B ≤ w.heap.size) :
    Calls Tryd.prog 44 #[.int .i64 n] w fun e w' => ∃ t : ByteArray, e = .returned (.string t) ∧ Hid (t.data.toList = Lib.itoa n) ∧ t.size ≤ 20 ∧ Hid (Below B W w') ∧ B ≤ w'.heap.size :=
  (rshow_any n w (by omega) (by omega)).mono fun e w' ⟨t, he, ht, hb'⟩ => ⟨t, he, Lib.hid ht, by rw [← sz_data, ht]; exact itoa_len n h0 h1, Lib.hid (hb.trans (hb'.mono hB)), Nat.le_trans hB hb'.size⟩
theorem show_at (n : Int) (w W : World) (B : Nat) (h0 : 0 ≤ n) (h1 : n ≤ 4096) (hb : Below B W w) (hB : B ≤ w.heap.size) (ht : Tab w) :
    Calls Tryd.prog 42 #[.int .i64 n] w fun e w' => ∃ t : ByteArray, e = .returned (.string t) ∧ Hid (t.data.toList = Lib.itoa n) ∧ t.size ≤ 20 ∧ Hid (Below B W w') ∧ B ≤ w'.heap.size :=
  (show_any n w (by omega) (by omega) ht).mono fun e w' ⟨he, hb'⟩ => ⟨_, he, Lib.hid rfl, by rw [← sz_data]; exact itoa_len n h0 h1, Lib.hid (hb.trans (hb'.mono hB)), Nat.le_trans hB hb'.size⟩

set_option maxRecDepth 100000 in
set_option maxHeartbeats 1600000 in
theorem rsshow_any (o : Outc) (A : Option Addr) (c : Nat) (w : World) (hA : RowAt w A (cellsOf o.caps)) (hs : ∀ c ∈ o.caps, c.name.size ≤ 281474976710656) (hl : o.caps.length ≤ 281474976710656) :
    Calls Tryd.prog 32 #[outV A c o] w (ShowPost w (showO o)) := by
  obtain ⟨ok, to, l⟩ := o
  simp only at hA hs hl
  have HA := Lib.hid (hA.below (box1 w (.cells #[.bool ok, .int .i64 to, .slice A l.length c] 24)))
  cases hm : mayO ⟨ok, to, l⟩ 4096
  · have HM := Lib.hid hm
    have HN := Lib.hid (show_no hm); clear hm
    go_enter Tryd.func32, Tryd.ntmps32
    go_wp2_with (first | (go_at_call 20; refine (rsmay_any ⟨ok, to, l⟩ 4096 A c _ HA.out hs hl).mono ?_; rintro e w1 ⟨he, hb⟩; rw [HM.out] at he; subst he; have HB := Lib.hid hb; clear hb))
    go_ret2
    rw [HN.out]; exact ⟨_, rfl, rfl, (box1 w _).trans (HB.out.mono (by simp))⟩
  · have HC := Lib.hid (mayO_caps' hm)
    have HM := Lib.hid hm
    obtain ⟨ht0, ht1, hl0, _⟩ := HC.out
    simp only at ht0 ht1 hl0
    cases ok
    · have HN := Lib.hid (show_fail hm rfl); clear hm
      go_enter Tryd.func32, Tryd.ntmps32
      go_wp2_with (first | (go_at_call 20; refine (rsmay_any ⟨false, to, l⟩ 4096 A c _ HA.out hs hl).mono ?_; rintro e w1 ⟨he, hb⟩; rw [HM.out] at he; subst he; obtain f1 := blk3 (kept1n hb); have HB := Lib.hid hb; clear hb))
      go_ret2
      rw [HN.out]; exact ⟨_, rfl, rfl, (box1 w _).trans (HB.out.mono (by simp))⟩
    · have HN := Lib.hid (show_yes hm rfl); clear hm
      go_enter Tryd.func32, Tryd.ntmps32
      go_wp2_with fail
      have hbox : Below (w.heap.size + 1) (w.alloc (.cells #[.bool true, .int .i64 to, .slice A l.length c] 24)) (w.alloc (.cells #[.bool true, .int .i64 to, .slice A l.length c] 24)) := Below.refl _ _
      generalize hW : w.alloc (.cells #[.bool true, .int .i64 to, .slice A l.length c] 24) = W at hbox HA ⊢
      have hWz : W.heap.size = w.heap.size + 1 := by rw [← hW]; simp
      have HWB := Lib.hid (show Below w.heap.size w W by rw [← hW]; exact box1 _ _)
      have HK := Lib.hid (show W.heap[w.heap.size]? = some (.cells #[.bool true, .int .i64 to, .slice A l.length c] 24 (0, 0)) by rw [← hW]; exact heap_alloc_new _ _)
      clear hW hbox
      have HWZ := Lib.hid hWz
      obtain ⟨f1, f2, f3, _, _, _⟩ := blk3 HK.out
      clear hWz
      go_wp2_with (first | (go_at_call 20; refine (rsmay_any ⟨true, to, l⟩ 4096 A c _ HA.out hs hl).mono ?_; rintro e w1 ⟨he, hb⟩; rw [HM.out] at he; subst he; obtain ⟨f1', f2', f3', _, _, _⟩ := blk3 ((hb.block _ (by have := HWZ.out; omega)).trans HK.out); have HB := Lib.hid hb; clear hb) | (go_at_call 44; refine (rshow_at to _ W W.heap.size (by omega) (by omega) HB.out HB.out.size).mono ?_; rintro e w2 ⟨t0, rfl, HT0, hts, HB2, hz2⟩))
      clear f1 f2 f3 f1' f2' f3'
      have hA2 := HA.out
      go_loopw [4, 5, 6] (fun u i _ wr => ∃ (k : Nat) (t : ByteArray), k ≤ l.length ∧ i = .int .i64 k ∧ u = .string t ∧ t.data.toList = headO ⟨true, to, l⟩ ++ (l.take k).flatMap lineC ∧ t.size ≤ 27 + k * 80 ∧ Below W.heap.size W wr) (fun _ i _ _ => l.length - (intOf i).toNat)
      case atStart => exact ⟨0, _, by omega, rfl, rfl, by simp [headO, HT0.out, Lib.mk_data], by have e1 : ByteArray.size ⟨#[109, 97, 116, 99, 104, 32]⟩ = 6 := rfl; have e2 : ByteArray.size ⟨#[10]⟩ = 1 := rfl; simp only [ByteArray.size_append]; omega, HB2.out⟩
      case round =>
        clear HT0 HB2 HB
        obtain ⟨k, t, hk, rfl, rfl, hT, hts2, hb⟩ := hrel
        have HT := Lib.hid hT; clear hT
        have HB := Lib.hid hb; clear hb
        obtain ⟨f1, f2, f3, _, _, _⟩ := blk3 ((HB.out.block _ (by have := HWZ.out; omega)).trans HK.out)
        have hzr := HB.out.size
        by_cases hlt : k < l.length
        · obtain ⟨ab, ao, rfl, x1, x2, x3⟩ := (hA2.below HB.out).caps k hlt
          have hck := HC.out.2.2.2 _ (List.getElem_mem hlt)
          have hn32 : l[k].name.size ≤ 32 := by have := hck.1; simp only [mayL, decide_eq_true_eq] at this; rw [← sz_data]; exact this.2.1
          obtain ⟨_, m1, m2, m3⟩ := hck
          have HLS := Lib.hid (lines_snoc l k hlt)
          rw [show lineC l[k] = l[k].name.data.toList ++ [32] ++ Lib.itoa l[k].frm ++ [32] ++ Lib.itoa l[k].to ++ [10] from rfl] at HLS
          generalize l[k].name = nm at *
          generalize l[k].frm = fr at *
          generalize l[k].to = tt at *
          go_wp2_with fail
          generalize hWn : wr.alloc (.cells #[.string nm, .int .i64 fr, .int .i64 tt] 33) = Wn
          have hWnz : wr.heap.size < Wn.heap.size := by rw [← hWn]; simp
          have hWnW : W.heap.size ≤ Wn.heap.size := by omega
          have HBn := Lib.hid (show Below W.heap.size W Wn by rw [← hWn]; exact HB.out.alloc hzr _)
          obtain ⟨g1, g2, g3, _, _, _⟩ := blk3 (show Wn.heap[wr.heap.size]? = some (.cells #[.string nm, .int .i64 fr, .int .i64 tt] 33 (0, 0)) by rw [← hWn]; exact heap_alloc_new _ _)
          clear hWn x1 x2 x3 f1 f2 f3
          have HSB := Lib.hid (show ∀ w', Below Wn.heap.size Wn w' → w'.cell? ⟨wr.heap.size, 0, none⟩ = some (.string nm) ∧ w'.cell? ⟨wr.heap.size, 1, none⟩ = some (.int .i64 fr) ∧ w'.cell? ⟨wr.heap.size, 2, none⟩ = some (.int .i64 tt) ∧ Below Wn.heap.size Wn w' from
            fun w' hb => ⟨(hb.cell hWnz).trans g1, (hb.cell hWnz).trans g2, (hb.cell hWnz).trans g3, hb⟩)
          clear g1 g2 g3
          have HB0 := Lib.hid (show Below Wn.heap.size Wn Wn.drew from (Below.refl _ _).drew)
          have hz0 : Wn.heap.size ≤ Wn.drew.heap.size := Nat.le_refl _
          have q1 : ¬ 9223372036854775807 < t.size + nm.size := by omega
          have q2 : ¬ 9223372036854775807 < t.size + nm.size + 1 := by omega
          go_region_held3 (fun w' => w'.cell? ⟨wr.heap.size, 0, none⟩ = some (.string nm) ∧ w'.cell? ⟨wr.heap.size, 1, none⟩ = some (.int .i64 fr) ∧ w'.cell? ⟨wr.heap.size, 2, none⟩ = some (.int .i64 tt) ∧ Below Wn.heap.size Wn w')
            (first | exact HSB.out _ HB0.out | exact HSB.out _ HBa.out | exact HSB.out _ HBb.out)
            (first | (go_at_call 44; (with_reducible refine (rshow_at fr _ Wn Wn.heap.size (by omega) (by omega) HB0.out hz0).mono ?_); rintro e w5 ⟨ta, rfl, HTa, htas, HBa, hza⟩; have q3 : ¬ 9223372036854775807 < t.size + nm.size + 1 + ta.size := (by omega); have q4 : ¬ 9223372036854775807 < t.size + nm.size + 1 + ta.size + 1 := (by omega)) | (go_at_call 44; (with_reducible refine (rshow_at tt _ Wn Wn.heap.size (by omega) (by omega) HBa.out hza).mono ?_); rintro e w6 ⟨tb, rfl, HTb, htbs, HBb, hzb⟩; have q5 : ¬ 9223372036854775807 < t.size + nm.size + 1 + ta.size + 1 + tb.size := (by omega); have q6 : ¬ 9223372036854775807 < t.size + nm.size + 1 + ta.size + 1 + tb.size + 1 := (by omega)))
          all_goals go_wp2_with fail
          all_goals exact ⟨⟨k + 1, _, by omega, by go_num, rfl, by rw [HLS.out]; simp [HT.out, HTa.out, HTb.out], by have e1 : ByteArray.size ⟨#[32]⟩ = 1 := rfl; have e2 : ByteArray.size ⟨#[10]⟩ = 1 := rfl; simp only [ByteArray.size_append]; omega, HBn.out.trans (HBb.out.mono hWnW)⟩, by simp [intOf]; omega⟩
        · have hk2 : k = l.length := by omega
          subst hk2
          go_wp2_with fail
          go_ret2
          rw [HN.out]; exact ⟨_, rfl, by rw [HT.out, List.take_length], HWB.out.trans (HB.out.mono (by have := HWZ.out; omega))⟩
end Go.Proofs.YtogmkekbdfckpaaDoor
