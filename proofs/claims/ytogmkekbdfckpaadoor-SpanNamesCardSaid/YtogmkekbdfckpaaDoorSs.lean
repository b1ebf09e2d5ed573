/- works: the examples of layer 14. -/
import Derived.Test.YtogmkekbdfckpaaDoorSr
namespace Go.Proofs.YtogmkekbdfckpaaDoor
open Go.RowKit
set_option linter.unusedSimpArgs false
set_option linter.unusedVariables false

theorem RowAt.blk {w : World} {g : Nat} {cs : Array Value} {T : TypeId} (h : w.heap[g]? = some (.cells cs T (0, 0))) : RowAt w (some ⟨g, 0, none⟩) cs.toList := fun j u hu => by
  refine ⟨_, rfl, ?_⟩
  have e : (⟨g, 0, none⟩ : Addr).add j = ⟨g, j, none⟩ := by unfold Addr.add; split <;> simp_all
  rw [e]; simpa [World.cell?, h] using hu
theorem OutOwn.row {w : World} {B : Nat} {v : Value} {o : Outc} (h : OutOwn w B v o) : ∃ A c, v = outV A c o ∧ RowAt w A (cellsOf o.caps) := by
  obtain ⟨A, c, rfl, h⟩ := h; exact ⟨A, c, rfl, h.row⟩
theorem OwnStrs.row {w : World} {B : Nat} {v : Value} {l : List ByteArray} (h : OwnStrs w B v l) : ∃ A c, v = .slice A l.length c ∧ RowAt w A (l.map .string) := by
  obtain ⟨A, c, rfl⟩ := ownsRow_slice h
  exact ⟨A, c, rfl, RowAt.own (n := l.length) h⟩

def crossO : Outc := ⟨true, 5, [⟨⟨#[109]⟩, 0, 2⟩, ⟨⟨#[109]⟩, 1, 3⟩]⟩
theorem some_names : ∀ c ∈ someO.caps, c.name.size ≤ 281474976710656 := by intro c hc; simp [someO] at hc; rcases hc with rfl | rfl | rfl <;> decide
theorem cross_names : ∀ c ∈ crossO.caps, c.name.size ≤ 281474976710656 := by intro c hc; simp [crossO] at hc; rcases hc with rfl | rfl <;> decide
theorem some_len : someO.caps.length ≤ 281474976710656 := by decide
theorem cross_len : crossO.caps.length ≤ 281474976710656 := by decide
theorem may_some : mayO someO 5 = true := by decide +kernel
theorem may_cross : mayO crossO 5 = false := by decide +kernel
theorem show_some : showO someO = ([109, 97, 116, 99, 104, 32, 53, 10, 110, 32, 48, 32, 53, 10, 109, 32, 49, 32, 50, 10, 109, 32, 50, 32, 50, 10], 0) := by decide +kernel
theorem texts_some : textsB someO ⟨#[97, 98, 99, 100, 101]⟩ ⟨#[109]⟩ = [⟨#[98]⟩, ⟨#[]⟩] := by decide +kernel

set_option maxRecDepth 100000 in
set_option maxHeartbeats 1600000 in
theorem works_any (w : World) (ht : Tab w) :
    Calls Tryd.prog 9 #[] w fun e w' => e = .returned (.bool true) ∧ Below w.heap.size w w' := by
  go_enter Tryd.func9, Tryd.ntmps9
  have HT := Lib.hid ht; clear ht
  go_wp2_with fail
  refine (some_any _).mono ?_
  rintro e w1 ⟨_, rfl, ho, hb1⟩
  obtain ⟨A1, c1, rfl, hr1⟩ := ho.row
  clear ho
  have HT1 := Lib.hid (HT.out.below hb1)
  have HB1 := Lib.hid hb1; clear hb1
  go_wp2_with fail
  refine (sshow_any someO A1 c1 _ hr1 some_names some_len HT1.out).mono ?_
  rintro e w2 ⟨t, he, ht2, hb2⟩
  rw [show_some] at he ht2
  obtain rfl : t = ⟨#[109, 97, 116, 99, 104, 32, 53, 10, 110, 32, 48, 32, 53, 10, 109, 32, 49, 32, 50, 10, 109, 32, 50, 32, 50, 10]⟩ := str_ext (by rw [ht2])
  subst he
  clear hr1 ht2
  have HT2 := Lib.hid (HT1.out.below hb2)
  have HB2 := Lib.hid (HB1.out.trans (hb2.mono HB1.out.size)); clear hb2 HB1 HT1
  have hz2 := HB2.out.size
  go_wp2_with fail
  generalize hWb : ((w2.alloc (.cells #[.string ⟨#[109]⟩, .int .i64 0, .int .i64 2, .string ⟨#[109]⟩, .int .i64 1, .int .i64 3] 33)).alloc (.cells #[.bool true, .int .i64 5, .slice (some ⟨w2.heap.size, 0, none⟩) 2 2] 24)) = Wb
  have hWz : Wb.heap.size = w2.heap.size + 2 := by rw [← hWb]; simp
  have HBb := Lib.hid (show Below w.heap.size w Wb by rw [← hWb]; exact (HB2.out.alloc hz2 _).alloc (by simp; omega) _)
  have HTb := Lib.hid (show Tab Wb by rw [← hWb]; exact HT2.out.below (box2 _ _ _))
  have HKb := Lib.hid (show Wb.heap[w2.heap.size + 1]? = some (.cells #[.bool true, .int .i64 5, .slice (some ⟨w2.heap.size, 0, none⟩) 2 2] 24 (0, 0)) by rw [← hWb]; have h := heap_alloc_new (w2.alloc (.cells #[.string ⟨#[109]⟩, .int .i64 0, .int .i64 2, .string ⟨#[109]⟩, .int .i64 1, .int .i64 3] 33)) (.cells #[.bool true, .int .i64 5, .slice (some ⟨w2.heap.size, 0, none⟩) 2 2] 24); simpa using h)
  have HRb := Lib.hid (show RowAt Wb (some ⟨w2.heap.size, 0, none⟩) (cellsOf crossO.caps) by rw [← hWb]; exact RowAt.blk (heap_alloc_old (heap_alloc_new w2 _)))
  have HWZ := Lib.hid hWz; clear hWz hWb HT2 HB2 hz2
  refine (some_any _).mono ?_
  rintro e w3 ⟨_, rfl, ho, hb3⟩
  obtain ⟨A3, c3, rfl, hr3⟩ := ho.row
  clear ho
  have HB3 := Lib.hid hb3; clear hb3
  go_wp2_with fail
  have hm := smay_any someO 5 A3 c3 w3 hr3 some_names some_len
  rw [may_some] at hm
  refine hm.mono ?_
  rintro e w4 ⟨rfl, hb4⟩
  clear hm hr3
  have HB4 := Lib.hid (HB3.out.trans (hb4.mono HB3.out.size)); clear hb4 HB3
  obtain ⟨f1, f2, f3, _, _, _⟩ := blk3 ((HB4.out.block _ (by have := HWZ.out; omega)).trans HKb.out)
  go_wp2_with fail
  have hm := smay_any crossO 5 (some ⟨w2.heap.size, 0, none⟩) 2 w4 (HRb.out.below HB4.out) cross_names cross_len
  rw [may_cross] at hm
  refine hm.mono ?_
  rintro e w5 ⟨rfl, hb5⟩
  clear hm f1 f2 f3
  have HB5 := Lib.hid (HB4.out.trans (hb5.mono HB4.out.size)); clear hb5 HB4
  go_wp2_with fail
  refine (some_any _).mono ?_
  rintro e w6 ⟨_, rfl, ho, hb6⟩
  obtain ⟨A6, c6, rfl, hr6⟩ := ho.row
  clear ho
  have HB6 := Lib.hid (HB5.out.trans (hb6.mono HB5.out.size)); clear hb6 HB5
  go_wp2_with fail
  have hm := texts_any someO ⟨#[97, 98, 99, 100, 101]⟩ ⟨#[109]⟩ A6 c6 w6 hr6 some_names some_len (by decide)
  rw [texts_some] at hm
  refine hm.mono ?_
  rintro e w7 ⟨_, rfl, ho, hb7⟩
  obtain ⟨A7, c7, rfl, hr7⟩ := ho.row
  clear ho hm hr6
  have HB7 := Lib.hid (HB6.out.trans (hb7.mono HB6.out.size)); clear hb7 HB6
  go_wp2_with fail
  refine (ltexts_any [⟨#[98]⟩, ⟨#[]⟩] [⟨#[98]⟩, ⟨#[]⟩] A7 (some ⟨w7.heap.size, 0, none⟩) c7 2 _ (hr7.below (box1 _ _)) (RowAt.blk (heap_alloc_new w7 _)) (by decide) (by decide)).mono ?_
  rintro e w8 ⟨rfl, hb8⟩
  have HB8 := Lib.hid (HB7.out.trans (((box1 w7 _).trans (hb8.mono (by simp))).mono HB7.out.size)); clear hb8 HB7
  go_wp2_with fail
  go_ret
  exact ⟨rfl, HBb.out.trans (HB8.out.mono HBb.out.size)⟩
end Go.Proofs.YtogmkekbdfckpaaDoor
