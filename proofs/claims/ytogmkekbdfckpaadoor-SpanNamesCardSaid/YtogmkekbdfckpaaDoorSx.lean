/- The contracts of package span: place, head, capture. -/
import Derived.Test.YtogmkekbdfckpaaDoorSo
import Derived.Test.YtogmkekbdfckpaaDoorCu
import Derived.Test.YtogmkekbdfckpaaDoorNb
namespace Go.Proofs.YtogmkekbdfckpaaDoor
open Go.RowKit
set_option linter.unusedSimpArgs false
set_option linter.unusedVariables false

theorem place_any (s : ByteArray) (w : World) (hs : s.size ≤ 281474976710656) :
    Calls Tryd.prog 59 #[.string s] w fun e w' => e = .returned (.tuple #[.int .i64 (numL s.data.toList 4096).1, .bool ((numL s.data.toList 4096).2 == 0)]) ∧ w' = w := by
  have hc := num_any s 4096 w hs (by omega)
  generalize numL s.data.toList 4096 = N at hc ⊢
  obtain ⟨a, b⟩ := N
  simp only at hc ⊢
  go_enter Tryd.func59, Tryd.ntmps59
  go_wp2_with fail
  refine hc.mono ?_
  rintro e w' ⟨rfl, rfl⟩
  clear hc
  go_wp2_with fail
  go_ret2
  exact ⟨rfl, rfl⟩

/-- What a text's first line says. -/
def headL (l : List UInt8) : Outc × Bool :=
  if l = [102, 97, 105, 108] then (⟨false, 0, []⟩, true)
  else if Lib.hasPrefix l [109, 97, 116, 99, 104, 32] then (⟨true, (numL (l.drop 6) 4096).1, []⟩, (numL (l.drop 6) 4096).2 == 0)
  else (⟨false, 0, []⟩, false)
/-- What one of the other lines says. -/
def capL (l : List UInt8) : (List UInt8 × Int × Int) × Bool :=
  (((cut1 32 l).1, (numL (cut1 32 (cut1 32 l).2.1).1 4096).1, (numL (cut1 32 (cut1 32 l).2.1).2.1 4096).1),
    (cut1 32 (cut1 32 l).2.1).2.2 && ((numL (cut1 32 (cut1 32 l).2.1).1 4096).2 == 0) && ((numL (cut1 32 (cut1 32 l).2.1).2.1 4096).2 == 0))

def HeadPost (r : Outc × Bool) (w : World) (e : Ending) (w' : World) : Prop := e = .returned (.tuple #[.agg #[.bool r.1.ok, .int .i64 r.1.to, .slice none 0 0], .bool r.2]) ∧ Below w.heap.size w w'
theorem head_caps (l : List UInt8) : (headL l).1.caps = [] := by unfold headL; split <;> (try split) <;> rfl

set_option maxHeartbeats 800000 in
theorem head_any (s : ByteArray) (w : World) (hs : s.size ≤ 281474976710656) :
    Calls Tryd.prog 46 #[.string s] w (HeadPost (headL s.data.toList) w) := by
  by_cases h1 : s.data.toList = [102, 97, 105, 108]
  · have e1 : (s.toList == [102, 97, 105, 108]) = true := by rw [Lib.toList_data, h1]; rfl
    rw [show headL s.data.toList = (⟨false, 0, []⟩, true) by simp [headL, h1]]
    clear h1
    go_enter Tryd.func46, Tryd.ntmps46
    go_wp2_with (go_at_call 18; refine (fail_any _).mono ?_; rintro e w' ⟨rfl, hb⟩; have f := blk3 (kept1n hb))
    exact bodyPost_ret (v := .tuple #[outV none 0 ⟨false, 0, []⟩, .bool true]) (by simp [results, Tryd.results46, go_sem, f]) rfl ⟨rfl, set3 ((box1 w _).trans (hb.mono (by simp))) (by omega)⟩
  · have e1 : (s.toList == [102, 97, 105, 108]) = false := by rw [Lib.toList_data]; simpa using h1
    have hcp := Tryd.strings_CutPrefix s ⟨#[109, 97, 116, 99, 104, 32]⟩
    simp only at hcp
    cases hp : Lib.hasPrefix s.data.toList [109, 97, 116, 99, 104, 32]
    · rw [show headL s.data.toList = (⟨false, 0, []⟩, false) by simp [headL, h1, hp]]
      have HP := Lib.hid hp
      clear h1 hp
      have HCP := Lib.hid hcp; clear hcp
      go_enter Tryd.func46, Tryd.ntmps46
      go_wp2_with fail
      refine (HCP.out _).mono ?_
      rintro e w' ⟨rfl, rfl⟩
      rw [HP.out]
      go_wp2_with fail
      exact bodyPost_ret (v := .tuple #[outV none 0 ⟨false, 0, []⟩, .bool false]) (by simp [results, Tryd.results46, go_sem]) rfl ⟨rfl, box1 w _⟩
    · have HP := Lib.hid hp
      rw [show headL s.data.toList = (⟨true, (numL (s.data.toList.drop 6) 4096).1, []⟩, (numL (s.data.toList.drop 6) 4096).2 == 0) by simp [headL, h1, hp]]
      have HT := Lib.hid (show Lib.trimPrefix s.data.toList [109, 97, 116, 99, 104, 32] = s.data.toList.drop 6 by simp [Lib.trimPrefix, hp])
      clear h1 hp
      have HCP := Lib.hid hcp; clear hcp
      have hpl := fun w => place_any ⟨(s.data.toList.drop 6).toArray⟩ w (by rw [← sz_data]; show (s.data.toList.drop 6).length ≤ _; rw [List.length_drop, sz_data]; omega)
      simp only [show (⟨(s.data.toList.drop 6).toArray⟩ : ByteArray).data.toList = s.data.toList.drop 6 from rfl] at hpl
      generalize numL (s.data.toList.drop 6) 4096 = N at hpl ⊢
      obtain ⟨a, b⟩ := N
      simp only at hpl ⊢
      have HPL := Lib.hid hpl; clear hpl
      go_enter Tryd.func46, Tryd.ntmps46
      go_wp2_with fail
      refine (HCP.out _).mono ?_
      rintro e w' ⟨rfl, rfl⟩
      rw [HP.out, HT.out]
      go_wp2_with fail
      refine (HPL.out _).mono ?_
      rintro e w' ⟨rfl, rfl⟩
      cases hb : (b == 0)
      all_goals
        have HBE := Lib.hid hb
        go_wp2_with (go_at_call 25; refine (at_any _ _).mono ?_; rintro e w' ⟨rfl, hb⟩; have f := blk3 (kept1n hb))
        exact bodyPost_ret (v := .tuple #[outV none 0 ⟨true, a, []⟩, .bool (b == 0)]) (by simp [results, Tryd.results46, go_sem, f, HBE.out]) rfl ⟨rfl, set3 ((box1 w _).trans (hb.mono (by simp))) (by omega)⟩

def CapPost (r : (List UInt8 × Int × Int) × Bool) (w : World) (e : Ending) (w' : World) : Prop := ∃ own : ByteArray, e = .returned (.tuple #[.agg #[.string own, .int .i64 r.1.2.1, .int .i64 r.1.2.2], .bool r.2]) ∧ own.data.toList = r.1.1 ∧ Below w.heap.size w w'

set_option maxHeartbeats 800000 in
theorem capture_any (s : ByteArray) (w : World) (hs : s.size ≤ 281474976710656) :
    Calls Tryd.prog 47 #[.string s] w (CapPost (capL s.data.toList) w) := by
  have hl := cut1_len 32 s.data.toList
  have hl2 := cut1_len 32 (cut1 32 s.data.toList).2.1
  have hsd := sz_data s
  unfold CapPost capL
  have HC := Lib.hid fun w => cut_any s 32 w hs
  unfold CutPost at HC
  generalize cut1 32 s.data.toList = P at HC hl hl2 ⊢
  obtain ⟨p1, p2, p3⟩ := P
  simp only at HC hl hl2 ⊢
  have HC2 := Lib.hid fun (b : ByteArray) (hb : b.data.toList = p2) w => cut_any b 32 w (by rw [← sz_data, hb]; omega)
  unfold CutPost at HC2
  have HC3 : Hid (∀ (b : ByteArray), b.data.toList = p2 → ∀ w, Calls Tryd.prog 57 #[.string b, .string ⟨#[32]⟩] w fun e w' => ∃ a b : ByteArray, e = .returned (.tuple #[.string a, .string b, .bool (cut1 32 p2).2.2]) ∧ a.data.toList = (cut1 32 p2).1 ∧ b.data.toList = (cut1 32 p2).2.1 ∧ Below w.heap.size w w') := Lib.hid fun b hb w => by have := HC2.out b hb w; rw [hb] at this; exact this
  clear HC2
  generalize cut1 32 p2 = Q at HC3 hl2 ⊢
  obtain ⟨q1, q2, q3⟩ := Q
  simp only at HC3 hl2 ⊢
  have HN1 : Hid (∀ (b : ByteArray), b.data.toList = q1 → ∀ w, Calls Tryd.prog 59 #[.string b] w fun e w' => e = .returned (.tuple #[.int .i64 (numL q1 4096).1, .bool ((numL q1 4096).2 == 0)]) ∧ w' = w) := Lib.hid fun b hb w => by have := place_any b w (by rw [← sz_data, hb]; omega); rw [hb] at this; exact this
  have HN2 : Hid (∀ (b : ByteArray), b.data.toList = q2 → ∀ w, Calls Tryd.prog 59 #[.string b] w fun e w' => e = .returned (.tuple #[.int .i64 (numL q2 4096).1, .bool ((numL q2 4096).2 == 0)]) ∧ w' = w) := Lib.hid fun b hb w => by have := place_any b w (by rw [← sz_data, hb]; omega); rw [hb] at this; exact this
  generalize numL q1 4096 = M1 at HN1 ⊢
  generalize numL q2 4096 = M2 at HN2 ⊢
  obtain ⟨f1, f2⟩ := M1
  obtain ⟨t1, t2⟩ := M2
  simp only at HN1 HN2 ⊢
  clear hl hl2 hsd
  go_enter Tryd.func47, Tryd.ntmps47
  go_wp2_with fail
  refine (HC.out _).mono ?_
  rintro e w1 ⟨own, b, rfl, hown, hb, hB1⟩
  have HO := Lib.hid hown
  have HX := Lib.hid hb
  have HB1 := Lib.hid ((box1 w _).trans (hB1.mono (by simp)))
  have HK := Lib.hid (kept1n hB1)
  clear hown hb hB1
  go_wp2_with fail
  refine (HC3.out b HX.out _).mono ?_
  rintro e w2 ⟨x, y, rfl, hx, hy, hB2⟩
  have HX1 := Lib.hid hx
  have HX2 := Lib.hid hy
  have hz : w.heap.size < w1.heap.size := heap_lt HK.out
  have k2 := blk3 ((hB2.block _ hz).trans HK.out)
  have HB2 := Lib.hid (HB1.out.trans (hB2.mono (by omega)))
  clear hx hy hB2
  go_wp2_with fail
  refine (HN1.out x HX1.out _).mono ?_
  rintro e w' ⟨rfl, rfl⟩
  go_wp2_with fail
  refine (HN2.out y HX2.out _).mono ?_
  rintro e w' ⟨rfl, rfl⟩
  cases q3 <;> cases hf : (f2 == 0) <;> cases ht : (t2 == 0)
  all_goals
    have HF := Lib.hid hf
    have HT := Lib.hid ht
    go_wp2_with fail
    exact bodyPost_ret (v := .tuple #[.agg #[.string own, .int .i64 f1, .int .i64 t1], .bool _]) (by simp [results, Tryd.results47, go_sem, k2]; rfl) rfl ⟨own, by simp [HF.out, HT.out], HO.out, set3b HB2.out (Nat.le_refl _)⟩
end Go.Proofs.YtogmkekbdfckpaaDoor
