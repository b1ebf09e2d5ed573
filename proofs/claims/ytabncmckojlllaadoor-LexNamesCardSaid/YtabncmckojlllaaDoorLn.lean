/- The contracts of what reads a word that begins by a certain byte: lex.literal, class. -/
import Derived.Test.YtabncmckojlllaaDoorLm
import Derived.Test.YtabncmckojlllaaDoorLl
namespace Go.Proofs.YtabncmckojlllaaDoor
open Go.RowKit
set_option linter.unusedSimpArgs false
set_option linter.unusedVariables false

theorem RN_place (left : List UInt8) (en : UInt8) (t : List UInt8) : ∀ f a, a ≤ t.length → (runR left en t f a).2.1 ≤ t.length
  | 0, a, ha => ha
  | f + 1, a, ha => by
    simp only [runR]
    split
    · exact ha
    cases e : signR left t a with
    | no p k => rcases signR_no e with h | h <;> simp only <;> omega
    | ok b n =>
      have h1 := signR_ok e
      exact RN_place left en t f n h1.2
theorem unlit_place (t : List UInt8) : (unlitR t).2.1 ≤ t.length := by
  unfold unlitR
  split
  · exact Nat.zero_le _
  · rename_i c hc
    have hl := (List.getElem?_eq_some_iff.1 hc).1
    split
    · exact Nat.zero_le _
    · have h := RN_len [34] 34 t t.length 1 (by omega) (by omega)
      simp only
      by_cases h0 : (runR [34] 34 t t.length 1).2.2 = 0
      · have h1 := (List.getElem?_eq_some_iff.1 (h.2 h0).1).1
        rw [if_neg (by simpa using h0)]
        split
        · exact Nat.zero_le _
        · simp only; omega
      · rw [if_pos h0]
        exact RN_place [34] 34 t t.length 1 (by omega)
theorem uncls_place (t : List UInt8) : (unclsR t).2.1 ≤ t.length + 1 := by
  unfold unclsR
  split
  · exact Nat.zero_le _
  · rename_i c hc
    have hl := (List.getElem?_eq_some_iff.1 hc).1
    split
    · exact Nat.zero_le _
    · simp only
      have hp : (if decide (t[1]? = some 94) = true then 2 else 1) ≤ t.length := by
        split
        · rename_i h; have := (List.getElem?_eq_some_iff.1 (of_decide_eq_true h)).1; omega
        · omega
      have h := GN_place t t.length _ hp
      generalize rangesR t t.length (if decide (t[1]? = some 94) = true then 2 else 1) = r at *
      by_cases h0 : r.2.2 ≠ 0
      · rw [if_pos h0]; show r.2.1 ≤ _; omega
      · rw [if_neg h0]; show r.2.1 + 1 ≤ _; omega
set_option maxRecDepth 100000 in
set_option maxHeartbeats 1000000 in
theorem literal_any (s : ByteArray) (a : Nat) (w : World) (ha : a < s.size) (hs : s.size ≤ 1000000) (hk : s.data.toList[a]? = some 34) :
    Calls Tryd.prog 87 #[.string s, .int .i64 (a : Int)] w (ReadPost s.data.toList a w) := by
  have hd := cut_data s a (by omega)
  have hse : (s.extract a s.size).size ≤ s.size := by simp [ByteArray.size_extract]
  have i1 : (0 : Int) ≤ (a : Int) := by omega
  have i2 : (a : Int) ≤ (s.size : Int) := by omega
  have hh : headW (s.data.toList.drop a) = if (unlitR (s.data.toList.drop a)).2.2 = 0 then some ⟨15, 0, (unlitR (s.data.toList.drop a)).2.1, (unlitR (s.data.toList.drop a)).1, 0, 0, 0, 0, 0, 0⟩ else none := by
    unfold headW
    rw [drop_first, hk]
    rfl
  have hpl := unlit_place (s.data.toList.drop a)
  obtain ⟨⟨l, n, k⟩, hx⟩ : ∃ p, unlitR (s.data.toList.drop a) = p := ⟨_, rfl⟩
  rw [hx] at hh hpl
  have hnl : n ≤ s.size := by have h1 : n ≤ (s.data.toList.drop a).length := hpl; rw [List.length_drop, sz_data] at h1; omega
  have HX := Lib.hid hx
  have HH := Lib.hid hh
  clear hx hh hpl
  have HD := Lib.hid hd
  have HB0 := Lib.hid (bx1 w (.cells (wdC ⟨0, 0, 0, [], 0, 0, 0, 0, 0, 0⟩) 32))
  have HK0 := Lib.hid (bx_new w (.cells (wdC ⟨0, 0, 0, [], 0, 0, 0, 0, 0, 0⟩) 32))
  clear hd
  go_enter Tryd.func87, Tryd.ntmps87
  go_wp2_with (first
    | (go_at_call 113; refine (unlit_any _ _ (by omega)).mono ?_; rintro e w1 ⟨he, hb⟩; rw [HD.out, HX.out] at he; subst he; have HB1 := Lib.hid (Below.step HB0.out hb); have HK1 := Lib.hid (bx_kept hb HK0.out); obtain ⟨_, _, _, _, _, _, _, _, _, _, bf⟩ := blk10 HK1.out; have f0 := bf 0; have f1 := bf 1; have f2 := bf 2; have f3 := bf 3; have f4 := bf 4; have f5 := bf 5; have f6 := bf 6; have f7 := bf 7; have f8 := bf 8; have f9 := bf 9; clear bf hb)
    | fail)
  have e0 := putW_blk HK1.out (.int .u8 15) (.int .i64 (a : Int)) (.int .i64 ((a : Int) + (n : Int))) (.string ⟨l.toArray⟩) (.int .u64 0) (.int .u64 0) (.int .u64 0) (.int .u64 0) (.int .i64 0) (.int .i64 0)
  obtain ⟨t0, t1, t2, t3, t4, t5, t6, t7, t8, t9, _⟩ := blk10 e0
  refine bodyPost_ret (v := .tuple #[.agg #[.int .u8 15, .int .i64 (a : Int), .int .i64 ((a : Int) + (n : Int)), .string ⟨l.toArray⟩, .int .u64 0, .int .u64 0, .int .u64 0, .int .u64 0, .int .i64 0, .int .i64 0], .bool ((k : Int) == 0)]) (by simp [results, Tryd.results87, go_sem, t0, t1, t2, t3, t4, t5, t6, t7, t8, t9]) rfl ?_
  refine ⟨⟨15, a, a + n, l, 0, 0, 0, 0, 0, 0⟩, ((k : Int) == 0), rfl, fun h => ?_, fun h => ?_, putW_below HB1.out (Nat.le_refl _) _ _ _ _ _ _ _ _ _ _⟩
  · have hk0 : k = 0 := by simpa using h
    have hh := HH.out
    rw [if_pos hk0] at hh
    rw [wordL_of hh]
  · have hk0 : ¬ k = 0 := by simpa using h
    have hh := HH.out
    rw [if_neg hk0] at hh
    exact wordL_none hh
set_option maxRecDepth 100000 in
set_option maxHeartbeats 1000000 in
theorem class_any (s : ByteArray) (a : Nat) (w : World) (ha : a < s.size) (hs : s.size ≤ 1000000) (hk : s.data.toList[a]? = some 91) :
    Calls Tryd.prog 88 #[.string s, .int .i64 (a : Int)] w (ReadPost s.data.toList a w) := by
  have hd := cut_data s a (by omega)
  have hse : (s.extract a s.size).size ≤ s.size := by simp [ByteArray.size_extract]
  have i1 : (0 : Int) ≤ (a : Int) := by omega
  have i2 : (a : Int) ≤ (s.size : Int) := by omega
  have hh : headW (s.data.toList.drop a) = if (unclsR (s.data.toList.drop a)).2.2 = 0 then some ⟨16, 0, (unclsR (s.data.toList.drop a)).2.1, [], wordF (unclsR (s.data.toList.drop a)).1 0, wordF (unclsR (s.data.toList.drop a)).1 1, wordF (unclsR (s.data.toList.drop a)).1 2, wordF (unclsR (s.data.toList.drop a)).1 3, 0, 0⟩ else none := by
    unfold headW
    rw [drop_first, hk]
    rfl
  have hpl := uncls_place (s.data.toList.drop a)
  obtain ⟨⟨f, n, k⟩, hx⟩ : ∃ p, unclsR (s.data.toList.drop a) = p := ⟨_, rfl⟩
  rw [hx] at hh hpl
  have hnl : n ≤ s.size + 1 := by have h1 : n ≤ (s.data.toList.drop a).length + 1 := hpl; rw [List.length_drop, sz_data] at h1; omega
  have HX := Lib.hid hx
  have HH := Lib.hid hh
  clear hx hh hpl
  have HD := Lib.hid hd
  have HB0 := Lib.hid (bx1 w (.cells (wdC ⟨0, 0, 0, [], 0, 0, 0, 0, 0, 0⟩) 32))
  have HK0 := Lib.hid (bx_new w (.cells (wdC ⟨0, 0, 0, [], 0, 0, 0, 0, 0, 0⟩) 32))
  clear hd
  go_enter Tryd.func88, Tryd.ntmps88
  go_wp2_with (first
    | (go_at_call 114; refine (uncls_any _ _ (by omega)).mono ?_; rintro e w1 ⟨he, hb⟩; rw [HD.out, HX.out, setV_eq] at he; subst he; have HBN := Lib.hid (bx1 w1 (.cells (fourC (wordF f 0) (wordF f 1) (wordF f 2) (wordF f 3)) 30)); have HB1 := Lib.hid (Below.step (Below.step HB0.out hb) HBN.out); have HK1 := Lib.hid (bx_old (p := .cells (fourC (wordF f 0) (wordF f 1) (wordF f 2) (wordF f 3)) 30) (bx_kept hb HK0.out)); obtain ⟨_, _, _, _, _, _, _, _, _, _, bf⟩ := blk10 HK1.out; have f0 := bf 0; have f1 := bf 1; have f2 := bf 2; have f3 := bf 3; have f4 := bf 4; have f5 := bf 5; have f6 := bf 6; have f7 := bf 7; have f8 := bf 8; have f9 := bf 9; clear bf hb)
    | fail)
  have e0 := putW_blk HK1.out (.int .u8 16) (.int .i64 (a : Int)) (.int .i64 ((a : Int) + (n : Int))) (.string ⟨#[]⟩) (.int .u64 (wordF f 0 : Int)) (.int .u64 (wordF f 1 : Int)) (.int .u64 (wordF f 2 : Int)) (.int .u64 (wordF f 3 : Int)) (.int .i64 0) (.int .i64 0)
  obtain ⟨t0, t1, t2, t3, t4, t5, t6, t7, t8, t9, _⟩ := blk10 e0
  refine bodyPost_ret (v := .tuple #[.agg #[.int .u8 16, .int .i64 (a : Int), .int .i64 ((a : Int) + (n : Int)), .string ⟨#[]⟩, .int .u64 (wordF f 0 : Int), .int .u64 (wordF f 1 : Int), .int .u64 (wordF f 2 : Int), .int .u64 (wordF f 3 : Int), .int .i64 0, .int .i64 0], .bool ((k : Int) == 0)]) (by simp [results, Tryd.results88, go_sem, t0, t1, t2, t3, t4, t5, t6, t7, t8, t9]) rfl ?_
  refine ⟨⟨16, a, a + n, [], wordF f 0, wordF f 1, wordF f 2, wordF f 3, 0, 0⟩, ((k : Int) == 0), rfl, fun h => ?_, fun h => ?_, putW_below HB1.out (Nat.le_refl _) _ _ _ _ _ _ _ _ _ _⟩
  · have hk0 : k = 0 := by simpa using h
    have hh := HH.out
    rw [if_pos hk0] at hh
    rw [wordL_of hh]
  · have hk0 : ¬ k = 0 := by simpa using h
    have hh := HH.out
    rw [if_neg hk0] at hh
    exact wordL_none hh
end Go.Proofs.YtabncmckojlllaaDoor
