/- The contract of bonsairef06's word. -/
import Derived.Test.YtidcoldoalimfaaMf
import Derived.Test.YtidcoldoalimfaaMg
import Derived.Test.YtidcoldoalimfaaMh
import Derived.Test.YtidcoldoalimfaaLo
import Derived.Test.YtidcoldoalimfaaNt
import Derived.Deep.DeepCutAuto
import Derived.Deep.Cut
import Derived.Deep.CutRange
namespace Go.Proofs.Ytidcoldoalimfaa
open Go.RowKit
set_option linter.unusedSimpArgs false
set_option linter.unusedVariables false

theorem runR_place (left : List UInt8) (en : UInt8) (t : List UInt8) : ∀ f a, a ≤ t.length → (runR left en t f a).2.1 ≤ t.length
  | 0, a, ha => ha
  | f + 1, a, ha => by
    simp only [runR]
    split
    · exact ha
    cases e : signR left t a with
    | no p k => rcases signR_no e with h | h <;> simp only <;> omega
    | ok b n => exact runR_place left en t f n (signR_ok e).2
theorem unlit_placeM (t : List UInt8) : (unlitR t).2.1 ≤ t.length := by
  cases hc : t[0]? with
  | none => unfold unlitR; rw [hc]; exact Nat.zero_le _
  | some c =>
    by_cases h : c = 34
    · subst h
      have hl := (List.getElem?_eq_some_iff.1 hc).1
      have h1 := runR_place [34] 34 t (t.length + 1 - 1) 1 (by omega)
      have h2 := RN_len [34] 34 t (t.length + 1 - 1) 1 (by omega) (by omega)
      rw [unlitR_of hc]
      unfold RN
      split
      · exact h1
      rename_i he
      split
      · exact Nat.zero_le _
      · have := (List.getElem?_eq_some_iff.1 (h2.2 (by simpa using he)).1).1
        simp only; omega
    · unfold unlitR; rw [hc]; simp only; rw [if_pos h]; exact Nat.zero_le _
theorem uncls_placeM (t : List UInt8) : (unclsR t).2.1 ≤ t.length := by
  cases hc : t[0]? with
  | none => unfold unclsR; rw [hc]; exact Nat.zero_le _
  | some c =>
    by_cases h : c = 91
    · subst h
      have hb := butA_le hc
      have h1 := GN_place t (t.length + 1 - butA t) (butA t) hb.2
      have h2 := GN_close t (t.length + 1 - butA t) (butA t) hb.2 (by omega)
      rw [unclsR_of hc]
      unfold GN
      split
      · exact h1
      · rename_i he
        have := (List.getElem?_eq_some_iff.1 (h2 (by simpa using he)).1).1
        simp only; omega
    · unfold unclsR; rw [hc]; simp only; rw [if_pos h]; exact Nat.zero_le _
def sigAt (k : Nat) : List UInt8 := sigL.getD k []
theorem sigV_at (j : Nat) (h : j < 14) : sigV[j]? = some (.string ⟨(sigAt j).toArray⟩) := by
  match j, h with
  | 0, _ => rfl
  | 1, _ => rfl
  | 2, _ => rfl
  | 3, _ => rfl
  | 4, _ => rfl
  | 5, _ => rfl
  | 6, _ => rfl
  | 7, _ => rfl
  | 8, _ => rfl
  | 9, _ => rfl
  | 10, _ => rfl
  | 11, _ => rfl
  | 12, _ => rfl
  | 13, _ => rfl
/-- Does the text begin by that word? -/
def beginsB (t : List UInt8) (k : Nat) : Bool := decide ((sigAt k).length ≤ t.length ∧ t.take (sigAt k).length = sigAt k)
def NoM (t : List UInt8) (k : Nat) : Prop := ∀ j, 2 ≤ j → j < k → beginsB t j = false
theorem NoM.zero (t : List UInt8) : NoM t 2 := fun j h1 h2 => by omega
theorem NoM.step {t : List UInt8} {k : Nat} (h : NoM t k) (hk : beginsB t k = false) : NoM t (k + 1) := fun j h1 h2 => by
  by_cases e : j = k
  · subst e; exact hk
  · exact h j h1 (by omega)
theorem begins2 (c : UInt8) (r : List UInt8) : beginsB (c :: r) 2 = decide (c = 60 ∧ r[0]? = some 45) := by
  unfold beginsB
  apply decide_eq_decide.2
  show (2 ≤ (c :: r).length ∧ (c :: r).take 2 = [60, 45]) ↔ _
  cases r with
  | nil => simp
  | cons d r => simp
theorem begins1 (c : UInt8) (r : List UInt8) (k : Nat) (b : UInt8) (h : sigAt k = [b]) : beginsB (c :: r) k = decide (c = b) := by
  unfold beginsB
  apply decide_eq_decide.2
  rw [h]
  simp
/-- The words that are themselves, as the document reads them. -/
theorem sig_head {c : UInt8} {r : List UInt8} (hl : isLetter c.toNat = false) (h1 : c ≠ 123) (h2 : c ≠ 34) (h3 : c ≠ 91) (h4 : c ≠ 46) :
    headW (c :: r) = if c = 60 then (if r[0]? = some 45 then some ⟨2, 0, 2, [], 0, 0, 0, 0, 0, 0⟩ else some ⟨11, 0, 1, [], 0, 0, 0, 0, 0, 0⟩) else (signK c).map fun k => ⟨k, 0, 1, [], 0, 0, 0, 0, 0, 0⟩ := by
  unfold headW
  simp [hl, h1, h2, h3, h4]
theorem sig_some {c : UInt8} {r : List UInt8} {k : Nat} (hl : isLetter c.toNat = false) (h1 : c ≠ 123) (h2 : c ≠ 34) (h3 : c ≠ 91) (h4 : c ≠ 46) (hk : 2 ≤ k) (hk2 : k < 14) (hn : NoM (c :: r) k) (hb : beginsB (c :: r) k = true) :
    headW (c :: r) = some ⟨k, 0, (sigAt k).length, [], 0, 0, 0, 0, 0, 0⟩ := by
  rw [sig_head hl h1 h2 h3 h4]
  have one : ∀ b : UInt8, sigAt k = [b] → c = b := fun b hs => by rw [begins1 c r k b hs] at hb; exact of_decide_eq_true hb
  match k, hk, hk2 with
  | 2, _, _ =>
    rw [begins2] at hb
    obtain ⟨e1, e2⟩ := of_decide_eq_true hb
    rw [if_pos e1, if_pos e2]; rfl
  | 3, _, _ => rw [one 47 rfl]; rfl
  | 4, _, _ => rw [one 38 rfl]; rfl
  | 5, _, _ => rw [one 33 rfl]; rfl
  | 6, _, _ => rw [one 63 rfl]; rfl
  | 7, _, _ => rw [one 42 rfl]; rfl
  | 8, _, _ => rw [one 43 rfl]; rfl
  | 9, _, _ => rw [one 40 rfl]; rfl
  | 10, _, _ => rw [one 41 rfl]; rfl
  | 11, _, _ =>
    have hn2 := hn 2 (by omega) (by omega)
    rw [begins2, one 60 rfl] at hn2
    rw [one 60 rfl, if_pos rfl, if_neg (fun h => by have := of_decide_eq_false hn2; exact this ⟨rfl, h⟩)]; rfl
  | 12, _, _ => rw [one 62 rfl]; rfl
  | 13, _, _ => rw [one 58 rfl]; rfl
theorem sig_none {c : UInt8} {r : List UInt8} (hl : isLetter c.toNat = false) (h1 : c ≠ 123) (h2 : c ≠ 34) (h3 : c ≠ 91) (h4 : c ≠ 46) (hn : NoM (c :: r) 14) : headW (c :: r) = none := by
  rw [sig_head hl h1 h2 h3 h4]
  have one : ∀ (k : Nat) (b : UInt8), 2 ≤ k → k < 14 → sigAt k = [b] → c ≠ b := fun k b hk hk2 hs => by have := hn k hk hk2; rw [begins1 c r k b hs] at this; exact of_decide_eq_false this
  rw [if_neg (one 11 60 (by omega) (by omega) rfl)]
  unfold signK
  rw [if_neg (one 3 47 (by omega) (by omega) rfl), if_neg (one 4 38 (by omega) (by omega) rfl), if_neg (one 5 33 (by omega) (by omega) rfl), if_neg (one 6 63 (by omega) (by omega) rfl), if_neg (one 7 42 (by omega) (by omega) rfl), if_neg (one 8 43 (by omega) (by omega) rfl), if_neg (one 9 40 (by omega) (by omega) rfl), if_neg (one 10 41 (by omega) (by omega) rfl), if_neg (one 12 62 (by omega) (by omega) rfl), if_neg (one 13 58 (by omega) (by omega) rfl)]
  rfl
theorem sig_len (k : Nat) : (sigAt k).length ≤ 2 := by
  by_cases h : k < 14
  · obtain rfl | rfl | rfl | rfl | rfl | rfl | rfl | rfl | rfl | rfl | rfl | rfl | rfl | rfl : k = 0 ∨ k = 1 ∨ k = 2 ∨ k = 3 ∨ k = 4 ∨ k = 5 ∨ k = 6 ∨ k = 7 ∨ k = 8 ∨ k = 9 ∨ k = 10 ∨ k = 11 ∨ k = 12 ∨ k = 13 := by omega
    all_goals decide
  · unfold sigAt
    rw [List.getD_eq_getElem?_getD, List.getElem?_eq_none (by show 14 ≤ k; omega)]; simp
theorem rsigns_at (w : World) : Calls Try.prog 25 #[] w fun e w' => ∃ g, e = .returned (.slice (some ⟨g, 0, none⟩) 14 14) ∧ w'.heap[g]? = some (.cells sigV 9 (0, 0)) ∧ Below w.heap.size w w' := rsigns_any w
theorem rall6_at (w : World) : Calls Try.prog 23 #[] w fun e w' => e = .returned (.agg #[.int .u64 18446744073709551615, .int .u64 18446744073709551615, .int .u64 18446744073709551615, .int .u64 18446744073709551615]) ∧ Below w.heap.size w w' := rall6_any w
theorem rtake_at (y : ByteArray) (w : World) (hs : y.size ≤ 281474976710656) : Calls Try.prog 20 #[.string y] w fun e w' => e = .returned (.string ⟨(takeL y.data.toList).toArray⟩) ∧ w = w' :=
  (rtake_any y w hs).mono fun e w' h => by
    obtain ⟨t, rfl, ht, rfl⟩ := h
    refine ⟨?_, rfl⟩
    rw [← ht]
theorem takeL_len (l : List UInt8) : (takeL l).length ≤ l.length := by
  cases l with
  | nil => simp [takeL]
  | cons c r =>
    simp only [takeL]
    split
    · simp only [List.length_cons]; have := (List.takeWhile_sublist alnum (l := r)).length_le; omega
    · simp
set_option maxRecDepth 100000 in
set_option maxHeartbeats 3000000 in
theorem rword_any (s : ByteArray) (a : Nat) (w : World) (ha : a < s.size) (hs : s.size ≤ 1000000) : Calls Try.prog 16 #[.string s, .int .i64 (a : Int)] w (ReadPost s.data.toList a w) := by
  have HD := Lib.hid (cut_data s a (by omega))
  have hyz : (s.extract a s.size).size ≤ 1000000 := by rw [ByteArray.size_extract]; omega
  have hy0 : 0 < (s.extract a s.size).size := by rw [ByteArray.size_extract]; omega
  have i1 : (0 : Int) ≤ (a : Int) := by omega
  have i2 : (a : Int) ≤ (s.size : Int) := by omega
  go_enter Try.func16, Try.ntmps16
  go_upto_region 3 with fail
  have HW := Lib.hid (bx_new (w.alloc (.cells #[.int .u8 0, .int .i64 0, .int .i64 0, .string ⟨#[]⟩, .int .u64 0, .int .u64 0, .int .u64 0, .int .u64 0, .int .i64 0, .int .i64 0] 45)) (.cells #[.int .u8 0, .int .i64 (a : Int), .int .i64 0, .string ⟨#[]⟩, .int .u64 0, .int .u64 0, .int .u64 0, .int .u64 0, .int .i64 0, .int .i64 0] 45))
  rw [World.size_alloc] at HW
  have HR := Lib.hid (bx_old (p := (.cells #[.int .u8 0, .int .i64 (a : Int), .int .i64 0, .string ⟨#[]⟩, .int .u64 0, .int .u64 0, .int .u64 0, .int .u64 0, .int .i64 0, .int .i64 0] 45)) (bx_new w (.cells #[.int .u8 0, .int .i64 0, .int .i64 0, .string ⟨#[]⟩, .int .u64 0, .int .u64 0, .int .u64 0, .int .u64 0, .int .i64 0, .int .i64 0] 45)))
  have HB := Lib.hid (bx2 w (.cells #[.int .u8 0, .int .i64 0, .int .i64 0, .string ⟨#[]⟩, .int .u64 0, .int .u64 0, .int .u64 0, .int .u64 0, .int .i64 0, .int .i64 0] 45) (.cells #[.int .u8 0, .int .i64 (a : Int), .int .i64 0, .string ⟨#[]⟩, .int .u64 0, .int .u64 0, .int .u64 0, .int .u64 0, .int .i64 0, .int .i64 0] 45))
  generalize ((w.alloc (.cells #[.int .u8 0, .int .i64 0, .int .i64 0, .string ⟨#[]⟩, .int .u64 0, .int .u64 0, .int .u64 0, .int .u64 0, .int .i64 0, .int .i64 0] 45)).alloc (.cells #[.int .u8 0, .int .i64 (a : Int), .int .i64 0, .string ⟨#[]⟩, .int .u64 0, .int .u64 0, .int .u64 0, .int .u64 0, .int .i64 0, .int .i64 0] 45)) = W at *
  generalize s.extract a s.size = y at *
  have HTK := Lib.hid (fun w => rtake_at y w (by omega))
  obtain ⟨c, r, hcr⟩ : ∃ c r, y.data.toList = c :: r := by
    cases h : y.data.toList with
    | nil => have := sz_data y; rw [h] at this; simp at this; omega
    | cons c r => exact ⟨c, r, rfl⟩
  have HY0 := Lib.hid (show y[0] = c from by have h := Lib.data_getElem? y 0 hy0; rw [hcr] at h; exact (Option.some.inj h).symm)
  have HCR := Lib.hid hcr
  have HHD := Lib.hid (show s.data.toList.drop a = c :: r from HD.out.symm.trans hcr)
  have j0 : (0 : Int) < (y.size : Int) := by omega
  have HYZ := Lib.hid (show y.data.toList.length = y.size from sz_data y)
  obtain ⟨t0, t1, t2, t3, t4, t5, t6, t7, t8, t9, tf⟩ := blk10 HW.out
  have f0 := tf 0; have f2 := tf 2; have f3 := tf 3; have f4 := tf 4; have f5 := tf 5; have f6 := tf 6; have f7 := tf 7; have f8 := tf 8; have f9 := tf 9
  cases hl : isLetter c.toNat
  · have HTL := Lib.hid (show takeL y.data.toList = [] from by rw [hcr]; simp [takeL, hl])
    rw [HTL.out] at HTK
    have hx := HY0.out
    by_cases h34 : c = 34
    · have HHL := Lib.hid (show headW (s.data.toList.drop a) = if (unlitR y.data.toList).2.2 = 0 then some ⟨15, 0, (unlitR y.data.toList).2.1, (unlitR y.data.toList).1, 0, 0, 0, 0, 0, 0⟩ else none from by
        rw [HHD.out, HCR.out, h34]; rfl)
      have e34 : ((c.toNat : Int) == 34) = true := by rw [h34]; rfl
      have HUL := Lib.hid (fun w => rulit_any y w hyz)
      unfold UnlitPost at HUL
      obtain ⟨l, n, er, hu⟩ : ∃ l n er, unlitR y.data.toList = (l, n, er) := ⟨_, _, _, rfl⟩
      have hpl := unlit_placeM y.data.toList
      rw [hu] at HUL HHL hpl
      simp only at HUL HHL hpl
      have hpl2 : n ≤ y.size := by have := HYZ.out; omega
      clear hu hcr h34 hl hpl
      go_upto_region 10 with (first | (go_at_call 20; (with_reducible refine (HTK.out _).mono ?_); rintro e w' ⟨rfl, rfl⟩) | (go_at_call 21; go_loud ((with_reducible refine (HUL.out _).mono ?_); rintro e w1 ⟨rfl, hb⟩); have HWq := HW; have HRq := HR; have HBq := HB; clear HW HR HB t0 t1 t2 t3 t4 t5 t6 t7 t8 t9 tf f0 f2 f3 f4 f5 f6 f7 f8 f9; have HW := Lib.hid (bx_kept hb HWq.out); have HR := Lib.hid (bx_kept hb HRq.out); have HB := Lib.hid (Below.step HBq.out hb); obtain ⟨t0, t1, t2, t3, t4, t5, t6, t7, t8, t9, tf⟩ := blk10 HW.out; have f0 := tf 0; have f2 := tf 2; have f3 := tf 3; have f4 := tf 4; have f5 := tf 5; have f6 := tf 6; have f7 := tf 7; have f8 := tf 8; have f9 := tf 9; clear hb HWq HRq HBq) | fail)
      have HW3 := Lib.hid (show ((((w1.setCell ⟨w.heap.size + 1, 0, none⟩ (.int .u8 15)).setCell ⟨w.heap.size + 1, 3, none⟩ (.string ⟨l.toArray⟩)).setCell ⟨w.heap.size + 1, 2, none⟩ (.int .i64 ((a : Int) + (n : Int))))).heap[w.heap.size + 1]? = some (.cells #[.int .u8 15, .int .i64 (a : Int), .int .i64 ((a : Int) + (n : Int)), .string ⟨l.toArray⟩, .int .u64 0, .int .u64 0, .int .u64 0, .int .u64 0, .int .i64 0, .int .i64 0] 45 (0, 0)) from by
        have q0 : (w1.setCell ⟨w.heap.size + 1, 0, none⟩ (.int .u8 15)).heap[w.heap.size + 1]? = some (.cells #[.int .u8 15, .int .i64 (a : Int), .int .i64 0, .string ⟨#[]⟩, .int .u64 0, .int .u64 0, .int .u64 0, .int .u64 0, .int .i64 0, .int .i64 0] 45 (0, 0)) := heap_setCell_same _ (w.heap.size + 1) 0 _ _ _ HW.out
        have q1 : ((w1.setCell ⟨w.heap.size + 1, 0, none⟩ (.int .u8 15)).setCell ⟨w.heap.size + 1, 3, none⟩ (.string ⟨l.toArray⟩)).heap[w.heap.size + 1]? = some (.cells #[.int .u8 15, .int .i64 (a : Int), .int .i64 0, .string ⟨l.toArray⟩, .int .u64 0, .int .u64 0, .int .u64 0, .int .u64 0, .int .i64 0, .int .i64 0] 45 (0, 0)) := heap_setCell_same _ (w.heap.size + 1) 3 _ _ _ q0
        have q2 : (((w1.setCell ⟨w.heap.size + 1, 0, none⟩ (.int .u8 15)).setCell ⟨w.heap.size + 1, 3, none⟩ (.string ⟨l.toArray⟩)).setCell ⟨w.heap.size + 1, 2, none⟩ (.int .i64 ((a : Int) + (n : Int)))).heap[w.heap.size + 1]? = some (.cells #[.int .u8 15, .int .i64 (a : Int), .int .i64 ((a : Int) + (n : Int)), .string ⟨l.toArray⟩, .int .u64 0, .int .u64 0, .int .u64 0, .int .u64 0, .int .i64 0, .int .i64 0] 45 (0, 0)) := heap_setCell_same _ (w.heap.size + 1) 2 _ _ _ q1
        exact q2)
      have HR3 := Lib.hid (show (((w1.setCell ⟨w.heap.size + 1, 0, none⟩ (.int .u8 15)).setCell ⟨w.heap.size + 1, 3, none⟩ (.string ⟨l.toArray⟩)).setCell ⟨w.heap.size + 1, 2, none⟩ (.int .i64 ((a : Int) + (n : Int)))).heap[w.heap.size]? = _ from ((Below.heap_setCell _ _ _ _ (by show w.heap.size ≠ w.heap.size + 1; omega)).trans ((Below.heap_setCell _ _ _ _ (by show w.heap.size ≠ w.heap.size + 1; omega)).trans ((Below.heap_setCell _ _ _ _ (by show w.heap.size ≠ w.heap.size + 1; omega)).trans HR.out))))
      have HB3 := Lib.hid (((HB.out.setCell (p := ⟨w.heap.size + 1, 0, none⟩) (by show w.heap.size ≤ w.heap.size + 1; omega) (.int .u8 15)).setCell (p := ⟨w.heap.size + 1, 3, none⟩) (by show w.heap.size ≤ w.heap.size + 1; omega) (.string ⟨l.toArray⟩)).setCell (p := ⟨w.heap.size + 1, 2, none⟩) (by show w.heap.size ≤ w.heap.size + 1; omega) (.int .i64 ((a : Int) + (n : Int))))
      clear t0 t1 t2 t3 t4 t5 t6 t7 t8 t9 tf f0 f2 f3 f4 f5 f6 f7 f8 f9 HW HR HB
      generalize (((w1.setCell ⟨w.heap.size + 1, 0, none⟩ (.int .u8 15)).setCell ⟨w.heap.size + 1, 3, none⟩ (.string ⟨l.toArray⟩)).setCell ⟨w.heap.size + 1, 2, none⟩ (.int .i64 ((a : Int) + (n : Int)))) = W3 at *
      obtain ⟨t0, t1, t2, t3, t4, t5, t6, t7, t8, t9, _⟩ := blk10 HW3.out
      obtain ⟨r0, r1, r2, r3, r4, r5, r6, r7, r8, r9, rf⟩ := blk10 HR3.out
      have g0 := rf 0; have g1 := rf 1; have g2 := rf 2; have g3 := rf 3; have g4 := rf 4; have g5 := rf 5; have g6 := rf 6; have g7 := rf 7; have g8 := rf 8; have g9 := rf 9
      by_cases he : er = 0
      · subst he
        have HH := Lib.hid (HHL.out.trans (if_pos rfl))
        go_wp2_with fail
        have HP := putW_blk HR3.out (.int .u8 15) (.int .i64 (a : Int)) (.int .i64 ((a : Int) + (n : Int))) (.string ⟨l.toArray⟩) (.int .u64 0) (.int .u64 0) (.int .u64 0) (.int .u64 0) (.int .i64 0) (.int .i64 0)
        unfold putW at HP
        have HBP := putW_below HB3.out (show w.heap.size ≤ w.heap.size by omega) (.int .u8 15) (.int .i64 (a : Int)) (.int .i64 ((a : Int) + (n : Int))) (.string ⟨l.toArray⟩) (.int .u64 0) (.int .u64 0) (.int .u64 0) (.int .u64 0) (.int .i64 0) (.int .i64 0)
        unfold putW at HBP
        obtain ⟨s0, s1, s2, s3, s4, s5, s6, s7, s8, s9, _⟩ := blk10 HP
        exact bodyPost_ret (v := .tuple #[.agg #[.int .u8 15, .int .i64 (a : Int), .int .i64 ((a : Int) + (n : Int)), .string ⟨l.toArray⟩, .int .u64 0, .int .u64 0, .int .u64 0, .int .u64 0, .int .i64 0, .int .i64 0], .bool true]) (by simp [results, Try.results16, go_sem, s0, s1, s2, s3, s4, s5, s6, s7, s8, s9, *]) rfl ⟨⟨15, a, a + n, l, 0, 0, 0, 0, 0, 0⟩, true, by simp [wdV, wdC], (fun _ => by rw [wordL_of HH.out]), (fun h => by cases h), HBP⟩
      · have k1 : ((er : Int) == 0) = false := by simp; omega
        have HH := Lib.hid (HHL.out.trans (if_neg he))
        go_wp2_with fail
        have HP := putW_blk HR3.out (.int .u8 15) (.int .i64 (a : Int)) (.int .i64 ((a : Int) + (n : Int))) (.string ⟨l.toArray⟩) (.int .u64 0) (.int .u64 0) (.int .u64 0) (.int .u64 0) (.int .i64 0) (.int .i64 0)
        unfold putW at HP
        have HBP := putW_below HB3.out (show w.heap.size ≤ w.heap.size by omega) (.int .u8 15) (.int .i64 (a : Int)) (.int .i64 ((a : Int) + (n : Int))) (.string ⟨l.toArray⟩) (.int .u64 0) (.int .u64 0) (.int .u64 0) (.int .u64 0) (.int .i64 0) (.int .i64 0)
        unfold putW at HBP
        obtain ⟨s0, s1, s2, s3, s4, s5, s6, s7, s8, s9, _⟩ := blk10 HP
        exact bodyPost_ret (v := .tuple #[.agg #[.int .u8 15, .int .i64 (a : Int), .int .i64 ((a : Int) + (n : Int)), .string ⟨l.toArray⟩, .int .u64 0, .int .u64 0, .int .u64 0, .int .u64 0, .int .i64 0, .int .i64 0], .bool false]) (by simp [results, Try.results16, go_sem, s0, s1, s2, s3, s4, s5, s6, s7, s8, s9, *]) rfl ⟨⟨15, a, a + n, l, 0, 0, 0, 0, 0, 0⟩, false, by simp [wdV, wdC], (fun h => by cases h), (fun _ => wordL_none HH.out), HBP⟩
    have e34 : ((c.toNat : Int) == 34) = false := (eqB c 34 (by decide)).trans (decide_eq_false h34)

    by_cases h91 : c = 91
    · have HHL := Lib.hid (show headW (s.data.toList.drop a) = if (unclsR y.data.toList).2.2 = 0 then some ⟨16, 0, (unclsR y.data.toList).2.1, [], wordF (unclsR y.data.toList).1 0, wordF (unclsR y.data.toList).1 1, wordF (unclsR y.data.toList).1 2, wordF (unclsR y.data.toList).1 3, 0, 0⟩ else none from by
        rw [HHD.out, HCR.out, h91]; rfl)
      have e91 : ((c.toNat : Int) == 91) = true := by rw [h91]; rfl
      have HUL := Lib.hid (fun w => ruclass_any y w hyz)
      unfold UcPost at HUL
      obtain ⟨f, n, er, hu⟩ : ∃ f n er, unclsR y.data.toList = (f, n, er) := ⟨_, _, _, rfl⟩
      have hpl := uncls_placeM y.data.toList
      rw [hu] at HUL HHL hpl
      simp only [setV_eq] at HUL HHL hpl
      have hpl2 : n ≤ y.size := by have := HYZ.out; omega
      generalize wordF f 0 = x0 at *
      generalize wordF f 1 = x1 at *
      generalize wordF f 2 = x2 at *
      generalize wordF f 3 = x3 at *
      clear hu hcr h91 h34 hl hpl
      go_upto_region 13 with (first | (go_at_call 20; (with_reducible refine (HTK.out _).mono ?_); rintro e w' ⟨rfl, rfl⟩) | (go_at_call 22; (with_reducible refine (HUL.out _).mono ?_); rintro e w1 ⟨rfl, hb⟩; have HWq := HW; have HRq := HR; have HBq := HB; clear HW HR HB t0 t1 t2 t3 t4 t5 t6 t7 t8 t9 tf f0 f2 f3 f4 f5 f6 f7 f8 f9; have HW := Lib.hid (bx_kept hb HWq.out); have HR := Lib.hid (bx_kept hb HRq.out); have HB := Lib.hid (Below.step HBq.out hb); obtain ⟨t0, t1, t2, t3, t4, t5, t6, t7, t8, t9, tf⟩ := blk10 HW.out; have f0 := tf 0; have f2 := tf 2; have f3 := tf 3; have f4 := tf 4; have f5 := tf 5; have f6 := tf 6; have f7 := tf 7; have f8 := tf 8; have f9 := tf 9; clear hb HWq HRq HBq) | fail)
      have hq1 : ¬ w1.heap.size = w.heap.size + 1 := by have := (Array.getElem?_eq_some_iff.1 HW.out).1; omega
      have hq2 : ¬ w.heap.size + 1 = w1.heap.size := by have := (Array.getElem?_eq_some_iff.1 HW.out).1; omega
      have HS := Lib.hid (bx_new w1 (.cells (fourC x0 x1 x2 x3) 33))
      have HWp := Lib.hid (bx_old (p := .cells (fourC x0 x1 x2 x3) 33) HW.out)
      have HRp := Lib.hid (bx_old (p := .cells (fourC x0 x1 x2 x3) 33) HR.out)
      have HBp := Lib.hid (Below.step HB.out (bx1 w1 (.cells (fourC x0 x1 x2 x3) 33)))
      clear t0 t1 t2 t3 t4 t5 t6 t7 t8 t9 tf f0 f2 f3 f4 f5 f6 f7 f8 f9 HW HR HB
      generalize w1.alloc (.cells (fourC x0 x1 x2 x3) 33) = W2 at *
      have HW := HWp; have HR := HRp; have HB := HBp
      clear HWp HRp HBp
      generalize w1.heap.size = Q at *
      obtain ⟨t0, t1, t2, t3, t4, t5, t6, t7, t8, t9, tf⟩ := blk10 HW.out
      have f0 := tf 0; have f2 := tf 2; have f3 := tf 3; have f4 := tf 4; have f5 := tf 5; have f6 := tf 6; have f7 := tf 7; have f8 := tf 8; have f9 := tf 9
      obtain ⟨z0, z1, z2, z3, _⟩ := blk4 HS.out
      go_region
      have HW3 := Lib.hid (show (((((((W2.setCell ⟨w.heap.size + 1, 0, none⟩ (.int .u8 16)).setCell ⟨w.heap.size + 1, 4, none⟩ (.int .u64 (x0 : Int))).setCell ⟨w.heap.size + 1, 5, none⟩ (.int .u64 (x1 : Int))).setCell ⟨w.heap.size + 1, 6, none⟩ (.int .u64 (x2 : Int))).setCell ⟨w.heap.size + 1, 7, none⟩ (.int .u64 (x3 : Int))).setCell ⟨w.heap.size + 1, 2, none⟩ (.int .i64 ((a : Int) + (n : Int)))).drew).heap[w.heap.size + 1]? = some (.cells #[.int .u8 16, .int .i64 (a : Int), .int .i64 ((a : Int) + (n : Int)), .string ⟨#[]⟩, .int .u64 (x0 : Int), .int .u64 (x1 : Int), .int .u64 (x2 : Int), .int .u64 (x3 : Int), .int .i64 0, .int .i64 0] 45 (0, 0)) from by
        have q0 : (W2.setCell ⟨w.heap.size + 1, 0, none⟩ (.int .u8 16)).heap[w.heap.size + 1]? = some (.cells #[.int .u8 16, .int .i64 (a : Int), .int .i64 0, .string ⟨#[]⟩, .int .u64 0, .int .u64 0, .int .u64 0, .int .u64 0, .int .i64 0, .int .i64 0] 45 (0, 0)) := heap_setCell_same _ (w.heap.size + 1) 0 _ _ _ HW.out
        have q1 : ((W2.setCell ⟨w.heap.size + 1, 0, none⟩ (.int .u8 16)).setCell ⟨w.heap.size + 1, 4, none⟩ (.int .u64 (x0 : Int))).heap[w.heap.size + 1]? = some (.cells #[.int .u8 16, .int .i64 (a : Int), .int .i64 0, .string ⟨#[]⟩, .int .u64 (x0 : Int), .int .u64 0, .int .u64 0, .int .u64 0, .int .i64 0, .int .i64 0] 45 (0, 0)) := heap_setCell_same _ (w.heap.size + 1) 4 _ _ _ q0
        have q2 : (((W2.setCell ⟨w.heap.size + 1, 0, none⟩ (.int .u8 16)).setCell ⟨w.heap.size + 1, 4, none⟩ (.int .u64 (x0 : Int))).setCell ⟨w.heap.size + 1, 5, none⟩ (.int .u64 (x1 : Int))).heap[w.heap.size + 1]? = some (.cells #[.int .u8 16, .int .i64 (a : Int), .int .i64 0, .string ⟨#[]⟩, .int .u64 (x0 : Int), .int .u64 (x1 : Int), .int .u64 0, .int .u64 0, .int .i64 0, .int .i64 0] 45 (0, 0)) := heap_setCell_same _ (w.heap.size + 1) 5 _ _ _ q1
        have q3 : ((((W2.setCell ⟨w.heap.size + 1, 0, none⟩ (.int .u8 16)).setCell ⟨w.heap.size + 1, 4, none⟩ (.int .u64 (x0 : Int))).setCell ⟨w.heap.size + 1, 5, none⟩ (.int .u64 (x1 : Int))).setCell ⟨w.heap.size + 1, 6, none⟩ (.int .u64 (x2 : Int))).heap[w.heap.size + 1]? = some (.cells #[.int .u8 16, .int .i64 (a : Int), .int .i64 0, .string ⟨#[]⟩, .int .u64 (x0 : Int), .int .u64 (x1 : Int), .int .u64 (x2 : Int), .int .u64 0, .int .i64 0, .int .i64 0] 45 (0, 0)) := heap_setCell_same _ (w.heap.size + 1) 6 _ _ _ q2
        have q4 : (((((W2.setCell ⟨w.heap.size + 1, 0, none⟩ (.int .u8 16)).setCell ⟨w.heap.size + 1, 4, none⟩ (.int .u64 (x0 : Int))).setCell ⟨w.heap.size + 1, 5, none⟩ (.int .u64 (x1 : Int))).setCell ⟨w.heap.size + 1, 6, none⟩ (.int .u64 (x2 : Int))).setCell ⟨w.heap.size + 1, 7, none⟩ (.int .u64 (x3 : Int))).heap[w.heap.size + 1]? = some (.cells #[.int .u8 16, .int .i64 (a : Int), .int .i64 0, .string ⟨#[]⟩, .int .u64 (x0 : Int), .int .u64 (x1 : Int), .int .u64 (x2 : Int), .int .u64 (x3 : Int), .int .i64 0, .int .i64 0] 45 (0, 0)) := heap_setCell_same _ (w.heap.size + 1) 7 _ _ _ q3
        have q5 : ((((((W2.setCell ⟨w.heap.size + 1, 0, none⟩ (.int .u8 16)).setCell ⟨w.heap.size + 1, 4, none⟩ (.int .u64 (x0 : Int))).setCell ⟨w.heap.size + 1, 5, none⟩ (.int .u64 (x1 : Int))).setCell ⟨w.heap.size + 1, 6, none⟩ (.int .u64 (x2 : Int))).setCell ⟨w.heap.size + 1, 7, none⟩ (.int .u64 (x3 : Int))).setCell ⟨w.heap.size + 1, 2, none⟩ (.int .i64 ((a : Int) + (n : Int)))).heap[w.heap.size + 1]? = some (.cells #[.int .u8 16, .int .i64 (a : Int), .int .i64 ((a : Int) + (n : Int)), .string ⟨#[]⟩, .int .u64 (x0 : Int), .int .u64 (x1 : Int), .int .u64 (x2 : Int), .int .u64 (x3 : Int), .int .i64 0, .int .i64 0] 45 (0, 0)) := heap_setCell_same _ (w.heap.size + 1) 2 _ _ _ q4
        exact bx_drew q5)
      have HR3 := Lib.hid (bx_drew (show ((((((W2.setCell ⟨w.heap.size + 1, 0, none⟩ (.int .u8 16)).setCell ⟨w.heap.size + 1, 4, none⟩ (.int .u64 (x0 : Int))).setCell ⟨w.heap.size + 1, 5, none⟩ (.int .u64 (x1 : Int))).setCell ⟨w.heap.size + 1, 6, none⟩ (.int .u64 (x2 : Int))).setCell ⟨w.heap.size + 1, 7, none⟩ (.int .u64 (x3 : Int))).setCell ⟨w.heap.size + 1, 2, none⟩ (.int .i64 ((a : Int) + (n : Int)))).heap[w.heap.size]? = _ from ((Below.heap_setCell _ _ _ _ (by show w.heap.size ≠ w.heap.size + 1; omega)).trans ((Below.heap_setCell _ _ _ _ (by show w.heap.size ≠ w.heap.size + 1; omega)).trans ((Below.heap_setCell _ _ _ _ (by show w.heap.size ≠ w.heap.size + 1; omega)).trans ((Below.heap_setCell _ _ _ _ (by show w.heap.size ≠ w.heap.size + 1; omega)).trans ((Below.heap_setCell _ _ _ _ (by show w.heap.size ≠ w.heap.size + 1; omega)).trans ((Below.heap_setCell _ _ _ _ (by show w.heap.size ≠ w.heap.size + 1; omega)).trans HR.out))))))))
      have HB3 := Lib.hid ((((((HB.out.setCell (p := ⟨w.heap.size + 1, 0, none⟩) (by show w.heap.size ≤ w.heap.size + 1; omega) (.int .u8 16)).setCell (p := ⟨w.heap.size + 1, 4, none⟩) (by show w.heap.size ≤ w.heap.size + 1; omega) (.int .u64 (x0 : Int))).setCell (p := ⟨w.heap.size + 1, 5, none⟩) (by show w.heap.size ≤ w.heap.size + 1; omega) (.int .u64 (x1 : Int))).setCell (p := ⟨w.heap.size + 1, 6, none⟩) (by show w.heap.size ≤ w.heap.size + 1; omega) (.int .u64 (x2 : Int))).setCell (p := ⟨w.heap.size + 1, 7, none⟩) (by show w.heap.size ≤ w.heap.size + 1; omega) (.int .u64 (x3 : Int))).setCell (p := ⟨w.heap.size + 1, 2, none⟩) (by show w.heap.size ≤ w.heap.size + 1; omega) (.int .i64 ((a : Int) + (n : Int)))).drew
      clear z0 z1 z2 z3 t0 t1 t2 t3 t4 t5 t6 t7 t8 t9 tf f0 f2 f3 f4 f5 f6 f7 f8 f9 HW HR HB
      generalize ((((((W2.setCell ⟨w.heap.size + 1, 0, none⟩ (.int .u8 16)).setCell ⟨w.heap.size + 1, 4, none⟩ (.int .u64 (x0 : Int))).setCell ⟨w.heap.size + 1, 5, none⟩ (.int .u64 (x1 : Int))).setCell ⟨w.heap.size + 1, 6, none⟩ (.int .u64 (x2 : Int))).setCell ⟨w.heap.size + 1, 7, none⟩ (.int .u64 (x3 : Int))).setCell ⟨w.heap.size + 1, 2, none⟩ (.int .i64 ((a : Int) + (n : Int)))).drew = W3 at *
      obtain ⟨t0, t1, t2, t3, t4, t5, t6, t7, t8, t9, _⟩ := blk10 HW3.out
      obtain ⟨r0, r1, r2, r3, r4, r5, r6, r7, r8, r9, rf⟩ := blk10 HR3.out
      have g0 := rf 0; have g1 := rf 1; have g2 := rf 2; have g3 := rf 3; have g4 := rf 4; have g5 := rf 5; have g6 := rf 6; have g7 := rf 7; have g8 := rf 8; have g9 := rf 9
      by_cases he : er = 0
      · subst he
        have HH := Lib.hid (HHL.out.trans (if_pos rfl))
        go_wp2_with fail
        have HP := putW_blk HR3.out (.int .u8 16) (.int .i64 (a : Int)) (.int .i64 ((a : Int) + (n : Int))) (.string ⟨#[]⟩) (.int .u64 (x0 : Int)) (.int .u64 (x1 : Int)) (.int .u64 (x2 : Int)) (.int .u64 (x3 : Int)) (.int .i64 0) (.int .i64 0)
        unfold putW at HP
        have HBP := putW_below HB3.out (show w.heap.size ≤ w.heap.size by omega) (.int .u8 16) (.int .i64 (a : Int)) (.int .i64 ((a : Int) + (n : Int))) (.string ⟨#[]⟩) (.int .u64 (x0 : Int)) (.int .u64 (x1 : Int)) (.int .u64 (x2 : Int)) (.int .u64 (x3 : Int)) (.int .i64 0) (.int .i64 0)
        unfold putW at HBP
        obtain ⟨s0, s1, s2, s3, s4, s5, s6, s7, s8, s9, _⟩ := blk10 HP
        exact bodyPost_ret (v := .tuple #[.agg #[.int .u8 16, .int .i64 (a : Int), .int .i64 ((a : Int) + (n : Int)), .string ⟨#[]⟩, .int .u64 (x0 : Int), .int .u64 (x1 : Int), .int .u64 (x2 : Int), .int .u64 (x3 : Int), .int .i64 0, .int .i64 0], .bool true]) (by simp [results, Try.results16, go_sem, s0, s1, s2, s3, s4, s5, s6, s7, s8, s9, *]) rfl ⟨⟨16, a, a + n, [], x0, x1, x2, x3, 0, 0⟩, true, by simp [wdV, wdC], (fun _ => by rw [wordL_of HH.out]), (fun h => by cases h), HBP⟩
      · have k1 : ((er : Int) == 0) = false := by simp; omega
        have HH := Lib.hid (HHL.out.trans (if_neg he))
        go_wp2_with fail
        have HP := putW_blk HR3.out (.int .u8 16) (.int .i64 (a : Int)) (.int .i64 ((a : Int) + (n : Int))) (.string ⟨#[]⟩) (.int .u64 (x0 : Int)) (.int .u64 (x1 : Int)) (.int .u64 (x2 : Int)) (.int .u64 (x3 : Int)) (.int .i64 0) (.int .i64 0)
        unfold putW at HP
        have HBP := putW_below HB3.out (show w.heap.size ≤ w.heap.size by omega) (.int .u8 16) (.int .i64 (a : Int)) (.int .i64 ((a : Int) + (n : Int))) (.string ⟨#[]⟩) (.int .u64 (x0 : Int)) (.int .u64 (x1 : Int)) (.int .u64 (x2 : Int)) (.int .u64 (x3 : Int)) (.int .i64 0) (.int .i64 0)
        unfold putW at HBP
        obtain ⟨s0, s1, s2, s3, s4, s5, s6, s7, s8, s9, _⟩ := blk10 HP
        exact bodyPost_ret (v := .tuple #[.agg #[.int .u8 16, .int .i64 (a : Int), .int .i64 ((a : Int) + (n : Int)), .string ⟨#[]⟩, .int .u64 (x0 : Int), .int .u64 (x1 : Int), .int .u64 (x2 : Int), .int .u64 (x3 : Int), .int .i64 0, .int .i64 0], .bool false]) (by simp [results, Try.results16, go_sem, s0, s1, s2, s3, s4, s5, s6, s7, s8, s9, *]) rfl ⟨⟨16, a, a + n, [], x0, x1, x2, x3, 0, 0⟩, false, by simp [wdV, wdC], (fun h => by cases h), (fun _ => wordL_none HH.out), HBP⟩
    have e91 : ((c.toNat : Int) == 91) = false := (eqB c 91 (by decide)).trans (decide_eq_false h91)
    by_cases h46 : c = 46
    · have HH := Lib.hid (show headW (s.data.toList.drop a) = some ⟨16, 0, 1, [], 18446744073709551615, 18446744073709551615, 18446744073709551615, 18446744073709551615, 0, 0⟩ from by
        rw [HHD.out, h46]; rfl)
      have e46 : ((c.toNat : Int) == 46) = true := by rw [h46]; rfl
      clear hcr h46 h91 h34 hl
      go_upto_region 17 with (first | (go_at_call 20; (with_reducible refine (HTK.out _).mono ?_); rintro e w' ⟨rfl, rfl⟩) | (go_at_call 23; (with_reducible refine (rall6_at _).mono ?_); rintro e w1 ⟨rfl, hb⟩; have HWq := HW; have HRq := HR; have HBq := HB; clear HW HR HB t0 t1 t2 t3 t4 t5 t6 t7 t8 t9 tf f0 f2 f3 f4 f5 f6 f7 f8 f9; have HW := Lib.hid (bx_kept hb HWq.out); have HR := Lib.hid (bx_kept hb HRq.out); have HB := Lib.hid (Below.step HBq.out hb); obtain ⟨t0, t1, t2, t3, t4, t5, t6, t7, t8, t9, tf⟩ := blk10 HW.out; have f0 := tf 0; have f2 := tf 2; have f3 := tf 3; have f4 := tf 4; have f5 := tf 5; have f6 := tf 6; have f7 := tf 7; have f8 := tf 8; have f9 := tf 9; clear hb HWq HRq HBq) | fail)
      have HW3 := Lib.hid (show (((((((w1.setCell ⟨w.heap.size + 1, 0, none⟩ (.int .u8 16)).setCell ⟨w.heap.size + 1, 4, none⟩ (.int .u64 18446744073709551615)).setCell ⟨w.heap.size + 1, 5, none⟩ (.int .u64 18446744073709551615)).setCell ⟨w.heap.size + 1, 6, none⟩ (.int .u64 18446744073709551615)).setCell ⟨w.heap.size + 1, 7, none⟩ (.int .u64 18446744073709551615)).setCell ⟨w.heap.size + 1, 2, none⟩ (.int .i64 ((a : Int) + 1)))).heap[w.heap.size + 1]? = some (.cells #[.int .u8 16, .int .i64 (a : Int), .int .i64 ((a : Int) + 1), .string ⟨#[]⟩, .int .u64 18446744073709551615, .int .u64 18446744073709551615, .int .u64 18446744073709551615, .int .u64 18446744073709551615, .int .i64 0, .int .i64 0] 45 (0, 0)) from by
        have q0 : (w1.setCell ⟨w.heap.size + 1, 0, none⟩ (.int .u8 16)).heap[w.heap.size + 1]? = some (.cells #[.int .u8 16, .int .i64 (a : Int), .int .i64 0, .string ⟨#[]⟩, .int .u64 0, .int .u64 0, .int .u64 0, .int .u64 0, .int .i64 0, .int .i64 0] 45 (0, 0)) := heap_setCell_same _ (w.heap.size + 1) 0 _ _ _ HW.out
        have q1 : ((w1.setCell ⟨w.heap.size + 1, 0, none⟩ (.int .u8 16)).setCell ⟨w.heap.size + 1, 4, none⟩ (.int .u64 18446744073709551615)).heap[w.heap.size + 1]? = some (.cells #[.int .u8 16, .int .i64 (a : Int), .int .i64 0, .string ⟨#[]⟩, .int .u64 18446744073709551615, .int .u64 0, .int .u64 0, .int .u64 0, .int .i64 0, .int .i64 0] 45 (0, 0)) := heap_setCell_same _ (w.heap.size + 1) 4 _ _ _ q0
        have q2 : (((w1.setCell ⟨w.heap.size + 1, 0, none⟩ (.int .u8 16)).setCell ⟨w.heap.size + 1, 4, none⟩ (.int .u64 18446744073709551615)).setCell ⟨w.heap.size + 1, 5, none⟩ (.int .u64 18446744073709551615)).heap[w.heap.size + 1]? = some (.cells #[.int .u8 16, .int .i64 (a : Int), .int .i64 0, .string ⟨#[]⟩, .int .u64 18446744073709551615, .int .u64 18446744073709551615, .int .u64 0, .int .u64 0, .int .i64 0, .int .i64 0] 45 (0, 0)) := heap_setCell_same _ (w.heap.size + 1) 5 _ _ _ q1
        have q3 : ((((w1.setCell ⟨w.heap.size + 1, 0, none⟩ (.int .u8 16)).setCell ⟨w.heap.size + 1, 4, none⟩ (.int .u64 18446744073709551615)).setCell ⟨w.heap.size + 1, 5, none⟩ (.int .u64 18446744073709551615)).setCell ⟨w.heap.size + 1, 6, none⟩ (.int .u64 18446744073709551615)).heap[w.heap.size + 1]? = some (.cells #[.int .u8 16, .int .i64 (a : Int), .int .i64 0, .string ⟨#[]⟩, .int .u64 18446744073709551615, .int .u64 18446744073709551615, .int .u64 18446744073709551615, .int .u64 0, .int .i64 0, .int .i64 0] 45 (0, 0)) := heap_setCell_same _ (w.heap.size + 1) 6 _ _ _ q2
        have q4 : (((((w1.setCell ⟨w.heap.size + 1, 0, none⟩ (.int .u8 16)).setCell ⟨w.heap.size + 1, 4, none⟩ (.int .u64 18446744073709551615)).setCell ⟨w.heap.size + 1, 5, none⟩ (.int .u64 18446744073709551615)).setCell ⟨w.heap.size + 1, 6, none⟩ (.int .u64 18446744073709551615)).setCell ⟨w.heap.size + 1, 7, none⟩ (.int .u64 18446744073709551615)).heap[w.heap.size + 1]? = some (.cells #[.int .u8 16, .int .i64 (a : Int), .int .i64 0, .string ⟨#[]⟩, .int .u64 18446744073709551615, .int .u64 18446744073709551615, .int .u64 18446744073709551615, .int .u64 18446744073709551615, .int .i64 0, .int .i64 0] 45 (0, 0)) := heap_setCell_same _ (w.heap.size + 1) 7 _ _ _ q3
        have q5 : ((((((w1.setCell ⟨w.heap.size + 1, 0, none⟩ (.int .u8 16)).setCell ⟨w.heap.size + 1, 4, none⟩ (.int .u64 18446744073709551615)).setCell ⟨w.heap.size + 1, 5, none⟩ (.int .u64 18446744073709551615)).setCell ⟨w.heap.size + 1, 6, none⟩ (.int .u64 18446744073709551615)).setCell ⟨w.heap.size + 1, 7, none⟩ (.int .u64 18446744073709551615)).setCell ⟨w.heap.size + 1, 2, none⟩ (.int .i64 ((a : Int) + 1))).heap[w.heap.size + 1]? = some (.cells #[.int .u8 16, .int .i64 (a : Int), .int .i64 ((a : Int) + 1), .string ⟨#[]⟩, .int .u64 18446744073709551615, .int .u64 18446744073709551615, .int .u64 18446744073709551615, .int .u64 18446744073709551615, .int .i64 0, .int .i64 0] 45 (0, 0)) := heap_setCell_same _ (w.heap.size + 1) 2 _ _ _ q4
        exact q5)
      have HR3 := Lib.hid (show ((((((w1.setCell ⟨w.heap.size + 1, 0, none⟩ (.int .u8 16)).setCell ⟨w.heap.size + 1, 4, none⟩ (.int .u64 18446744073709551615)).setCell ⟨w.heap.size + 1, 5, none⟩ (.int .u64 18446744073709551615)).setCell ⟨w.heap.size + 1, 6, none⟩ (.int .u64 18446744073709551615)).setCell ⟨w.heap.size + 1, 7, none⟩ (.int .u64 18446744073709551615)).setCell ⟨w.heap.size + 1, 2, none⟩ (.int .i64 ((a : Int) + 1))).heap[w.heap.size]? = _ from ((Below.heap_setCell _ _ _ _ (by show w.heap.size ≠ w.heap.size + 1; omega)).trans ((Below.heap_setCell _ _ _ _ (by show w.heap.size ≠ w.heap.size + 1; omega)).trans ((Below.heap_setCell _ _ _ _ (by show w.heap.size ≠ w.heap.size + 1; omega)).trans ((Below.heap_setCell _ _ _ _ (by show w.heap.size ≠ w.heap.size + 1; omega)).trans ((Below.heap_setCell _ _ _ _ (by show w.heap.size ≠ w.heap.size + 1; omega)).trans ((Below.heap_setCell _ _ _ _ (by show w.heap.size ≠ w.heap.size + 1; omega)).trans HR.out)))))))
      have HB3 := Lib.hid ((((((HB.out.setCell (p := ⟨w.heap.size + 1, 0, none⟩) (by show w.heap.size ≤ w.heap.size + 1; omega) (.int .u8 16)).setCell (p := ⟨w.heap.size + 1, 4, none⟩) (by show w.heap.size ≤ w.heap.size + 1; omega) (.int .u64 18446744073709551615)).setCell (p := ⟨w.heap.size + 1, 5, none⟩) (by show w.heap.size ≤ w.heap.size + 1; omega) (.int .u64 18446744073709551615)).setCell (p := ⟨w.heap.size + 1, 6, none⟩) (by show w.heap.size ≤ w.heap.size + 1; omega) (.int .u64 18446744073709551615)).setCell (p := ⟨w.heap.size + 1, 7, none⟩) (by show w.heap.size ≤ w.heap.size + 1; omega) (.int .u64 18446744073709551615)).setCell (p := ⟨w.heap.size + 1, 2, none⟩) (by show w.heap.size ≤ w.heap.size + 1; omega) (.int .i64 ((a : Int) + 1)))
      clear t0 t1 t2 t3 t4 t5 t6 t7 t8 t9 tf f0 f2 f3 f4 f5 f6 f7 f8 f9 HW HR HB
      generalize ((((((w1.setCell ⟨w.heap.size + 1, 0, none⟩ (.int .u8 16)).setCell ⟨w.heap.size + 1, 4, none⟩ (.int .u64 18446744073709551615)).setCell ⟨w.heap.size + 1, 5, none⟩ (.int .u64 18446744073709551615)).setCell ⟨w.heap.size + 1, 6, none⟩ (.int .u64 18446744073709551615)).setCell ⟨w.heap.size + 1, 7, none⟩ (.int .u64 18446744073709551615)).setCell ⟨w.heap.size + 1, 2, none⟩ (.int .i64 ((a : Int) + 1))) = W3 at *
      obtain ⟨t0, t1, t2, t3, t4, t5, t6, t7, t8, t9, _⟩ := blk10 HW3.out
      obtain ⟨r0, r1, r2, r3, r4, r5, r6, r7, r8, r9, rf⟩ := blk10 HR3.out
      have g0 := rf 0; have g1 := rf 1; have g2 := rf 2; have g3 := rf 3; have g4 := rf 4; have g5 := rf 5; have g6 := rf 6; have g7 := rf 7; have g8 := rf 8; have g9 := rf 9
      go_wp2_with fail
      have HP := putW_blk HR3.out (.int .u8 16) (.int .i64 (a : Int)) (.int .i64 ((a : Int) + 1)) (.string ⟨#[]⟩) (.int .u64 18446744073709551615) (.int .u64 18446744073709551615) (.int .u64 18446744073709551615) (.int .u64 18446744073709551615) (.int .i64 0) (.int .i64 0)
      unfold putW at HP
      have HBP := putW_below HB3.out (show w.heap.size ≤ w.heap.size by omega) (.int .u8 16) (.int .i64 (a : Int)) (.int .i64 ((a : Int) + 1)) (.string ⟨#[]⟩) (.int .u64 18446744073709551615) (.int .u64 18446744073709551615) (.int .u64 18446744073709551615) (.int .u64 18446744073709551615) (.int .i64 0) (.int .i64 0)
      unfold putW at HBP
      obtain ⟨s0, s1, s2, s3, s4, s5, s6, s7, s8, s9, _⟩ := blk10 HP
      exact bodyPost_ret (v := .tuple #[.agg #[.int .u8 16, .int .i64 (a : Int), .int .i64 ((a : Int) + 1), .string ⟨#[]⟩, .int .u64 18446744073709551615, .int .u64 18446744073709551615, .int .u64 18446744073709551615, .int .u64 18446744073709551615, .int .i64 0, .int .i64 0], .bool true]) (by simp [results, Try.results16, go_sem, s0, s1, s2, s3, s4, s5, s6, s7, s8, s9, *]) rfl ⟨⟨16, a, a + 1, [], 18446744073709551615, 18446744073709551615, 18446744073709551615, 18446744073709551615, 0, 0⟩, true, by simp [wdV, wdC], (fun _ => by rw [wordL_of HH.out]), (fun h => by cases h), HBP⟩
    have e46 : ((c.toNat : Int) == 46) = false := (eqB c 46 (by decide)).trans (decide_eq_false h46)
    by_cases h123 : c = 123
    · have HHL := Lib.hid (show headW (s.data.toList.drop a) = (countL (y.data.toList.drop 1)).map fun x => ⟨14, 0, x.1 + 2, [], 0, 0, 0, 0, x.2.1, x.2.2⟩ from by
        rw [HHD.out, HCR.out, h123]; rfl)
      have e123 : ((c.toNat : Int) == 123) = true := by rw [h123]; rfl
      have HCT := Lib.hid (fun w => rcount_any y w hyz (by rw [HCR.out, h123]; rfl))
      unfold RcPost at HCT
      cases ho : countL (y.data.toList.drop 1) with
      | none =>
        rw [ho] at HCT HHL
        have HH := Lib.hid HHL.out
        clear hcr h46 h91 h34 h123 hl ho HHL
        go_upto_region 21 with (first | (go_at_call 20; (with_reducible refine (HTK.out _).mono ?_); rintro e w' ⟨rfl, rfl⟩) | (go_at_call 24; (with_reducible refine (HCT.out _).mono ?_); rintro e w' ⟨rfl, rfl⟩; simp only [cV]) | fail)
        have HW3 := Lib.hid (show (((((W.setCell ⟨w.heap.size + 1, 0, none⟩ (.int .u8 14)).setCell ⟨w.heap.size + 1, 8, none⟩ (.int .i64 0)).setCell ⟨w.heap.size + 1, 9, none⟩ (.int .i64 0)).setCell ⟨w.heap.size + 1, 2, none⟩ (.int .i64 (a : Int)))).heap[w.heap.size + 1]? = some (.cells #[.int .u8 14, .int .i64 (a : Int), .int .i64 (a : Int), .string ⟨#[]⟩, .int .u64 0, .int .u64 0, .int .u64 0, .int .u64 0, .int .i64 0, .int .i64 0] 45 (0, 0)) from by
          have q0 : (W.setCell ⟨w.heap.size + 1, 0, none⟩ (.int .u8 14)).heap[w.heap.size + 1]? = some (.cells #[.int .u8 14, .int .i64 (a : Int), .int .i64 0, .string ⟨#[]⟩, .int .u64 0, .int .u64 0, .int .u64 0, .int .u64 0, .int .i64 0, .int .i64 0] 45 (0, 0)) := heap_setCell_same _ (w.heap.size + 1) 0 _ _ _ HW.out
          have q1 : ((W.setCell ⟨w.heap.size + 1, 0, none⟩ (.int .u8 14)).setCell ⟨w.heap.size + 1, 8, none⟩ (.int .i64 0)).heap[w.heap.size + 1]? = some (.cells #[.int .u8 14, .int .i64 (a : Int), .int .i64 0, .string ⟨#[]⟩, .int .u64 0, .int .u64 0, .int .u64 0, .int .u64 0, .int .i64 0, .int .i64 0] 45 (0, 0)) := heap_setCell_same _ (w.heap.size + 1) 8 _ _ _ q0
          have q2 : (((W.setCell ⟨w.heap.size + 1, 0, none⟩ (.int .u8 14)).setCell ⟨w.heap.size + 1, 8, none⟩ (.int .i64 0)).setCell ⟨w.heap.size + 1, 9, none⟩ (.int .i64 0)).heap[w.heap.size + 1]? = some (.cells #[.int .u8 14, .int .i64 (a : Int), .int .i64 0, .string ⟨#[]⟩, .int .u64 0, .int .u64 0, .int .u64 0, .int .u64 0, .int .i64 0, .int .i64 0] 45 (0, 0)) := heap_setCell_same _ (w.heap.size + 1) 9 _ _ _ q1
          have q3 : ((((W.setCell ⟨w.heap.size + 1, 0, none⟩ (.int .u8 14)).setCell ⟨w.heap.size + 1, 8, none⟩ (.int .i64 0)).setCell ⟨w.heap.size + 1, 9, none⟩ (.int .i64 0)).setCell ⟨w.heap.size + 1, 2, none⟩ (.int .i64 (a : Int))).heap[w.heap.size + 1]? = some (.cells #[.int .u8 14, .int .i64 (a : Int), .int .i64 (a : Int), .string ⟨#[]⟩, .int .u64 0, .int .u64 0, .int .u64 0, .int .u64 0, .int .i64 0, .int .i64 0] 45 (0, 0)) := heap_setCell_same _ (w.heap.size + 1) 2 _ _ _ q2
          exact q3)
        have HR3 := Lib.hid (show ((((W.setCell ⟨w.heap.size + 1, 0, none⟩ (.int .u8 14)).setCell ⟨w.heap.size + 1, 8, none⟩ (.int .i64 0)).setCell ⟨w.heap.size + 1, 9, none⟩ (.int .i64 0)).setCell ⟨w.heap.size + 1, 2, none⟩ (.int .i64 (a : Int))).heap[w.heap.size]? = _ from ((Below.heap_setCell _ _ _ _ (by show w.heap.size ≠ w.heap.size + 1; omega)).trans ((Below.heap_setCell _ _ _ _ (by show w.heap.size ≠ w.heap.size + 1; omega)).trans ((Below.heap_setCell _ _ _ _ (by show w.heap.size ≠ w.heap.size + 1; omega)).trans ((Below.heap_setCell _ _ _ _ (by show w.heap.size ≠ w.heap.size + 1; omega)).trans HR.out)))))
        have HB3 := Lib.hid ((((HB.out.setCell (p := ⟨w.heap.size + 1, 0, none⟩) (by show w.heap.size ≤ w.heap.size + 1; omega) (.int .u8 14)).setCell (p := ⟨w.heap.size + 1, 8, none⟩) (by show w.heap.size ≤ w.heap.size + 1; omega) (.int .i64 0)).setCell (p := ⟨w.heap.size + 1, 9, none⟩) (by show w.heap.size ≤ w.heap.size + 1; omega) (.int .i64 0)).setCell (p := ⟨w.heap.size + 1, 2, none⟩) (by show w.heap.size ≤ w.heap.size + 1; omega) (.int .i64 (a : Int)))
        clear t0 t1 t2 t3 t4 t5 t6 t7 t8 t9 tf f0 f2 f3 f4 f5 f6 f7 f8 f9 HW HR HB
        generalize ((((W.setCell ⟨w.heap.size + 1, 0, none⟩ (.int .u8 14)).setCell ⟨w.heap.size + 1, 8, none⟩ (.int .i64 0)).setCell ⟨w.heap.size + 1, 9, none⟩ (.int .i64 0)).setCell ⟨w.heap.size + 1, 2, none⟩ (.int .i64 (a : Int))) = W3 at *
        obtain ⟨t0, t1, t2, t3, t4, t5, t6, t7, t8, t9, _⟩ := blk10 HW3.out
        obtain ⟨r0, r1, r2, r3, r4, r5, r6, r7, r8, r9, rf⟩ := blk10 HR3.out
        have g0 := rf 0; have g1 := rf 1; have g2 := rf 2; have g3 := rf 3; have g4 := rf 4; have g5 := rf 5; have g6 := rf 6; have g7 := rf 7; have g8 := rf 8; have g9 := rf 9
        go_wp2_with fail
        have HP := putW_blk HR3.out (.int .u8 14) (.int .i64 (a : Int)) (.int .i64 (a : Int)) (.string ⟨#[]⟩) (.int .u64 0) (.int .u64 0) (.int .u64 0) (.int .u64 0) (.int .i64 0) (.int .i64 0)
        unfold putW at HP
        have HBP := putW_below HB3.out (show w.heap.size ≤ w.heap.size by omega) (.int .u8 14) (.int .i64 (a : Int)) (.int .i64 (a : Int)) (.string ⟨#[]⟩) (.int .u64 0) (.int .u64 0) (.int .u64 0) (.int .u64 0) (.int .i64 0) (.int .i64 0)
        unfold putW at HBP
        obtain ⟨s0, s1, s2, s3, s4, s5, s6, s7, s8, s9, _⟩ := blk10 HP
        exact bodyPost_ret (v := .tuple #[.agg #[.int .u8 14, .int .i64 (a : Int), .int .i64 (a : Int), .string ⟨#[]⟩, .int .u64 0, .int .u64 0, .int .u64 0, .int .u64 0, .int .i64 0, .int .i64 0], .bool false]) (by simp [results, Try.results16, go_sem, s0, s1, s2, s3, s4, s5, s6, s7, s8, s9, *]) rfl ⟨⟨14, a, a, [], 0, 0, 0, 0, 0, 0⟩, false, by simp [wdV, wdC], (fun h => by cases h), (fun _ => wordL_none HH.out), HBP⟩
      | some o =>
        obtain ⟨n, lo, hi⟩ := o
        have hnl := countL_len ho
        rw [List.length_drop, HYZ.out] at hnl
        rw [ho] at HCT HHL
        have HH := Lib.hid HHL.out
        simp only at hnl
        have n3 : (0 : Int) < (n : Int) + 2 := by omega
        have n4 : n < y.size := by omega
        clear hcr h46 h91 h34 h123 hl ho HHL hnl
        go_upto_region 21 with (first | (go_at_call 20; (with_reducible refine (HTK.out _).mono ?_); rintro e w' ⟨rfl, rfl⟩) | (go_at_call 24; (with_reducible refine (HCT.out _).mono ?_); rintro e w' ⟨rfl, rfl⟩; simp only [cV]) | fail)
        have HW3 := Lib.hid (show (((((W.setCell ⟨w.heap.size + 1, 0, none⟩ (.int .u8 14)).setCell ⟨w.heap.size + 1, 8, none⟩ (.int .i64 lo)).setCell ⟨w.heap.size + 1, 9, none⟩ (.int .i64 hi)).setCell ⟨w.heap.size + 1, 2, none⟩ (.int .i64 ((a : Int) + ((n : Int) + 2))))).heap[w.heap.size + 1]? = some (.cells #[.int .u8 14, .int .i64 (a : Int), .int .i64 ((a : Int) + ((n : Int) + 2)), .string ⟨#[]⟩, .int .u64 0, .int .u64 0, .int .u64 0, .int .u64 0, .int .i64 lo, .int .i64 hi] 45 (0, 0)) from by
          have q0 : (W.setCell ⟨w.heap.size + 1, 0, none⟩ (.int .u8 14)).heap[w.heap.size + 1]? = some (.cells #[.int .u8 14, .int .i64 (a : Int), .int .i64 0, .string ⟨#[]⟩, .int .u64 0, .int .u64 0, .int .u64 0, .int .u64 0, .int .i64 0, .int .i64 0] 45 (0, 0)) := heap_setCell_same _ (w.heap.size + 1) 0 _ _ _ HW.out
          have q1 : ((W.setCell ⟨w.heap.size + 1, 0, none⟩ (.int .u8 14)).setCell ⟨w.heap.size + 1, 8, none⟩ (.int .i64 lo)).heap[w.heap.size + 1]? = some (.cells #[.int .u8 14, .int .i64 (a : Int), .int .i64 0, .string ⟨#[]⟩, .int .u64 0, .int .u64 0, .int .u64 0, .int .u64 0, .int .i64 lo, .int .i64 0] 45 (0, 0)) := heap_setCell_same _ (w.heap.size + 1) 8 _ _ _ q0
          have q2 : (((W.setCell ⟨w.heap.size + 1, 0, none⟩ (.int .u8 14)).setCell ⟨w.heap.size + 1, 8, none⟩ (.int .i64 lo)).setCell ⟨w.heap.size + 1, 9, none⟩ (.int .i64 hi)).heap[w.heap.size + 1]? = some (.cells #[.int .u8 14, .int .i64 (a : Int), .int .i64 0, .string ⟨#[]⟩, .int .u64 0, .int .u64 0, .int .u64 0, .int .u64 0, .int .i64 lo, .int .i64 hi] 45 (0, 0)) := heap_setCell_same _ (w.heap.size + 1) 9 _ _ _ q1
          have q3 : ((((W.setCell ⟨w.heap.size + 1, 0, none⟩ (.int .u8 14)).setCell ⟨w.heap.size + 1, 8, none⟩ (.int .i64 lo)).setCell ⟨w.heap.size + 1, 9, none⟩ (.int .i64 hi)).setCell ⟨w.heap.size + 1, 2, none⟩ (.int .i64 ((a : Int) + ((n : Int) + 2)))).heap[w.heap.size + 1]? = some (.cells #[.int .u8 14, .int .i64 (a : Int), .int .i64 ((a : Int) + ((n : Int) + 2)), .string ⟨#[]⟩, .int .u64 0, .int .u64 0, .int .u64 0, .int .u64 0, .int .i64 lo, .int .i64 hi] 45 (0, 0)) := heap_setCell_same _ (w.heap.size + 1) 2 _ _ _ q2
          exact q3)
        have HR3 := Lib.hid (show ((((W.setCell ⟨w.heap.size + 1, 0, none⟩ (.int .u8 14)).setCell ⟨w.heap.size + 1, 8, none⟩ (.int .i64 lo)).setCell ⟨w.heap.size + 1, 9, none⟩ (.int .i64 hi)).setCell ⟨w.heap.size + 1, 2, none⟩ (.int .i64 ((a : Int) + ((n : Int) + 2)))).heap[w.heap.size]? = _ from ((Below.heap_setCell _ _ _ _ (by show w.heap.size ≠ w.heap.size + 1; omega)).trans ((Below.heap_setCell _ _ _ _ (by show w.heap.size ≠ w.heap.size + 1; omega)).trans ((Below.heap_setCell _ _ _ _ (by show w.heap.size ≠ w.heap.size + 1; omega)).trans ((Below.heap_setCell _ _ _ _ (by show w.heap.size ≠ w.heap.size + 1; omega)).trans HR.out)))))
        have HB3 := Lib.hid ((((HB.out.setCell (p := ⟨w.heap.size + 1, 0, none⟩) (by show w.heap.size ≤ w.heap.size + 1; omega) (.int .u8 14)).setCell (p := ⟨w.heap.size + 1, 8, none⟩) (by show w.heap.size ≤ w.heap.size + 1; omega) (.int .i64 lo)).setCell (p := ⟨w.heap.size + 1, 9, none⟩) (by show w.heap.size ≤ w.heap.size + 1; omega) (.int .i64 hi)).setCell (p := ⟨w.heap.size + 1, 2, none⟩) (by show w.heap.size ≤ w.heap.size + 1; omega) (.int .i64 ((a : Int) + ((n : Int) + 2))))
        clear t0 t1 t2 t3 t4 t5 t6 t7 t8 t9 tf f0 f2 f3 f4 f5 f6 f7 f8 f9 HW HR HB
        generalize ((((W.setCell ⟨w.heap.size + 1, 0, none⟩ (.int .u8 14)).setCell ⟨w.heap.size + 1, 8, none⟩ (.int .i64 lo)).setCell ⟨w.heap.size + 1, 9, none⟩ (.int .i64 hi)).setCell ⟨w.heap.size + 1, 2, none⟩ (.int .i64 ((a : Int) + ((n : Int) + 2)))) = W3 at *
        obtain ⟨t0, t1, t2, t3, t4, t5, t6, t7, t8, t9, _⟩ := blk10 HW3.out
        obtain ⟨r0, r1, r2, r3, r4, r5, r6, r7, r8, r9, rf⟩ := blk10 HR3.out
        have g0 := rf 0; have g1 := rf 1; have g2 := rf 2; have g3 := rf 3; have g4 := rf 4; have g5 := rf 5; have g6 := rf 6; have g7 := rf 7; have g8 := rf 8; have g9 := rf 9
        go_wp2_with fail
        have HP := putW_blk HR3.out (.int .u8 14) (.int .i64 (a : Int)) (.int .i64 ((a : Int) + ((n : Int) + 2))) (.string ⟨#[]⟩) (.int .u64 0) (.int .u64 0) (.int .u64 0) (.int .u64 0) (.int .i64 lo) (.int .i64 hi)
        unfold putW at HP
        have HBP := putW_below HB3.out (show w.heap.size ≤ w.heap.size by omega) (.int .u8 14) (.int .i64 (a : Int)) (.int .i64 ((a : Int) + ((n : Int) + 2))) (.string ⟨#[]⟩) (.int .u64 0) (.int .u64 0) (.int .u64 0) (.int .u64 0) (.int .i64 lo) (.int .i64 hi)
        unfold putW at HBP
        obtain ⟨s0, s1, s2, s3, s4, s5, s6, s7, s8, s9, _⟩ := blk10 HP
        exact bodyPost_ret (v := .tuple #[.agg #[.int .u8 14, .int .i64 (a : Int), .int .i64 ((a : Int) + ((n : Int) + 2)), .string ⟨#[]⟩, .int .u64 0, .int .u64 0, .int .u64 0, .int .u64 0, .int .i64 lo, .int .i64 hi], .bool true]) (by simp [results, Try.results16, go_sem, s0, s1, s2, s3, s4, s5, s6, s7, s8, s9, *]) rfl ⟨⟨14, a, a + (n + 2), [], 0, 0, 0, 0, lo, hi⟩, true, by simp [wdV, wdC], (fun _ => by rw [wordL_of HH.out]), (fun h => by cases h), HBP⟩
    have e123 : ((c.toNat : Int) == 123) = false := (eqB c 123 (by decide)).trans (decide_eq_false h123)
    have HNO := Lib.hid (show NoM (c :: r) 14 → headW (s.data.toList.drop a) = none from fun h => by rw [HHD.out]; exact sig_none hl h123 h34 h91 h46 h)
    have HYES := Lib.hid (show ∀ k, 2 ≤ k → k < 14 → NoM (c :: r) k → beginsB (c :: r) k = true → headW (s.data.toList.drop a) = some ⟨k, 0, (sigAt k).length, [], 0, 0, 0, 0, 0, 0⟩ from fun k hk hk2 hn hb => by rw [HHD.out]; exact sig_some hl h123 h34 h91 h46 hk hk2 hn hb)
    clear hcr h46 h91 h34 h123 hl
    go_upto_region 23 with (first | (go_at_call 20; (with_reducible refine (HTK.out _).mono ?_); rintro e w' ⟨rfl, rfl⟩) | (go_at_call 25; (with_reducible refine (rsigns_at _).mono ?_); rintro e w1 ⟨g, rfl, hg, hb⟩; have HSG := Lib.hid hg; have HWq := HW; have HRq := HR; have HBq := HB; clear HW HR HB t0 t1 t2 t3 t4 t5 t6 t7 t8 t9 tf f0 f2 f3 f4 f5 f6 f7 f8 f9; have HW := Lib.hid (bx_kept hb HWq.out); have HR := Lib.hid (bx_kept hb HRq.out); have HB := Lib.hid (Below.step HBq.out hb); obtain ⟨t0, t1, t2, t3, t4, t5, t6, t7, t8, t9, tf⟩ := blk10 HW.out; have f0 := tf 0; have f2 := tf 2; have f3 := tf 3; have f4 := tf 4; have f5 := tf 5; have f6 := tf 6; have f7 := tf 7; have f8 := tf 8; have f9 := tf 9; clear hb hg HWq HRq HBq) | fail)
    clear t0 t1 t2 t3 t4 t5 t6 t7 t8 t9 tf f0 f2 f3 f4 f5 f6 f7 f8 f9
    go_wp2_with fail
    go_loopw [19] (fun i wr => ∃ k : Nat, 2 ≤ k ∧ k ≤ 14 ∧ i = .int .i64 (k : Int) ∧ NoM (c :: r) k ∧ Hid (Below w1.heap.size w1 wr)) (fun i _ => 14 - (intOf i).toNat)
    case atStart => exact ⟨2, by omega, by omega, rfl, NoM.zero _, Lib.hid (Below.refl _ _)⟩
    case round =>
      obtain ⟨k, hk2, hk, rfl, hN, HBW⟩ := hrel
      have HN := Lib.hid hN; clear hN
      by_cases hlt : k < 14
      · have k1 : (k : Int) < 14 := by omega
        have k0 : (0 : Int) ≤ (k : Int) := by omega
        have hgl : g < w1.heap.size := (Array.getElem?_eq_some_iff.1 HSG.out).1
        have hcell : ∀ w', Below w1.heap.size w1 w' → w'.cell? ⟨g, k, none⟩ = some (.string ⟨(sigAt k).toArray⟩) := fun w' hb => by rw [World.cell?, bx_kept hb HSG.out]; exact sigV_at k hlt
        have HBE := Lib.hid (show beginsB (c :: r) k = decide ((sigAt k).length ≤ y.size ∧ y.data.toList.take (sigAt k).length = sigAt k) from by unfold beginsB; rw [HCR.out.symm, HYZ.out])
        have HYK := Lib.hid (HYES.out k hk2 hlt HN.out)
        have HNK := Lib.hid (show beginsB (c :: r) k = false → NoM (c :: r) (k + 1) from fun h => HN.out.step h)
        have HCE := Lib.hid hcell
        have hcw := hcell wr HBW.out
        clear hcell
        have hsl : (sigAt k).length ≤ 2 := sig_len k
        generalize sigAt k = sg at *
        generalize beginsB (c :: r) k = bb at *
        go_upto_region 26 with fail
        go_cut [143] (fun v wx => v = .bool bb ∧ Hid (Below w1.heap.size w1 wx))
        case first =>
          by_cases hln : sg.length ≤ y.size
          · have m1 : (sg.length : Int) ≤ (y.size : Int) := by omega
            have m0 : (0 : Int) ≤ (sg.length : Int) := by omega
            go_quiet (fail)
            go_wp2_with fail
            go_meet
            refine ⟨?_, Lib.hid (drewN_below HBW.out _)⟩
            rw [HBE.out, Lib.toList_data, Lib.extract_data]
            congr 1
            rw [Bool.eq_iff_iff, beq_iff_eq, decide_eq_true_eq]
            simp [hln]
          · have m1 : ¬ (sg.length : Int) ≤ (y.size : Int) := by omega
            have HQ := Lib.hid (show bb = false from by rw [HBE.out]; exact decide_eq_false (fun h => hln h.1))
            go_quiet (fail)
            go_wp2_with fail
            go_meet
            exact ⟨by rw [HQ.out], Lib.hid (drewN_below HBW.out _)⟩
        case rest =>
          obtain ⟨rfl, HB5⟩ := hcut
          cases bb
          · have HN2 := HNK.out rfl
            go_wp2_with fail
            exact ⟨⟨k + 1, by omega, by omega, by go_num, HN2, HB5⟩, by simp only [intOf]; omega⟩
          · have HH := Lib.hid (HYK.out rfl)
            have HWq := HW; have HRq := HR; have HBq := HB
            clear HW HR HB hcw
            have HW := Lib.hid (bx_kept HB5.out HWq.out); have HR := Lib.hid (bx_kept HB5.out HRq.out); have HB := Lib.hid (Below.step HBq.out HB5.out)
            have hcw := HCE.out wc HB5.out
            have hg1 : ¬ g = w.heap.size + 1 := by
              intro e
              have h1 := HSG.out; rw [e, HWq.out] at h1; cases h1
            have hg2 : ¬ w.heap.size + 1 = g := fun e => hg1 e.symm
            have k9 : IntKind.u8.wrap (k : Int) = (k : Int) := by simp [IntKind.wrap, IntKind.signed, IntKind.bits]; omega
            obtain ⟨t0, t1, t2, t3, t4, t5, t6, t7, t8, t9, tf⟩ := blk10 HW.out
            have f0 := tf 0; have f2 := tf 2; have f3 := tf 3; have f4 := tf 4; have f5 := tf 5; have f6 := tf 6; have f7 := tf 7; have f8 := tf 8; have f9 := tf 9
            go_upto_region 27 with fail
            go_region
            have HW3 := Lib.hid (show (((wc.setCell ⟨w.heap.size + 1, 0, none⟩ (.int .u8 (k : Int))).setCell ⟨w.heap.size + 1, 2, none⟩ (.int .i64 ((a : Int) + (sg.length : Int)))).drew).heap[w.heap.size + 1]? = some (.cells #[.int .u8 (k : Int), .int .i64 (a : Int), .int .i64 ((a : Int) + (sg.length : Int)), .string ⟨#[]⟩, .int .u64 0, .int .u64 0, .int .u64 0, .int .u64 0, .int .i64 0, .int .i64 0] 45 (0, 0)) from by
              have q0 : (wc.setCell ⟨w.heap.size + 1, 0, none⟩ (.int .u8 (k : Int))).heap[w.heap.size + 1]? = some (.cells #[.int .u8 (k : Int), .int .i64 (a : Int), .int .i64 0, .string ⟨#[]⟩, .int .u64 0, .int .u64 0, .int .u64 0, .int .u64 0, .int .i64 0, .int .i64 0] 45 (0, 0)) := heap_setCell_same _ (w.heap.size + 1) 0 _ _ _ HW.out
              have q1 : ((wc.setCell ⟨w.heap.size + 1, 0, none⟩ (.int .u8 (k : Int))).setCell ⟨w.heap.size + 1, 2, none⟩ (.int .i64 ((a : Int) + (sg.length : Int)))).heap[w.heap.size + 1]? = some (.cells #[.int .u8 (k : Int), .int .i64 (a : Int), .int .i64 ((a : Int) + (sg.length : Int)), .string ⟨#[]⟩, .int .u64 0, .int .u64 0, .int .u64 0, .int .u64 0, .int .i64 0, .int .i64 0] 45 (0, 0)) := heap_setCell_same _ (w.heap.size + 1) 2 _ _ _ q0
              exact bx_drew q1)
            have HR3 := Lib.hid (bx_drew (show ((wc.setCell ⟨w.heap.size + 1, 0, none⟩ (.int .u8 (k : Int))).setCell ⟨w.heap.size + 1, 2, none⟩ (.int .i64 ((a : Int) + (sg.length : Int)))).heap[w.heap.size]? = _ from ((Below.heap_setCell _ _ _ _ (by show w.heap.size ≠ w.heap.size + 1; omega)).trans ((Below.heap_setCell _ _ _ _ (by show w.heap.size ≠ w.heap.size + 1; omega)).trans HR.out))))
            have HB3 := Lib.hid ((HB.out.setCell (p := ⟨w.heap.size + 1, 0, none⟩) (by show w.heap.size ≤ w.heap.size + 1; omega) (.int .u8 (k : Int))).setCell (p := ⟨w.heap.size + 1, 2, none⟩) (by show w.heap.size ≤ w.heap.size + 1; omega) (.int .i64 ((a : Int) + (sg.length : Int)))).drew
            clear t0 t1 t2 t3 t4 t5 t6 t7 t8 t9 tf f0 f2 f3 f4 f5 f6 f7 f8 f9 HW HR HB
            generalize ((wc.setCell ⟨w.heap.size + 1, 0, none⟩ (.int .u8 (k : Int))).setCell ⟨w.heap.size + 1, 2, none⟩ (.int .i64 ((a : Int) + (sg.length : Int)))).drew = W3 at *
            obtain ⟨t0, t1, t2, t3, t4, t5, t6, t7, t8, t9, _⟩ := blk10 HW3.out
            obtain ⟨r0, r1, r2, r3, r4, r5, r6, r7, r8, r9, rf⟩ := blk10 HR3.out
            have g0 := rf 0; have g1 := rf 1; have g2 := rf 2; have g3 := rf 3; have g4 := rf 4; have g5 := rf 5; have g6 := rf 6; have g7 := rf 7; have g8 := rf 8; have g9 := rf 9
            go_wp2_with fail
            have HP := putW_blk HR3.out (.int .u8 (k : Int)) (.int .i64 (a : Int)) (.int .i64 ((a : Int) + (sg.length : Int))) (.string ⟨#[]⟩) (.int .u64 0) (.int .u64 0) (.int .u64 0) (.int .u64 0) (.int .i64 0) (.int .i64 0)
            unfold putW at HP
            have HBP := putW_below HB3.out (show w.heap.size ≤ w.heap.size by omega) (.int .u8 (k : Int)) (.int .i64 (a : Int)) (.int .i64 ((a : Int) + (sg.length : Int))) (.string ⟨#[]⟩) (.int .u64 0) (.int .u64 0) (.int .u64 0) (.int .u64 0) (.int .i64 0) (.int .i64 0)
            unfold putW at HBP
            obtain ⟨s0, s1, s2, s3, s4, s5, s6, s7, s8, s9, _⟩ := blk10 HP
            exact bodyPost_ret (v := .tuple #[.agg #[.int .u8 (k : Int), .int .i64 (a : Int), .int .i64 ((a : Int) + (sg.length : Int)), .string ⟨#[]⟩, .int .u64 0, .int .u64 0, .int .u64 0, .int .u64 0, .int .i64 0, .int .i64 0], .bool true]) (by simp [results, Try.results16, go_sem, s0, s1, s2, s3, s4, s5, s6, s7, s8, s9, *]) rfl ⟨⟨k, a, a + sg.length, [], 0, 0, 0, 0, 0, 0⟩, true, by simp [wdV, wdC], (fun _ => by rw [wordL_of HH.out]), (fun h => by cases h), HBP⟩
      · obtain rfl : k = 14 := by omega
        have HH := Lib.hid (HNO.out HN.out)
        have HWq := HW; have HRq := HR; have HBq := HB
        clear HW HR HB
        have HW := Lib.hid (bx_kept HBW.out HWq.out); have HR := Lib.hid (bx_kept HBW.out HRq.out); have HB := Lib.hid (Below.step HBq.out HBW.out)
        obtain ⟨t0, t1, t2, t3, t4, t5, t6, t7, t8, t9, _⟩ := blk10 HW.out
        obtain ⟨r0, r1, r2, r3, r4, r5, r6, r7, r8, r9, rf⟩ := blk10 HR.out
        have g0 := rf 0; have g1 := rf 1; have g2 := rf 2; have g3 := rf 3; have g4 := rf 4; have g5 := rf 5; have g6 := rf 6; have g7 := rf 7; have g8 := rf 8; have g9 := rf 9
        go_wp2_with fail
        have HP := putW_blk HR.out (.int .u8 0) (.int .i64 (a : Int)) (.int .i64 0) (.string ⟨#[]⟩) (.int .u64 0) (.int .u64 0) (.int .u64 0) (.int .u64 0) (.int .i64 0) (.int .i64 0)
        unfold putW at HP
        have HBP := putW_below HB.out (show w.heap.size ≤ w.heap.size by omega) (.int .u8 0) (.int .i64 (a : Int)) (.int .i64 0) (.string ⟨#[]⟩) (.int .u64 0) (.int .u64 0) (.int .u64 0) (.int .u64 0) (.int .i64 0) (.int .i64 0)
        unfold putW at HBP
        obtain ⟨s0, s1, s2, s3, s4, s5, s6, s7, s8, s9, _⟩ := blk10 HP
        exact bodyPost_ret (v := .tuple #[.agg #[.int .u8 0, .int .i64 (a : Int), .int .i64 0, .string ⟨#[]⟩, .int .u64 0, .int .u64 0, .int .u64 0, .int .u64 0, .int .i64 0, .int .i64 0], .bool false]) (by simp [results, Try.results16, go_sem, s0, s1, s2, s3, s4, s5, s6, s7, s8, s9, *]) rfl ⟨⟨0, a, 0, [], 0, 0, 0, 0, 0, 0⟩, false, by simp [wdV, wdC], (fun h => by cases h), (fun _ => wordL_none HH.out), HBP⟩
  · have HHL := Lib.hid (show headW (s.data.toList.drop a) = if (takeL y.data.toList).length ≤ 32 then some ⟨1, 0, (takeL y.data.toList).length, takeL y.data.toList, 0, 0, 0, 0, 0, 0⟩ else none from by
      rw [HD.out.symm, hcr]; unfold headW; simp [hl])
    have hne : takeL y.data.toList ≠ [] := by rw [hcr]; simp [takeL, hl]
    have hle : (takeL y.data.toList).length ≤ y.size := by rw [← HYZ.out]; exact takeL_len _
    have HNE := Lib.hid hne
    clear hcr hl
    generalize takeL y.data.toList = l at *
    have n1 : l.isEmpty = false := by cases l with | nil => exact absurd rfl HNE.out | cons _ _ => rfl
    have n2 : ¬ l = [] := hne
    clear hne
    go_upto_region 6 with (first | (go_at_call 20; (with_reducible refine (HTK.out _).mono ?_); rintro e w' ⟨rfl, rfl⟩) | fail)
    have HW3 := Lib.hid (show ((((W.setCell ⟨w.heap.size + 1, 0, none⟩ (.int .u8 1)).setCell ⟨w.heap.size + 1, 3, none⟩ (.string ⟨l.toArray⟩)).setCell ⟨w.heap.size + 1, 2, none⟩ (.int .i64 ((a : Int) + (l.length : Int))))).heap[w.heap.size + 1]? = some (.cells #[.int .u8 1, .int .i64 (a : Int), .int .i64 ((a : Int) + (l.length : Int)), .string ⟨l.toArray⟩, .int .u64 0, .int .u64 0, .int .u64 0, .int .u64 0, .int .i64 0, .int .i64 0] 45 (0, 0)) from by
      have q0 : (W.setCell ⟨w.heap.size + 1, 0, none⟩ (.int .u8 1)).heap[w.heap.size + 1]? = some (.cells #[.int .u8 1, .int .i64 (a : Int), .int .i64 0, .string ⟨#[]⟩, .int .u64 0, .int .u64 0, .int .u64 0, .int .u64 0, .int .i64 0, .int .i64 0] 45 (0, 0)) := heap_setCell_same _ (w.heap.size + 1) 0 _ _ _ HW.out
      have q1 : ((W.setCell ⟨w.heap.size + 1, 0, none⟩ (.int .u8 1)).setCell ⟨w.heap.size + 1, 3, none⟩ (.string ⟨l.toArray⟩)).heap[w.heap.size + 1]? = some (.cells #[.int .u8 1, .int .i64 (a : Int), .int .i64 0, .string ⟨l.toArray⟩, .int .u64 0, .int .u64 0, .int .u64 0, .int .u64 0, .int .i64 0, .int .i64 0] 45 (0, 0)) := heap_setCell_same _ (w.heap.size + 1) 3 _ _ _ q0
      have q2 : (((W.setCell ⟨w.heap.size + 1, 0, none⟩ (.int .u8 1)).setCell ⟨w.heap.size + 1, 3, none⟩ (.string ⟨l.toArray⟩)).setCell ⟨w.heap.size + 1, 2, none⟩ (.int .i64 ((a : Int) + (l.length : Int)))).heap[w.heap.size + 1]? = some (.cells #[.int .u8 1, .int .i64 (a : Int), .int .i64 ((a : Int) + (l.length : Int)), .string ⟨l.toArray⟩, .int .u64 0, .int .u64 0, .int .u64 0, .int .u64 0, .int .i64 0, .int .i64 0] 45 (0, 0)) := heap_setCell_same _ (w.heap.size + 1) 2 _ _ _ q1
      exact q2)
    have HR3 := Lib.hid (show (((W.setCell ⟨w.heap.size + 1, 0, none⟩ (.int .u8 1)).setCell ⟨w.heap.size + 1, 3, none⟩ (.string ⟨l.toArray⟩)).setCell ⟨w.heap.size + 1, 2, none⟩ (.int .i64 ((a : Int) + (l.length : Int)))).heap[w.heap.size]? = _ from ((Below.heap_setCell _ _ _ _ (by show w.heap.size ≠ w.heap.size + 1; omega)).trans ((Below.heap_setCell _ _ _ _ (by show w.heap.size ≠ w.heap.size + 1; omega)).trans ((Below.heap_setCell _ _ _ _ (by show w.heap.size ≠ w.heap.size + 1; omega)).trans HR.out))))
    have HB3 := Lib.hid (((HB.out.setCell (p := ⟨w.heap.size + 1, 0, none⟩) (by show w.heap.size ≤ w.heap.size + 1; omega) (.int .u8 1)).setCell (p := ⟨w.heap.size + 1, 3, none⟩) (by show w.heap.size ≤ w.heap.size + 1; omega) (.string ⟨l.toArray⟩)).setCell (p := ⟨w.heap.size + 1, 2, none⟩) (by show w.heap.size ≤ w.heap.size + 1; omega) (.int .i64 ((a : Int) + (l.length : Int))))
    clear t0 t1 t2 t3 t4 t5 t6 t7 t8 t9 tf f0 f2 f3 f4 f5 f6 f7 f8 f9 HW HR HB
    generalize (((W.setCell ⟨w.heap.size + 1, 0, none⟩ (.int .u8 1)).setCell ⟨w.heap.size + 1, 3, none⟩ (.string ⟨l.toArray⟩)).setCell ⟨w.heap.size + 1, 2, none⟩ (.int .i64 ((a : Int) + (l.length : Int)))) = W3 at *
    obtain ⟨t0, t1, t2, t3, t4, t5, t6, t7, t8, t9, _⟩ := blk10 HW3.out
    obtain ⟨r0, r1, r2, r3, r4, r5, r6, r7, r8, r9, rf⟩ := blk10 HR3.out
    have g0 := rf 0; have g1 := rf 1; have g2 := rf 2; have g3 := rf 3; have g4 := rf 4; have g5 := rf 5; have g6 := rf 6; have g7 := rf 7; have g8 := rf 8; have g9 := rf 9
    by_cases h32 : l.length ≤ 32
    · have k1 : (l.length : Int) ≤ 32 := by omega
      have HH := Lib.hid (HHL.out.trans (if_pos h32))
      go_wp2_with fail
      have HP := putW_blk HR3.out (.int .u8 1) (.int .i64 (a : Int)) (.int .i64 ((a : Int) + (l.length : Int))) (.string ⟨l.toArray⟩) (.int .u64 0) (.int .u64 0) (.int .u64 0) (.int .u64 0) (.int .i64 0) (.int .i64 0)
      unfold putW at HP
      have HBP := putW_below HB3.out (show w.heap.size ≤ w.heap.size by omega) (.int .u8 1) (.int .i64 (a : Int)) (.int .i64 ((a : Int) + (l.length : Int))) (.string ⟨l.toArray⟩) (.int .u64 0) (.int .u64 0) (.int .u64 0) (.int .u64 0) (.int .i64 0) (.int .i64 0)
      unfold putW at HBP
      obtain ⟨s0, s1, s2, s3, s4, s5, s6, s7, s8, s9, _⟩ := blk10 HP
      exact bodyPost_ret (v := .tuple #[.agg #[.int .u8 1, .int .i64 (a : Int), .int .i64 ((a : Int) + (l.length : Int)), .string ⟨l.toArray⟩, .int .u64 0, .int .u64 0, .int .u64 0, .int .u64 0, .int .i64 0, .int .i64 0], .bool true]) (by simp [results, Try.results16, go_sem, s0, s1, s2, s3, s4, s5, s6, s7, s8, s9, *]) rfl ⟨⟨1, a, a + l.length, l, 0, 0, 0, 0, 0, 0⟩, true, by simp [wdV, wdC], (fun _ => by rw [wordL_of HH.out]), (fun h => by cases h), HBP⟩
    · have k1 : ¬ (l.length : Int) ≤ 32 := by omega
      have HH := Lib.hid (HHL.out.trans (if_neg h32))
      go_wp2_with fail
      have HP := putW_blk HR3.out (.int .u8 1) (.int .i64 (a : Int)) (.int .i64 ((a : Int) + (l.length : Int))) (.string ⟨l.toArray⟩) (.int .u64 0) (.int .u64 0) (.int .u64 0) (.int .u64 0) (.int .i64 0) (.int .i64 0)
      unfold putW at HP
      have HBP := putW_below HB3.out (show w.heap.size ≤ w.heap.size by omega) (.int .u8 1) (.int .i64 (a : Int)) (.int .i64 ((a : Int) + (l.length : Int))) (.string ⟨l.toArray⟩) (.int .u64 0) (.int .u64 0) (.int .u64 0) (.int .u64 0) (.int .i64 0) (.int .i64 0)
      unfold putW at HBP
      obtain ⟨s0, s1, s2, s3, s4, s5, s6, s7, s8, s9, _⟩ := blk10 HP
      exact bodyPost_ret (v := .tuple #[.agg #[.int .u8 1, .int .i64 (a : Int), .int .i64 ((a : Int) + (l.length : Int)), .string ⟨l.toArray⟩, .int .u64 0, .int .u64 0, .int .u64 0, .int .u64 0, .int .i64 0, .int .i64 0], .bool false]) (by simp [results, Try.results16, go_sem, s0, s1, s2, s3, s4, s5, s6, s7, s8, s9, *]) rfl ⟨⟨1, a, a + l.length, l, 0, 0, 0, 0, 0, 0⟩, false, by simp [wdV, wdC], (fun h => by cases h), (fun _ => wordL_none HH.out), HBP⟩
end Go.Proofs.Ytidcoldoalimfaa
