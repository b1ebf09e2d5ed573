/- The contract of lex.Join. -/
import Derived.Test.YtabncmckojlllaaDoorKn
import Derived.Test.YtabncmckojlllaaDoorKw
namespace Go.Proofs.YtabncmckojlllaaDoor
open Go.RowKit Go.Shelf
set_option linter.unusedSimpArgs false
set_option linter.unusedVariables false

theorem show_len {x : Wd} (hm : mayS x) : (showW x).length ≤ 2400 := by
  obtain ⟨m1, m15, m14, mk1, mk2, mt, ms, mn⟩ := hm
  unfold showW
  split
  · rename_i h
    have := m1 h; unfold mayL at this; have := (of_decide_eq_true this).2.1; omega
  split
  · simp
  split
  · rename_i h
    obtain ⟨h0, h1, h2⟩ := m14 h
    have l1 := Lib.itoa_length_le x.low (by omega) (by omega)
    have l2 := Lib.itoa_length_le x.high (by omega) (by omega)
    unfold cntB
    split
    · simp; omega
    split
    · simp; omega
    · simp; omega
  split
  · rename_i h
    have := m15 h
    have := litB_len x.text
    omega
  split
  · have := classF_len (hasW (wordsOf x)); omega
  · simp [sgnB]
theorem show_ne {x : Wd} (hm : mayS x) (hs : small x) : showW x ≠ [] := fun e => by
  have hb := head_back x hm hs [] (.inl rfl)
  have := (head_len hb).1
  simp only at this
  rw [e] at this; simp at this
theorem join_snoc : ∀ (l : List Wd) (x : Wd), joinL (l ++ [x]) = if l = [] then showW x else joinL l ++ 32 :: showW x
  | [], x => rfl
  | [y], x => by simp [joinL]
  | y :: z :: l, x => by
    have ih := join_snoc (z :: l) x
    rw [if_neg (by simp)] at ih
    rw [if_neg (by simp)]
    show joinL (y :: z :: (l ++ [x])) = _
    simp only [joinL]
    rw [show z :: (l ++ [x]) = (z :: l) ++ [x] from rfl, ih]
    simp
theorem join_len : ∀ (l : List Wd), (∀ x ∈ l, mayS x) → (joinL l).length ≤ l.length * 2401
  | [], _ => by simp [joinL]
  | [x], h => by
    have := show_len (h x List.mem_cons_self)
    simp only [joinL, List.length_singleton]; omega
  | x :: y :: l, h => by
    have h1 := show_len (h x List.mem_cons_self)
    have ih := join_len (y :: l) fun z hz => h z (List.mem_cons_of_mem _ hz)
    simp only [joinL, List.length_append, List.length_cons] at ih ⊢
    omega
theorem lshow_at (kd fr0 ti0 : Nat) (fr ti : Int) (tx : List UInt8) (p0 p1 p2 p3 : Nat) (lo hi : Int) (r : List UInt8) (hl : tx.length ≤ 1000000) (hs : small ⟨kd, fr0, ti0, tx, p0, p1, p2, p3, lo, hi⟩)
    (h1 : mayS ⟨kd, fr0, ti0, tx, p0, p1, p2, p3, lo, hi⟩ → showW ⟨kd, fr0, ti0, tx, p0, p1, p2, p3, lo, hi⟩ = r) (h2 : ¬ mayS ⟨kd, fr0, ti0, tx, p0, p1, p2, p3, lo, hi⟩ → r = []) (w : World) (ht : LexTabs w) :
    Calls Tryd.prog 13 #[.agg #[.int .u8 (kd : Int), .int .i64 (fr : Int), .int .i64 (ti : Int), .string ⟨tx.toArray⟩, .int .u64 (p0 : Int), .int .u64 (p1 : Int), .int .u64 (p2 : Int), .int .u64 (p3 : Int), .int .i64 lo, .int .i64 hi]] w fun e w' => e = .returned (.string ⟨r.toArray⟩) ∧ Below w.heap.size w w' := by
  by_cases h : mayS ⟨kd, fr0, ti0, tx, p0, p1, p2, p3, lo, hi⟩
  · have := lshow_yesZ _ fr ti w h hs ht
    unfold TextPost at this
    rw [h1 h] at this
    exact this
  · have := lshow_noZ _ fr ti w h hl
    unfold TextPost at this
    rw [h2 h]
    exact this
def JRel (w : World) (ls : List Wd) (i : Value) (wr : World) : Prop :=
  ∃ k : Nat, k ≤ ls.length ∧ i = .int .i64 (k : Int) ∧ Hid (∀ x ∈ ls.take k, mayS x) ∧ Hid (IsB w.heap.size w.heap.size (joinL (ls.take k)) wr) ∧ Hid (Below w.heap.size w wr)
set_option maxRecDepth 100000 in
set_option maxHeartbeats 1600000 in
theorem ljoin_z (ls : List Wd) (A : Option Addr) (f t : Nat → Int) (c : Nat) (r : List UInt8) (w : World) (hA : WRowZ w A ls f t) (hl : ls.length ≤ 5000) (hs : ∀ x ∈ ls, small x ∧ x.text.length ≤ 1000000) (ht : LexTabs w)
    (h1 : (∀ x ∈ ls, mayS x) → r = joinL ls) (h2 : ¬ (∀ x ∈ ls, mayS x) → r = []) : Calls Tryd.prog 12 #[.slice A ls.length c] w (TextPost r w) := by
  have HA := Lib.hid hA; have HS := Lib.hid hs; have HT := Lib.hid ht; have H1 := Lib.hid h1; have H2 := Lib.hid h2
  clear hA hs ht h1 h2
  unfold TextPost
  have HI0 := Lib.hid (IsB.new w (Nat.le_refl w.heap.size))
  have HB0 := Lib.hid (bx1 w (.cells #[.pointer none, .slice none 0 0] 74))
  go_enter Tryd.func12, Tryd.ntmps12
  go_wp2_with fail
  go_loopw [9] (fun i wr => JRel w ls i wr) (fun i _ => ls.length - (intOf i).toNat)
  case atStart => exact ⟨0, Nat.zero_le _, rfl, Lib.hid (fun x hx => by simp at hx), Lib.hid (by simpa [joinL] using HI0.out), HB0⟩
  case round =>
    obtain ⟨k, hk, rfl, HMA, HI, HB⟩ := hrel
    by_cases hlt : k < ls.length
    · obtain ⟨g, o, rfl, hg, x0, x1, x2, x3, x4, x5, x6, x7, x8, x9⟩ := (HA.out.below HB.out) k hlt
      have i1 : (k : Int) < (ls.length : Int) := by omega
      have htk : ls.take (k + 1) = ls.take k ++ [ls[k]] := by rw [List.take_succ_eq_append_getElem hlt]
      have hsk := HS.out ls[k] (List.getElem_mem hlt)
      have HJ := Lib.hid (show joinL (ls.take (k + 1)) = if k = 0 then showW ls[k] else joinL (ls.take k) ++ 32 :: showW ls[k] from by
        rw [htk, join_snoc]
        by_cases e : k = 0
        · subst e; simp
        · rw [if_neg e, if_neg (by intro h; have h2 := congrArg List.length h; rw [List.length_take, List.length_nil] at h2; omega)])
      have HMS := Lib.hid (show mayS ls[k] → ∀ x ∈ ls.take (k + 1), mayS x from fun h x hx => by
        rw [htk] at hx
        rcases List.mem_append.1 hx with hx | hx
        · exact HMA.out x hx
        · rw [List.mem_singleton.1 hx]; exact h)
      have HNM := Lib.hid (show ¬ mayS ls[k] → r = [] from fun h => H2.out fun ha => h (ha _ (List.getElem_mem hlt)))
      have HJL := Lib.hid (join_len (ls.take k) HMA.out)
      have hkl : (ls.take k).length = k := by simp; omega
      rw [hkl] at HJL
      clear htk hkl
      have HIk := HI
      generalize joinL (ls.take k) = J at *
      generalize ls[k] = X at *
      have HSL := Lib.hid (fun h : mayS X => show_len h)
      have HSN := Lib.hid (fun h : mayS X => show_ne h hsk.1)
      obtain ⟨kd, fr0, ti0, tx, p0, p1, p2, p3, lo, hi⟩ := X
      simp only at x0 x3 x4 x5 x6 x7 x8 x9
      generalize f k = fr at *
      generalize t k = ti at *
      by_cases hm : mayS ⟨kd, fr0, ti0, tx, p0, p1, p2, p3, lo, hi⟩
      · have HSH := Lib.hid (fun w' ht => lshow_at kd fr0 ti0 fr ti tx p0 p1 p2 p3 lo hi (showW ⟨kd, fr0, ti0, tx, p0, p1, p2, p3, lo, hi⟩) hsk.2 hsk.1 (fun _ => rfl) (fun h => absurd hm h) w' ht)
        have hM2 := Lib.hid (HMS.out hm)
        have hn := HSN.out hm
        have hsl := HSL.out hm
        clear HSN HSL hm HMS HNM
        generalize showW ⟨kd, fr0, ti0, tx, p0, p1, p2, p3, lo, hi⟩ = S at *
        have n1 : S.isEmpty = false := by cases S with | nil => exact absurd rfl hn | cons _ _ => rfl
        have hjl := HJL.out
        have hss : (⟨S.toArray⟩ : ByteArray).size = S.length := by simp [ByteArray.size]
        have HZ1 := Lib.hid (show ([] : List UInt8).length + (⟨S.toArray⟩ : ByteArray).size ≤ 140737488355328 from by rw [hss, List.length_nil]; omega)
        have HZ2 := Lib.hid (show (J ++ [32]).length + (⟨S.toArray⟩ : ByteArray).size ≤ 140737488355328 from by rw [hss, List.length_append, List.length_singleton]; omega)
        have HZJ := Lib.hid (show J.length + 1 ≤ 140737488355328 from by omega)
        have H32 := Lib.hid (show (((32 : UInt8).toNat : Nat) : Int) = 32 from rfl)
        clear hss
        by_cases hk0 : k = 0
        · subst hk0
          rw [Nat.zero_mul, Nat.add_zero] at x0 x1 x2 x3 x4 x5 x6 x7 x8 x9
          have hJ0 : J = [] := List.eq_nil_of_length_eq_zero (by omega)
          subst hJ0
          have HBq := Lib.hid (Below.step HB.out (bx1 wr (.cells #[.int .u8 (kd : Int), .int .i64 (fr : Int), .int .i64 (ti : Int), .string ⟨tx.toArray⟩, .int .u64 (p0 : Int), .int .u64 (p1 : Int), .int .u64 (p2 : Int), .int .u64 (p3 : Int), .int .i64 lo, .int .i64 hi] 32)))
          have HIq := Lib.hid (HI.out.below (bx1 wr (.cells #[.int .u8 (kd : Int), .int .i64 (fr : Int), .int .i64 (ti : Int), .string ⟨tx.toArray⟩, .int .u64 (p0 : Int), .int .u64 (p1 : Int), .int .u64 (p2 : Int), .int .u64 (p3 : Int), .int .i64 lo, .int .i64 hi] 32)))
          go_wp2_with (first
            | (go_at_call 13; (with_reducible refine (HSH.out _ (HT.out.below HBq.out)).mono ?_); rintro e w1 ⟨rfl, hb⟩; have HB1 := Lib.hid (Below.step HBq.out hb); have HI1 := Lib.hid (HIq.out.below hb); clear hb)
            | (go_at_call 34; (with_reducible refine (write_any w.heap.size w.heap.size [] ⟨S.toArray⟩ _ HI1.out HZ1.out HB1.out.size).mono ?_); rintro e w2 ⟨rfl, h1, h2, h3⟩; have HI2 := Lib.hid h1; have HB2 := Lib.hid (HB1.out.trans h2); clear h1 h2 h3)
            | fail)
          exact ⟨⟨1, by omega, rfl, hM2, Lib.hid (by rw [HJ.out]; simpa using HI2.out), HB2⟩, by simp only [intOf]; omega⟩
        · have k0 : (0 : Int) < (k : Int) := by omega
          have HBq := Lib.hid (Below.step HB.out (bx1 wr (.cells #[.int .u8 (kd : Int), .int .i64 (fr : Int), .int .i64 (ti : Int), .string ⟨tx.toArray⟩, .int .u64 (p0 : Int), .int .u64 (p1 : Int), .int .u64 (p2 : Int), .int .u64 (p3 : Int), .int .i64 lo, .int .i64 hi] 32)))
          have HIq := Lib.hid (HI.out.below (bx1 wr (.cells #[.int .u8 (kd : Int), .int .i64 (fr : Int), .int .i64 (ti : Int), .string ⟨tx.toArray⟩, .int .u64 (p0 : Int), .int .u64 (p1 : Int), .int .u64 (p2 : Int), .int .u64 (p3 : Int), .int .i64 lo, .int .i64 hi] 32)))
          go_wp2_with (first
            | (go_at_call 13; (with_reducible refine (HSH.out _ (HT.out.below HBq.out)).mono ?_); rintro e w1 ⟨rfl, hb⟩; have HB1 := Lib.hid (Below.step HBq.out hb); have HI1 := Lib.hid (HIq.out.below hb); clear hb)
            | (go_at_call 33; (with_reducible refine (wbyte_at w.heap.size w.heap.size J 32 _ H32.out _ HI1.out HZJ.out HB1.out.size).mono ?_); rintro e w2 ⟨rfl, h1, h2, h3⟩; have HI2 := Lib.hid h1; have HB2 := Lib.hid (HB1.out.trans h2); clear h1 h2 h3)
            | (go_at_call 34; (with_reducible refine (write_any w.heap.size w.heap.size (J ++ [32]) ⟨S.toArray⟩ _ HI2.out HZ2.out HB2.out.size).mono ?_); rintro e w3 ⟨rfl, h1, h2, h3⟩; have HI3 := Lib.hid h1; have HB3 := Lib.hid (HB2.out.trans h2); clear h1 h2 h3)
            | fail)
          exact ⟨⟨k + 1, by omega, by go_num, hM2, Lib.hid (by rw [HJ.out, if_neg hk0]; simpa using HI3.out), HB3⟩, by simp only [intOf]; omega⟩
      · have HSH := Lib.hid (fun w' ht => lshow_at kd fr0 ti0 fr ti tx p0 p1 p2 p3 lo hi [] hsk.2 hsk.1 (fun h => absurd h hm) (fun _ => rfl) w' ht)
        have HRR := Lib.hid (HNM.out hm)
        have HBq := Lib.hid (Below.step HB.out (bx1 wr (.cells #[.int .u8 (kd : Int), .int .i64 (fr : Int), .int .i64 (ti : Int), .string ⟨tx.toArray⟩, .int .u64 (p0 : Int), .int .u64 (p1 : Int), .int .u64 (p2 : Int), .int .u64 (p3 : Int), .int .i64 lo, .int .i64 hi] 32)))
        clear hm HNM HMS HSL HSN HJ HJL
        go_wp2_with (first | (go_at_call 13; (with_reducible refine (HSH.out _ (HT.out.below HBq.out)).mono ?_); rintro e w1 ⟨rfl, hb⟩; have HB1 := Lib.hid (Below.step HBq.out hb); clear hb) | fail)
        exact bodyPost_ret (v := .string ⟨#[]⟩) (by simp [results, Tryd.results12, go_sem]) rfl ⟨by rw [HRR.out], HB1.out⟩
    · obtain rfl : k = ls.length := by omega
      have HRR := Lib.hid (show r = joinL ls from H1.out (by have h := HMA.out; rwa [List.take_length] at h))
      rw [List.take_length] at HI
      go_wp2_with (first | (go_at_call 35; refine (Tryd.Builder_String_any w.heap.size w.heap.size _ _ HI.out HB.out.size).mono ?_; rintro e w3 ⟨rfl, hb3⟩; have HB3 := Lib.hid (HB.out.trans hb3); clear hb3) | fail)
      exact bodyPost_ret (v := .string ⟨(joinL ls).toArray⟩) (by simp [results, Tryd.results12, go_sem]) rfl ⟨by rw [HRR.out], HB3.out⟩
theorem ljoin_any (ls : List Wd) (A : Option Addr) (c : Nat) (r : List UInt8) (w : World) (hA : WRow w A ls) (hl : ls.length ≤ 5000) (hs : ∀ x ∈ ls, small x ∧ x.text.length ≤ 1000000) (ht : LexTabs w)
    (h1 : (∀ x ∈ ls, mayS x) → r = joinL ls) (h2 : ¬ (∀ x ∈ ls, mayS x) → r = []) : Calls Tryd.prog 12 #[.slice A ls.length c] w (TextPost r w) := ljoin_z ls A _ _ c r w hA.z hl hs ht h1 h2
end Go.Proofs.YtabncmckojlllaaDoor
