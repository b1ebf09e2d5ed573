/- The contract of bonsairef06's Words. -/
import Derived.Test.YtidcoldoalimfaaMi
import Derived.Test.YtidcoldoalimfaaLt
import Derived.Test.YtidcoldoalimfaaLv
import Derived.Test.YtidcoldoalimfaaLu
namespace Go.Proofs.Ytidcoldoalimfaa
open Go.RowKit
set_option linter.unusedSimpArgs false
set_option linter.unusedVariables false

theorem infoWordR : (Try.prog.info? 45).map (fun i => (i.zero, i.size, i.bytes)) = some (some (wdV ⟨0, 0, 0, [], 0, 0, 0, 0, 0, 0⟩), 10, 88) := by kernel_rfl
def RWordsPost (s : List UInt8) (w : World) (e : Ending) (w' : World) : Prop :=
  ∃ A c, e = .returned (.tuple #[.slice A (wordsL s).1.length c, .int .i64 ((wordsL s).2.1 : Int), .int .i64 ((wordsL s).2.2 : Int)]) ∧ w'.ownsRow w.heap.size 45 10 (.slice A (wordsL s).1.length c) (wordsL s).1.length (wdL (wordsL s).1) ∧ Below w.heap.size w w'
theorem RWordsPost.of {s : List UInt8} {w w' : World} {ls : List Wd} {a er : Nat} {A : Option Addr} {c : Nat} {e : Ending} (h : wordsL s = (ls, a, er)) (he : e = .returned (.tuple #[.slice A ls.length c, .int .i64 (a : Int), .int .i64 (er : Int)]))
    (hr : w'.ownsRow w.heap.size 45 10 (.slice A ls.length c) ls.length (wdL ls)) (hb : Below w.heap.size w w') : RWordsPost s w e w' := by
  unfold RWordsPost
  rw [h]
  exact ⟨A, c, he, hr, hb⟩
def RWRel (w : World) (s : List UInt8) (o i : Value) (wr : World) : Prop :=
  ∃ (k : Nat) (pre : List Wd) (V : Option Addr) (c : Nat), o = .slice V pre.length c ∧ i = .int .i64 (k : Int) ∧ Hid (k ≤ s.length) ∧ Hid (pre.length ≤ k) ∧ Hid (wr.ownsRow w.heap.size 45 10 (.slice V pre.length c) pre.length (wdL pre)) ∧
    Hid (RW s (nextL s 0) = (pre ++ (RW s k).1, (RW s k).2)) ∧ Hid (Below w.heap.size w wr)
set_option maxRecDepth 100000 in
set_option maxHeartbeats 2000000 in
theorem rwords_any (s : ByteArray) (w : World) (hs : s.size ≤ 6000) : Calls Try.prog 7 #[.string s] w (RWordsPost s.data.toList w) := by
  have HZ := Lib.hid (sz_data s)
  have i1 : ¬ (65536 : Int) < (s.size : Int) := by omega
  have HS0 := Lib.hid (fun w => rskip_any s 0 w (by omega) (by omega))
  have HRD := Lib.hid (fun a (ha : a < s.size) w => rword_any s a w ha (by omega))
  have HSK := Lib.hid (fun a (ha : a ≤ s.size) w => rskip_any s a w ha (by omega))
  unfold SkipPost at HS0 HSK
  obtain ⟨j0, hj, hy0, hy1, hy2⟩ := info_parts infoWordR
  go_enter Try.func7, Try.ntmps7
  go_wp2_with (first | (go_at_call 15; (refine (HS0.out _).mono ?_); rintro e w' ⟨rfl, rfl⟩) | fail)
  go_loopw [5, 6] (fun o i wr => RWRel w s.data.toList o i wr) (fun _ i _ => s.size - (intOf i).toNat)
  case atStart =>
    have := next_le s.data.toList 0
    exact ⟨nextL s.data.toList 0, [], none, 0, rfl, rfl, Lib.hid (by have := HZ.out; omega), Lib.hid (Nat.zero_le _), Lib.hid (World.ownsRow_nil _ _ _ _), Lib.hid rfl, Lib.hid (Below.refl _ _)⟩
  case round =>
    obtain ⟨k, pre, V, c, rfl, rfl, HK, HP, HO, HRW, HB⟩ := hrel
    by_cases hlt : k < s.size
    · have k1 : (k : Int) < (s.size : Int) := by omega
      have HWD := Lib.hid (HRD.out k hlt)
      cases hw : wordL s.data.toList k with
      | none =>
        have HF := Lib.hid (show wordsL s.data.toList = ([], k, 4) from by
          rw [wordsL_of (by have := HZ.out; omega), HRW.out, RW_none (by have := HZ.out; omega) hw])
        have HWN := Lib.hid (fun w => (HWD.out w).mono (fun e w' h => h.no hw))
        clear hw HWD
        go_wp2_with (first | (go_at_call 16; (with_reducible refine (HWN.out _).mono ?_); rintro e w1 ⟨⟨x, rfl⟩, hb⟩; have HB1 := Lib.hid (Below.step HB.out hb); clear hb) | fail)
        exact bodyPost_ret (v := .tuple #[.slice none 0 0, .int .i64 (k : Int), .int .i64 4]) (by simp [results, Try.results7, go_sem]) rfl (RWordsPost.of (A := none) (c := 0) HF.out rfl (World.ownsRow_nil _ _ _ _) (HB1.out.alloc HB1.out.size _))
      | some x =>
        have HWY := Lib.hid (fun w => (HWD.out w).mono (fun e w' h => h.yes hw))
        have htil := word_til hw
        have HRW2 := Lib.hid (RW_word (by have := HZ.out; omega) hw)
        have hnl := next_le s.data.toList x.til
        have hng := next_ge s.data.toList x.til
        have HSX := Lib.hid (fun w => HSK.out x.til (by have := HZ.out; omega) w)
        clear hw HWD
        obtain ⟨kd, fr, ti, tx, p0, p1, p2, p3, lo, hi⟩ := x
        simp only at htil HRW2 hnl hng HSX
        go_upto_region 9 with (first | (go_at_call 16; (with_reducible refine (HWY.out _).mono ?_); rintro e w1 ⟨rfl, hb⟩; have HB1 := Lib.hid (Below.step HB.out hb); have HO1 := Lib.hid (own_kept HO.out (grown_none hb) (fun k hk e => by cases e)); clear hb) | fail)
        have HX := Lib.hid (bx_new w1 (.cells #[.int .u8 (kd : Int), .int .i64 (fr : Int), .int .i64 (ti : Int), .string ⟨tx.toArray⟩, .int .u64 (p0 : Int), .int .u64 (p1 : Int), .int .u64 (p2 : Int), .int .u64 (p3 : Int), .int .i64 lo, .int .i64 hi] 45))
        have HBK := Lib.hid (fun k hk => (own_blk HO1.out k hk).2)
        have HO2 := Lib.hid (World.ownsRow.alloc HO1.out (.cells #[.int .u8 (kd : Int), .int .i64 (fr : Int), .int .i64 (ti : Int), .string ⟨tx.toArray⟩, .int .u64 (p0 : Int), .int .u64 (p1 : Int), .int .u64 (p2 : Int), .int .u64 (p3 : Int), .int .i64 lo, .int .i64 hi] 45))
        have HB2 := Lib.hid (HB1.out.alloc HB1.out.size (.cells #[.int .u8 (kd : Int), .int .i64 (fr : Int), .int .i64 (ti : Int), .string ⟨tx.toArray⟩, .int .u64 (p0 : Int), .int .u64 (p1 : Int), .int .u64 (p2 : Int), .int .u64 (p3 : Int), .int .i64 lo, .int .i64 hi] 45))
        have hq2 : w1.heap.size < (w1.alloc (.cells #[.int .u8 (kd : Int), .int .i64 (fr : Int), .int .i64 (ti : Int), .string ⟨tx.toArray⟩, .int .u64 (p0 : Int), .int .u64 (p1 : Int), .int .u64 (p2 : Int), .int .u64 (p3 : Int), .int .i64 lo, .int .i64 hi] 45)).heap.size := by simp
        have hq3 : w.heap.size ≤ w1.heap.size := HB1.out.size
        generalize (w1.alloc (.cells #[.int .u8 (kd : Int), .int .i64 (fr : Int), .int .i64 (ti : Int), .string ⟨tx.toArray⟩, .int .u64 (p0 : Int), .int .u64 (p1 : Int), .int .u64 (p2 : Int), .int .u64 (p3 : Int), .int .i64 lo, .int .i64 hi] 45)) = W2 at *
        generalize w1.heap.size = Q at *
        obtain ⟨t0, t1, t2, t3, t4, t5, t6, t7, t8, t9, _⟩ := blk10 HX.out
        have HF := Lib.hid (show pre.length + 1 ≤ maxLen ∧ (pre.length + 1) * 88 ≤ 140737488355328 from by have h1 := HP.out; have h2 := HK.out; have h3 := HZ.out; unfold maxLen; constructor <;> omega)
        go_upto_region 10 with (first | (at_builtin; refine wpList_append_at _ rfl (.tmp 27) (.tmp 29) 23 rfl w.heap.size 45 j0 _ 10 88 Try.underlying23 hj hy0 hy1 hy2 rfl (by decide) V c pre.length (wdL pre) rfl (World.ownsRow.alloc HO2.out _) (some ⟨W2.heap.size, 0, none⟩) 1 1 [.int .u8 (kd : Int), .int .i64 (fr : Int), .int .i64 (ti : Int), .string ⟨tx.toArray⟩, .int .u64 (p0 : Int), .int .u64 (p1 : Int), .int .u64 (p2 : Int), .int .u64 (p3 : Int), .int .i64 lo, .int .i64 hi] rfl rfl (row_blk (cs := [.int .u8 (kd : Int), .int .i64 (fr : Int), .int .i64 (ti : Int), .string ⟨tx.toArray⟩, .int .u64 (p0 : Int), .int .u64 (p1 : Int), .int .u64 (p2 : Int), .int .u64 (p3 : Int), .int .i64 lo, .int .i64 hi]) (bx_new W2 _)) (wdC_one ⟨kd, fr, ti, tx, p0, p1, p2, p3, lo, hi⟩) HF.out.1 HF.out.2 (by have := HB2.out.size; simp; omega) ?_; intro V' vc' w3 HO3 HG3 HA3) | fail)
        have HX2 := Lib.hid (show w3.heap[Q]? = some (.cells #[.int .u8 (kd : Int), .int .i64 (fr : Int), .int .i64 (ti : Int), .string ⟨tx.toArray⟩, .int .u64 (p0 : Int), .int .u64 (p1 : Int), .int .u64 (p2 : Int), .int .u64 (p3 : Int), .int .i64 lo, .int .i64 hi] 45 (0, 0)) from by
          have h0 := bx_old (p := .cells #[.int .u8 (kd : Int), .int .i64 (fr : Int), .int .i64 (ti : Int), .string ⟨tx.toArray⟩, .int .u64 (p0 : Int), .int .u64 (p1 : Int), .int .u64 (p2 : Int), .int .u64 (p3 : Int), .int .i64 lo, .int .i64 hi] 45) HX.out
          refine (HG3.out.block Q (by simp; omega) (fun e => ?_)).trans h0
          have := HBK.out Q e.symm
          omega)
        have HB3 := Lib.hid ((Below.step HB2.out (bx1 W2 (.cells #[.int .u8 (kd : Int), .int .i64 (fr : Int), .int .i64 (ti : Int), .string ⟨tx.toArray⟩, .int .u64 (p0 : Int), .int .u64 (p1 : Int), .int .u64 (p2 : Int), .int .u64 (p3 : Int), .int .i64 lo, .int .i64 hi] 45))).grown HG3.out (by have := HB2.out.size; simp; omega) (fun x hx => (own_blk HO2.out x hx).1))
        clear t0 t1 t2 t3 t4 t5 t6 t7 t8 t9
        obtain ⟨u0, u1, u2', u3, u4', u5, u6, u7', u8', u9, _⟩ := blk10 HX2.out
        go_wp2_with (first | (go_at_call 15; (with_reducible refine (HSX.out _).mono ?_); rintro e w' ⟨rfl, rfl⟩) | fail)
        have hsnoc : wdL (pre ++ [(⟨kd, fr, ti, tx, p0, p1, p2, p3, lo, hi⟩ : Wd)]) = wdL pre ++ [.int .u8 (kd : Int), .int .i64 (fr : Int), .int .i64 (ti : Int), .string ⟨tx.toArray⟩, .int .u64 (p0 : Int), .int .u64 (p1 : Int), .int .u64 (p2 : Int), .int .u64 (p3 : Int), .int .i64 lo, .int .i64 hi] := wdL_snoc _ _
        have HO4 := Lib.hid (show w3.ownsRow w.heap.size 45 10 (.slice V' (pre ++ [(⟨kd, fr, ti, tx, p0, p1, p2, p3, lo, hi⟩ : Wd)]).length vc') (pre ++ [(⟨kd, fr, ti, tx, p0, p1, p2, p3, lo, hi⟩ : Wd)]).length (wdL (pre ++ [(⟨kd, fr, ti, tx, p0, p1, p2, p3, lo, hi⟩ : Wd)])) from by rw [hsnoc, List.length_append]; exact HO3.out)
        have HRW4 := Lib.hid (show RW s.data.toList (nextL s.data.toList 0) = ((pre ++ [(⟨kd, fr, ti, tx, p0, p1, p2, p3, lo, hi⟩ : Wd)]) ++ (RW s.data.toList (nextL s.data.toList ti)).1, (RW s.data.toList (nextL s.data.toList ti)).2) from by rw [HRW.out, HRW2.out, List.append_assoc]; rfl)
        have hP := HP.out
        have hK := HK.out
        have hZ := HZ.out
        refine ⟨⟨nextL s.data.toList ti, pre ++ [(⟨kd, fr, ti, tx, p0, p1, p2, p3, lo, hi⟩ : Wd)], V', vc', by rw [List.length_append]; rfl, rfl, Lib.hid (by omega), Lib.hid ?_, HO4, HRW4, HB3⟩, ?_⟩
        · rw [List.length_append, List.length_singleton]; omega
        · simp only [intOf]; omega
    · have k1 : ¬ (k : Int) < (s.size : Int) := by omega
      have HF := Lib.hid (show wordsL s.data.toList = (pre, 0, 0) from by
        rw [wordsL_of (by have := HZ.out; omega), HRW.out, RW_end (by have := HZ.out; omega)]; simp)
      go_wp2_with fail
      exact bodyPost_ret (v := .tuple #[.slice V pre.length c, .int .i64 0, .int .i64 0]) (by simp [results, Try.results7, go_sem]) rfl (RWordsPost.of HF.out rfl HO.out HB.out)
end Go.Proofs.Ytidcoldoalimfaa
