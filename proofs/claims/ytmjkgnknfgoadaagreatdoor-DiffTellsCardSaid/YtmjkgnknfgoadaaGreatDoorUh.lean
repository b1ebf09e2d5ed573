/- The contract of bonsairef03.Class. -/
import Derived.Test.YtmjkgnknfgoadaaGreatDoorUf
import Derived.Test.YtmjkgnknfgoadaaGreatDoorUd
import Derived.BigQuiet
import Derived.Lib.ItoaLen
namespace Go.Proofs.YtmjkgnknfgoadaaGreatDoor
open Go.RowKit
set_option linter.unusedSimpArgs false
set_option linter.unusedVariables false
theorem eqPair (w : World) (a0 a1 b0 b1 : Int) : ((Op.equalIn 10000 210 (.agg #[.int .u8 a0, .int .u8 a1]) (.agg #[.int .u8 b0, .int .u8 b1])).run Tryz.prog w) = .ok (decide (a0 = b0 ∧ a1 = b1)) w := by
  obtain ⟨i, hi⟩ := Option.isSome_iff_exists.1 (show (Tryz.prog.info? 5).isSome = true by kernel_rfl)
  have u := Tryz.underlying5
  have ua := Tryz.isAgg5
  have uz := Tryz.sizeOf5
  rw [show (10000 : Nat) = 9999 + 1 from rfl, run_equalIn_array w 9999 _ _ Tryz.underlying210 hi]
  have hc : Tryz.prog.cellsOf 5 = 1 := by kernel_rfl
  rw [hc]
  simp only [show List.range 2 = [0, 1] from rfl, Op.eqItems]
  go_simp
  by_cases h0 : a0 = b0 <;> by_cases h1 : a1 = b1 <;> simp [h0, h1]
theorem addRun_all {P : Nat → Prop} {l : List (Nat × Nat)} {b : Nat} (h : ∀ r ∈ l, r.1 ≤ r.2 ∧ ∀ z, r.1 ≤ z → z ≤ r.2 → P z) (hb : P b) : ∀ r ∈ addRun l b, r.1 ≤ r.2 ∧ ∀ z, r.1 ≤ z → z ≤ r.2 → P z := by
  have hn : ∀ r ∈ [(b, b)], r.1 ≤ r.2 ∧ ∀ z, r.1 ≤ z → z ≤ r.2 → P z := fun r hr => by
    obtain rfl := List.mem_singleton.1 hr
    exact ⟨Nat.le_refl _, fun z h1 h2 => by obtain rfl : z = b := by simp only at h1 h2; omega
                                            exact hb⟩
  intro r hr
  unfold addRun at hr
  split at hr
  · rename_i x y hl
    have hxy := h (x, y) (List.mem_of_getLast? hl)
    split at hr
    · rename_i e
      rcases List.mem_append.1 hr with h1 | h1
      · exact h r ((List.dropLast_sublist _).subset h1)
      · obtain rfl := List.mem_singleton.1 h1
        simp only at hxy ⊢
        refine ⟨by omega, fun z h2 h3 => ?_⟩
        by_cases hz : z ≤ y
        · exact hxy.2 z h2 hz
        · obtain rfl : z = b := by omega
          exact hb
    · rcases List.mem_append.1 hr with h1 | h1
      · exact h r h1
      · exact hn r h1
  · exact hn r hr
theorem foldRun_all {P : Nat → Prop} : ∀ (m : List Nat) (l : List (Nat × Nat)), (∀ r ∈ l, r.1 ≤ r.2 ∧ ∀ z, r.1 ≤ z → z ≤ r.2 → P z) → (∀ b ∈ m, P b) → ∀ r ∈ m.foldl addRun l, r.1 ≤ r.2 ∧ ∀ z, r.1 ≤ z → z ≤ r.2 → P z
  | [], _, h, _ => h
  | b :: m, l, h, hm => foldRun_all m (addRun l b) (addRun_all h (hm b List.mem_cons_self)) fun z hz => hm z (List.mem_cons_of_mem _ hz)
theorem runsF_all (f : Nat → Bool) : ∀ r ∈ runsF f, r.1 ≤ r.2 ∧ ∀ z, r.1 ≤ z → z ≤ r.2 → z < 256 ∧ f z = true :=
  foldRun_all _ [] (by simp) (fun b hb => by
    obtain ⟨h1, h2⟩ := List.mem_filter.1 hb
    exact ⟨by simpa using h1, h2⟩)
theorem foldRun_range (n : Nat) : (List.range (n + 1)).foldl addRun [] = [(0, n)] := by
  induction n with
  | zero => rfl
  | succ n ih =>
    rw [List.range_succ, List.foldl_append, ih]
    simp [addRun]
theorem runs_all (f : Nat → Bool) : (List.range 256).all f = true ↔ runsF f = [(0, 255)] := by
  constructor
  · intro h
    unfold runsF
    rw [List.filter_eq_self.2 (fun b hb => List.all_eq_true.1 h b hb)]
    exact foldRun_range 255
  · intro h
    rw [List.all_eq_true]
    intro b hb
    have h1 := (runsF_all f (0, 255) (by rw [h]; exact List.mem_singleton.2 rfl)).2 b (Nat.zero_le _) (by simp only; have := List.mem_range.1 hb; omega)
    exact h1.2
theorem runsV_at : ∀ (l : List (Nat × Nat)) (k : Nat) (hk : k < l.length), (runsV l)[k * 2]? = some (.int .u8 (l[k].1 : Int)) ∧ (runsV l)[k * 2 + 1]? = some (.int .u8 (l[k].2 : Int))
  | [], _, hk => absurd hk (by simp)
  | r :: l, 0, _ => ⟨rfl, rfl⟩
  | r :: l, k + 1, hk => by
    have ih := runsV_at l k (by simpa using hk)
    rw [show (k + 1) * 2 = k * 2 + 1 + 1 by omega]
    exact ih
theorem sign3_at (z : Int) (b : Nat) (hz : z = (b : Int)) (hb : b < 256) (w : World) :
    Calls Tryz.prog 180 #[.int .u8 z, .string ⟨#[93, 45, 94, 92]⟩] w fun e w' => e = .returned (.string ⟨(signB [93, 45, 94] (UInt8.ofNat b)).toArray⟩) ∧ Below w.heap.size w w' := by
  have h := sign3_any (UInt8.ofNat b) ⟨#[93, 45, 94, 92]⟩ w (by decide)
  rw [show (⟨#[93, 45, 94, 92]⟩ : ByteArray).data.toList = [93, 45, 94, 92] from rfl, signR_class, show (UInt8.ofNat b).toNat = b from by simp; omega, ← hz] at h
  exact h
theorem drewN_belowU {B : Nat} {w w' : World} (h : Below B w w') (n : Nat) : Below B w (w'.drewN n) := ⟨h.1, h.2, h.3, h.4, fun k hk => h.5 k hk⟩
def classK (L : List (Nat × Nat)) (k : Nat) : List UInt8 := (L.take k).flatMap runB
theorem classK_succ (L : List (Nat × Nat)) (k : Nat) (hk : k < L.length) : classK L (k + 1) = classK L k ++ runB L[k] := by
  unfold classK
  rw [List.take_add_one, List.getElem?_eq_getElem hk, List.flatMap_append]
  simp only [Option.toList_some, List.flatMap_cons, List.flatMap_nil, List.append_nil]
set_option maxRecDepth 100000 in
set_option maxHeartbeats 6400000 in
theorem rclass_any (w0 w1 w2 w3 : Nat) (h0 : u64N w0) (h1 : u64N w1) (h2 : u64N w2) (h3 : u64N w3) (w : World) :
    Calls Tryz.prog 167 #[wordsV w0 w1 w2 w3] w (TextPost (classF (hasW [w0, w1, w2, w3])) w) := by
  unfold TextPost
  have HB0 := Lib.hid (bx1 w (.cells #[.int .u64 (w0 : Int), .int .u64 (w1 : Int), .int .u64 (w2 : Int), .int .u64 (w3 : Int)] 69))
  obtain ⟨a0, a1, a2, a3, _⟩ := blk4 (bx_new w (.cells #[.int .u64 (w0 : Int), .int .u64 (w1 : Int), .int .u64 (w2 : Int), .int .u64 (w3 : Int)] 69))
  have HRR := Lib.hid (fun w => rruns_any w0 w1 w2 w3 h0 h1 h2 h3 w)
  have HLE := Lib.hid (runsF_len (hasW [w0, w1, w2, w3]))
  have HAL := Lib.hid (runsF_all (hasW [w0, w1, w2, w3]))
  have HCF := Lib.hid (show classF (hasW [w0, w1, w2, w3]) = if runsF (hasW [w0, w1, w2, w3]) = [(0, 255)] then [46] else [91] ++ (runsF (hasW [w0, w1, w2, w3])).flatMap runB ++ [93] from by
    unfold classF
    by_cases h : (List.range 256).all (hasW [w0, w1, w2, w3]) = true
    · rw [if_pos h, if_pos ((runs_all _).1 h)]
    · rw [if_neg h, if_neg (fun e => h ((runs_all _).2 e))])
  unfold wordsV at *
  generalize classF (hasW [w0, w1, w2, w3]) = CF at *
  generalize runsF (hasW [w0, w1, w2, w3]) = L at *
  generalize hasW [w0, w1, w2, w3] = F at *
  clear h0 h1 h2 h3
  go_enter Tryz.func167, Tryz.ntmps167
  go_upto_region 1 with (fail)
  generalize (w.alloc (.cells #[.int .u64 (w0 : Int), .int .u64 (w1 : Int), .int .u64 (w2 : Int), .int .u64 (w3 : Int)] 69)) = W at *
  by_cases hd : L.length = 1
  · have hd1 : ((L.length : Int) == 1) = true := by rw [beq_iff_eq]; omega
    have i0 : (0 : Int) < (L.length : Int) := by omega
    have hal2 : Tryz.prog.arrayLen 210 = 2 := by kernel_rfl
    obtain ⟨x, y, hxy⟩ : ∃ x y, L = [(x, y)] := by
      obtain ⟨⟨x, y⟩, h⟩ := List.length_eq_one_iff.1 hd
      exact ⟨x, y, h⟩
    have HXY := Lib.hid hxy
    have hdl : 0 < L.length := by omega
    clear hd hxy
    by_cases he : (x : Int) = 0 ∧ (y : Int) = 255
    · have hdd : ∀ w, ((Op.equalIn 10000 210 (.agg #[.int .u8 (x : Int), .int .u8 (y : Int)]) (.agg #[.int .u8 0, .int .u8 255])).run Tryz.prog w) = .ok true w := fun w => by rw [eqPair, decide_eq_true he]
      have HE2 := Lib.hid (show CF = [46] from by rw [HCF.out, if_pos (by rw [HXY.out]; congr 1; exact Prod.ext (by simp only; omega) (by simp only; omega))])
      clear he
      go_wp2_with (go_at_call 179; refine (HRR.out _).mono ?_; rintro e w5 ⟨V, c, rfl, hown, hb5⟩; have HO := Lib.hid hown; have HB5 := Lib.hid (HB0.out.trans (hb5.mono HB0.out.size)); clear hown hb5; obtain ⟨g, rfl, _, _⟩ := own_some HO.out hdl; have ⟨c0, c1⟩ : w5.cell? ⟨g, 0, none⟩ = some (.int .u8 (x : Int)) ∧ w5.cell? ⟨g, 1, none⟩ = some (.int .u8 (y : Int)) := ⟨(World.ownsRow.cellAt HO.out 0 (by omega)).trans (by rw [HXY.out]; rfl), (World.ownsRow.cellAt HO.out 1 (by omega)).trans (by rw [HXY.out]; rfl)⟩)
      go_ret
      exact ⟨by rw [HE2.out]; try rfl, HB5.out⟩
    · have hdd : ∀ w, ((Op.equalIn 10000 210 (.agg #[.int .u8 (x : Int), .int .u8 (y : Int)]) (.agg #[.int .u8 0, .int .u8 255])).run Tryz.prog w) = .ok false w := fun w => by rw [eqPair, decide_eq_false he]
      have HNE := Lib.hid (show L ≠ [(0, 255)] from fun e => he (by
        rw [HXY.out] at e
        injection e with e1 e2
        injection e1 with e1 e3
        exact ⟨by omega, by omega⟩))
      clear he
      go_wp2_with (go_at_call 179; refine (HRR.out _).mono ?_; rintro e w5 ⟨V, c, rfl, hown, hb5⟩; have HO := Lib.hid hown; have HB5 := Lib.hid (HB0.out.trans (hb5.mono HB0.out.size)); clear hown hb5; obtain ⟨g, rfl, _, _⟩ := own_some HO.out hdl; have ⟨c0, c1⟩ : w5.cell? ⟨g, 0, none⟩ = some (.int .u8 (x : Int)) ∧ w5.cell? ⟨g, 1, none⟩ = some (.int .u8 (y : Int)) := ⟨(World.ownsRow.cellAt HO.out 0 (by omega)).trans (by rw [HXY.out]; rfl), (World.ownsRow.cellAt HO.out 1 (by omega)).trans (by rw [HXY.out]; rfl)⟩)
      clear hd1 hdd c0 c1 i0 hdl
      go_loopw [4, 5] (fun v4 v5 wr => ∃ (k : Nat) (o : ByteArray), k ≤ L.length ∧ v5 = .int .i64 k ∧ v4 = .string o ∧ o.size ≤ k * 9 ∧ Hid (o = ⟨(classK L k).toArray⟩) ∧ Hid (Below w5.heap.size w5 wr)) (fun _ v5 _ => L.length - (intOf v5).toNat)
      case atStart => exact ⟨0, ByteArray.empty, Nat.zero_le _, rfl, rfl, Nat.le_refl _, Lib.hid (by simp [classK]; rfl), Lib.hid (Below.refl _ _)⟩
      case round =>
        obtain ⟨k, o, hk, rfl, rfl, hol, HE, HBR⟩ := hrel
        have hlen := HLE.out
        by_cases hlt : k < L.length
        · have i1 : (k : Int) < (L.length : Int) := by omega
          have i2 : (0 : Int) ≤ (k : Int) := by omega
          have HOR := Lib.hid (own_stay HO.out HBR.out)
          have ⟨c0, c1⟩ : wr.cell? ⟨g, k * 2, none⟩ = some (.int .u8 (L[k].1 : Int)) ∧ wr.cell? ⟨g, k * 2 + 1, none⟩ = some (.int .u8 (L[k].2 : Int)) :=
            ⟨(World.ownsRow.cellAt HOR.out (k * 2) (by omega)).trans (runsV_at L k hlt).1, (World.ownsRow.cellAt HOR.out (k * 2 + 1) (by omega)).trans (runsV_at L k hlt).2⟩
          have hxy := (HAL.out L[k] (List.getElem_mem hlt))
          have hyb := (hxy.2 L[k].2 hxy.1 (Nat.le_refl _)).1
          have hxl := hxy.1
          have HN := Lib.hid (show classK L (k + 1) = classK L k ++ (signB [93, 45, 94] (UInt8.ofNat L[k].1) ++ (if L[k].1 + 1 < L[k].2 then [45] else []) ++ (if L[k].1 ≠ L[k].2 then signB [93, 45, 94] (UInt8.ofNat L[k].2) else [])) from classK_succ L k hlt)
          clear hxy
          have HBD := Lib.hid (show ∀ m, Below w5.heap.size w5 (wr.drewN m) from fun m => drewN_belowU HBR.out m)
          generalize L[k].1 = x at *
          generalize L[k].2 = y at *
          have HSX := Lib.hid (fun w => sign3_at (x : Int) x rfl (by omega) w)
          have HSY := Lib.hid (fun w => sign3_at (y : Int) y rfl hyb w)
          have hsx : (⟨(signB [93, 45, 94] (UInt8.ofNat x)).toArray⟩ : ByteArray).size ≤ 4 := (signB_len [93, 45, 94] (UInt8.ofNat x)).2
          have hsy : (⟨(signB [93, 45, 94] (UInt8.ofNat y)).toArray⟩ : ByteArray).size ≤ 4 := (signB_len [93, 45, 94] (UInt8.ofNat y)).2
          have k1 : IntKind.u8.wrap (x : Int) = x := by simp [IntKind.wrap, IntKind.signed, IntKind.bits]; omega
          have k2 : IntKind.u8.wrap (y : Int) = y := by simp [IntKind.wrap, IntKind.signed, IntKind.bits]; omega
          have hal2 : Tryz.prog.arrayLen 210 = 2 := by kernel_rfl
          have hob : o.size ≤ 3000 := by omega
          have hxb : x < 256 := by omega
          by_cases h1 : x = y
          · have HE2 := Lib.hid (show o ++ (⟨(signB [93, 45, 94] (UInt8.ofNat x)).toArray⟩ : ByteArray) = ⟨(classK L (k + 1)).toArray⟩ from by
              rw [HE.out, HN.out, if_neg (by omega), if_neg (by simp [h1])]
              exact ByteArray.ext (by simp))
            have t1 : ¬ ((x : Int) + 1 < (y : Int)) := by omega
            have t2 : ¬ ((x : Int) < (y : Int)) := by omega
            generalize (⟨(signB [93, 45, 94] (UInt8.ofNat x)).toArray⟩ : ByteArray) = sx at *
            clear h1 hxl
            as_aux_lemma =>
              go_wp2_with fail
              go_quiet (fail)
              go_wp2_with (go_at_call 180; (with_reducible refine (HSX.out _).mono ?_); rintro e w6 ⟨rfl, hb6⟩; have HB6 := Lib.hid ((HBD.out _).trans (hb6.mono HBR.out.size)); clear hb6)
              exact ⟨⟨k + 1, _, hlt, by go_num, rfl, by simp; omega, HE2, HB6⟩, by simp [intOf]; omega⟩
          · have t2 : (x : Int) < (y : Int) := by omega
            by_cases h2 : x + 1 < y
            · have HE2 := Lib.hid (show o ++ (⟨(signB [93, 45, 94] (UInt8.ofNat x)).toArray⟩ : ByteArray) ++ ⟨#[45]⟩ ++ (⟨(signB [93, 45, 94] (UInt8.ofNat y)).toArray⟩ : ByteArray) = ⟨(classK L (k + 1)).toArray⟩ from by
                rw [HE.out, HN.out, if_pos h2, if_pos h1]
                exact ByteArray.ext (by simp))
              have t1 : ((x : Int) + 1 < (y : Int)) := by omega
              generalize (⟨(signB [93, 45, 94] (UInt8.ofNat x)).toArray⟩ : ByteArray) = sx at *
              generalize (⟨(signB [93, 45, 94] (UInt8.ofNat y)).toArray⟩ : ByteArray) = sy at *
              clear h1 h2 hxl
              as_aux_lemma =>
                go_wp2_with fail
                go_quiet (fail)
                go_wp2_with (first | (go_at_call 180; (with_reducible refine (HSX.out _).mono ?_); rintro e w6 ⟨rfl, hb6⟩; have HB6 := Lib.hid ((HBD.out _).trans (hb6.mono HBR.out.size)); clear hb6) | (go_at_call 180; (with_reducible refine (HSY.out _).mono ?_); rintro e w7 ⟨rfl, hb7⟩; have HB7 := Lib.hid (HB6.out.trans (hb7.mono HB6.out.size)); clear hb7))
                exact ⟨⟨k + 1, _, hlt, by go_num, rfl, by (have h45 : (⟨#[45]⟩ : ByteArray).size = 1 := rfl); simp; omega, HE2, HB7⟩, by simp [intOf]; omega⟩
            · have HE2 := Lib.hid (show o ++ (⟨(signB [93, 45, 94] (UInt8.ofNat x)).toArray⟩ : ByteArray) ++ (⟨(signB [93, 45, 94] (UInt8.ofNat y)).toArray⟩ : ByteArray) = ⟨(classK L (k + 1)).toArray⟩ from by
                rw [HE.out, HN.out, if_neg h2, if_pos h1]
                exact ByteArray.ext (by simp))
              have t1 : ¬ ((x : Int) + 1 < (y : Int)) := by omega
              generalize (⟨(signB [93, 45, 94] (UInt8.ofNat x)).toArray⟩ : ByteArray) = sx at *
              generalize (⟨(signB [93, 45, 94] (UInt8.ofNat y)).toArray⟩ : ByteArray) = sy at *
              clear h1 h2 hxl
              as_aux_lemma =>
                go_wp2_with fail
                go_quiet (fail)
                go_wp2_with (first | (go_at_call 180; (with_reducible refine (HSX.out _).mono ?_); rintro e w6 ⟨rfl, hb6⟩; have HB6 := Lib.hid ((HBD.out _).trans (hb6.mono HBR.out.size)); clear hb6) | (go_at_call 180; (with_reducible refine (HSY.out _).mono ?_); rintro e w7 ⟨rfl, hb7⟩; have HB7 := Lib.hid (HB6.out.trans (hb7.mono HB6.out.size)); clear hb7))
                exact ⟨⟨k + 1, _, hlt, by go_num, rfl, by (have h45 : (⟨#[45]⟩ : ByteArray).size = 1 := rfl); simp; omega, HE2, HB7⟩, by simp [intOf]; omega⟩
        · obtain rfl : k = L.length := by omega
          have HE2 := Lib.hid (show (⟨#[91]⟩ ++ o ++ ⟨#[93]⟩ : ByteArray) = ⟨CF.toArray⟩ from by
            rw [HE.out, HCF.out, if_neg HNE.out]
            unfold classK
            rw [List.take_of_length_le (Nat.le_refl _)]
            exact ByteArray.ext (by simp))
          as_aux_lemma =>
            go_wp2_with fail
            go_ret
            exact ⟨by rw [← HE2.out]; try rfl, HB5.out.trans (HBR.out.mono HB5.out.size)⟩
  · have hd1 : ((L.length : Int) == 1) = false := by rw [beq_eq_false_iff_ne]; omega
    have HNE := Lib.hid (show L ≠ [(0, 255)] from fun e => hd (by rw [e]; rfl))
    clear hd
    go_wp2_with (go_at_call 179; refine (HRR.out _).mono ?_; rintro e w5 ⟨V, c, rfl, hown, hb5⟩; have HO := Lib.hid hown; have HB5 := Lib.hid (HB0.out.trans (hb5.mono HB0.out.size)); clear hown hb5)
    clear hd1
    go_loopw [4, 5] (fun v4 v5 wr => ∃ (k : Nat) (o : ByteArray), k ≤ L.length ∧ v5 = .int .i64 k ∧ v4 = .string o ∧ o.size ≤ k * 9 ∧ Hid (o = ⟨(classK L k).toArray⟩) ∧ Hid (Below w5.heap.size w5 wr)) (fun _ v5 _ => L.length - (intOf v5).toNat)
    case atStart => exact ⟨0, ByteArray.empty, Nat.zero_le _, rfl, rfl, Nat.le_refl _, Lib.hid (by simp [classK]; rfl), Lib.hid (Below.refl _ _)⟩
    case round =>
      obtain ⟨k, o, hk, rfl, rfl, hol, HE, HBR⟩ := hrel
      have hlen := HLE.out
      by_cases hlt : k < L.length
      · have i1 : (k : Int) < (L.length : Int) := by omega
        have i2 : (0 : Int) ≤ (k : Int) := by omega
        obtain ⟨g, rfl, _, _⟩ := own_some HO.out (by omega)
        have HOR := Lib.hid (own_stay HO.out HBR.out)
        have ⟨c0, c1⟩ : wr.cell? ⟨g, k * 2, none⟩ = some (.int .u8 (L[k].1 : Int)) ∧ wr.cell? ⟨g, k * 2 + 1, none⟩ = some (.int .u8 (L[k].2 : Int)) :=
          ⟨(World.ownsRow.cellAt HOR.out (k * 2) (by omega)).trans (runsV_at L k hlt).1, (World.ownsRow.cellAt HOR.out (k * 2 + 1) (by omega)).trans (runsV_at L k hlt).2⟩
        have hxy := (HAL.out L[k] (List.getElem_mem hlt))
        have hyb := (hxy.2 L[k].2 hxy.1 (Nat.le_refl _)).1
        have hxl := hxy.1
        have HN := Lib.hid (show classK L (k + 1) = classK L k ++ (signB [93, 45, 94] (UInt8.ofNat L[k].1) ++ (if L[k].1 + 1 < L[k].2 then [45] else []) ++ (if L[k].1 ≠ L[k].2 then signB [93, 45, 94] (UInt8.ofNat L[k].2) else [])) from classK_succ L k hlt)
        clear hxy
        have HBD := Lib.hid (show ∀ m, Below w5.heap.size w5 (wr.drewN m) from fun m => drewN_belowU HBR.out m)
        generalize L[k].1 = x at *
        generalize L[k].2 = y at *
        have HSX := Lib.hid (fun w => sign3_at (x : Int) x rfl (by omega) w)
        have HSY := Lib.hid (fun w => sign3_at (y : Int) y rfl hyb w)
        have hsx : (⟨(signB [93, 45, 94] (UInt8.ofNat x)).toArray⟩ : ByteArray).size ≤ 4 := (signB_len [93, 45, 94] (UInt8.ofNat x)).2
        have hsy : (⟨(signB [93, 45, 94] (UInt8.ofNat y)).toArray⟩ : ByteArray).size ≤ 4 := (signB_len [93, 45, 94] (UInt8.ofNat y)).2
        have k1 : IntKind.u8.wrap (x : Int) = x := by simp [IntKind.wrap, IntKind.signed, IntKind.bits]; omega
        have k2 : IntKind.u8.wrap (y : Int) = y := by simp [IntKind.wrap, IntKind.signed, IntKind.bits]; omega
        have hal2 : Tryz.prog.arrayLen 210 = 2 := by kernel_rfl
        have hob : o.size ≤ 3000 := by omega
        have hxb : x < 256 := by omega
        by_cases h1 : x = y
        · have HE2 := Lib.hid (show o ++ (⟨(signB [93, 45, 94] (UInt8.ofNat x)).toArray⟩ : ByteArray) = ⟨(classK L (k + 1)).toArray⟩ from by
            rw [HE.out, HN.out, if_neg (by omega), if_neg (by simp [h1])]
            exact ByteArray.ext (by simp))
          have t1 : ¬ ((x : Int) + 1 < (y : Int)) := by omega
          have t2 : ¬ ((x : Int) < (y : Int)) := by omega
          generalize (⟨(signB [93, 45, 94] (UInt8.ofNat x)).toArray⟩ : ByteArray) = sx at *
          clear h1 hxl
          as_aux_lemma =>
            go_wp2_with fail
            go_quiet (fail)
            go_wp2_with (go_at_call 180; (with_reducible refine (HSX.out _).mono ?_); rintro e w6 ⟨rfl, hb6⟩; have HB6 := Lib.hid ((HBD.out _).trans (hb6.mono HBR.out.size)); clear hb6)
            exact ⟨⟨k + 1, _, hlt, by go_num, rfl, by simp; omega, HE2, HB6⟩, by simp [intOf]; omega⟩
        · have t2 : (x : Int) < (y : Int) := by omega
          by_cases h2 : x + 1 < y
          · have HE2 := Lib.hid (show o ++ (⟨(signB [93, 45, 94] (UInt8.ofNat x)).toArray⟩ : ByteArray) ++ ⟨#[45]⟩ ++ (⟨(signB [93, 45, 94] (UInt8.ofNat y)).toArray⟩ : ByteArray) = ⟨(classK L (k + 1)).toArray⟩ from by
              rw [HE.out, HN.out, if_pos h2, if_pos h1]
              exact ByteArray.ext (by simp))
            have t1 : ((x : Int) + 1 < (y : Int)) := by omega
            generalize (⟨(signB [93, 45, 94] (UInt8.ofNat x)).toArray⟩ : ByteArray) = sx at *
            generalize (⟨(signB [93, 45, 94] (UInt8.ofNat y)).toArray⟩ : ByteArray) = sy at *
            clear h1 h2 hxl
            as_aux_lemma =>
              go_wp2_with fail
              go_quiet (fail)
              go_wp2_with (first | (go_at_call 180; (with_reducible refine (HSX.out _).mono ?_); rintro e w6 ⟨rfl, hb6⟩; have HB6 := Lib.hid ((HBD.out _).trans (hb6.mono HBR.out.size)); clear hb6) | (go_at_call 180; (with_reducible refine (HSY.out _).mono ?_); rintro e w7 ⟨rfl, hb7⟩; have HB7 := Lib.hid (HB6.out.trans (hb7.mono HB6.out.size)); clear hb7))
              exact ⟨⟨k + 1, _, hlt, by go_num, rfl, by (have h45 : (⟨#[45]⟩ : ByteArray).size = 1 := rfl); simp; omega, HE2, HB7⟩, by simp [intOf]; omega⟩
          · have HE2 := Lib.hid (show o ++ (⟨(signB [93, 45, 94] (UInt8.ofNat x)).toArray⟩ : ByteArray) ++ (⟨(signB [93, 45, 94] (UInt8.ofNat y)).toArray⟩ : ByteArray) = ⟨(classK L (k + 1)).toArray⟩ from by
              rw [HE.out, HN.out, if_neg h2, if_pos h1]
              exact ByteArray.ext (by simp))
            have t1 : ¬ ((x : Int) + 1 < (y : Int)) := by omega
            generalize (⟨(signB [93, 45, 94] (UInt8.ofNat x)).toArray⟩ : ByteArray) = sx at *
            generalize (⟨(signB [93, 45, 94] (UInt8.ofNat y)).toArray⟩ : ByteArray) = sy at *
            clear h1 h2 hxl
            as_aux_lemma =>
              go_wp2_with fail
              go_quiet (fail)
              go_wp2_with (first | (go_at_call 180; (with_reducible refine (HSX.out _).mono ?_); rintro e w6 ⟨rfl, hb6⟩; have HB6 := Lib.hid ((HBD.out _).trans (hb6.mono HBR.out.size)); clear hb6) | (go_at_call 180; (with_reducible refine (HSY.out _).mono ?_); rintro e w7 ⟨rfl, hb7⟩; have HB7 := Lib.hid (HB6.out.trans (hb7.mono HB6.out.size)); clear hb7))
              exact ⟨⟨k + 1, _, hlt, by go_num, rfl, by (have h45 : (⟨#[45]⟩ : ByteArray).size = 1 := rfl); simp; omega, HE2, HB7⟩, by simp [intOf]; omega⟩
      · obtain rfl : k = L.length := by omega
        have HE2 := Lib.hid (show (⟨#[91]⟩ ++ o ++ ⟨#[93]⟩ : ByteArray) = ⟨CF.toArray⟩ from by
          rw [HE.out, HCF.out, if_neg HNE.out]
          unfold classK
          rw [List.take_of_length_le (Nat.le_refl _)]
          exact ByteArray.ext (by simp))
        as_aux_lemma =>
          go_wp2_with fail
          go_ret
          exact ⟨by rw [← HE2.out]; try rfl, HB5.out.trans (HBR.out.mono HB5.out.size)⟩
end Go.Proofs.YtmjkgnknfgoadaaGreatDoor
/- The contracts of bonsairef08's wraps and Count. -/
namespace Go.Proofs.YtmjkgnknfgoadaaGreatDoor
open Go.RowKit
set_option linter.unusedSimpArgs false
set_option linter.unusedVariables false
set_option maxHeartbeats 6400000 in
theorem rwraps_any (k d : Int) (hk : 0 ≤ k ∧ k ≤ 9) (hd : 0 ≤ d ∧ d ≤ 9) (w : World) :
    Calls Tryz.prog 166 #[.int .u8 k, .int .u8 d] w fun e w' => w = w' ∧ e = .returned (.bool (wrapsK k d)) := by
  go_enter Tryz.func166, Tryz.ntmps166
  have hk' : k = 0 ∨ k = 1 ∨ k = 2 ∨ k = 3 ∨ k = 9 ∨ k = 4 ∨ k = 5 ∨ k = 6 ∨ k = 7 ∨ k = 8 := by omega
  have hd' : d = 0 ∨ d = 1 ∨ d = 2 ∨ d = 3 ∨ d = 9 ∨ d = 4 ∨ d = 5 ∨ d = 6 ∨ d = 7 ∨ d = 8 := by omega
  clear hk hd
  rcases hk' with rfl | rfl | rfl | rfl | rfl | rfl | rfl | rfl | rfl | rfl
  all_goals
    rcases hd' with rfl | rfl | rfl | rfl | rfl | rfl | rfl | rfl | rfl | rfl
    all_goals
      go_wp2
      go_ret
      exact ⟨rfl, rfl⟩
theorem rshow_b (n : Int) (w : World) (h0 : 0 ≤ n) (h1 : n ≤ 99) :
    Calls Tryz.prog 181 #[.int .i64 n] w fun e w' => e = .returned (.string ⟨(numB n).toArray⟩) ∧ Below w.heap.size w w' := by
  refine (rshow_any n w (by omega) (by omega)).mono ?_
  rintro e w' ⟨t, rfl, ht, hb⟩
  refine ⟨?_, hb⟩
  rw [show t = (⟨(numB n).toArray⟩ : ByteArray) from ByteArray.ext (by rw [show (⟨(numB n).toArray⟩ : ByteArray).data = (numB n).toArray from rfl]; unfold numB; rw [← ht])]
set_option maxRecDepth 100000 in
set_option maxHeartbeats 6400000 in
theorem rcount_any (lo hi : Int) (w : World) :
    Calls Tryz.prog 169 #[.int .i64 lo, .int .i64 hi] w (TextPost (countB lo hi) w) := by
  unfold TextPost
  by_cases hP : 0 ≤ lo ∧ lo ≤ 99 ∧ (hi = -1 ∨ (lo ≤ hi ∧ hi ≤ 99))
  · obtain ⟨h1, h2, h3⟩ := hP
    have d1 : ¬ lo < 0 := by omega
    have d2 : ¬ 99 < lo := by omega
    by_cases hm : hi = -1
    · subst hm
      by_cases hl0 : lo = 0
      · subst hl0
        have HC := Lib.hid (show countB 0 (-1) = [42] from by decide)
        generalize countB 0 (-1) = C at *
        go_enter Tryz.func169, Tryz.ntmps169
        go_wp2_with fail
        go_ret
        exact ⟨by rw [HC.out]; try rfl, Below.refl _ _⟩
      by_cases hl1 : lo = 1
      · subst hl1
        have HC := Lib.hid (show countB 1 (-1) = [43] from by decide)
        generalize countB 1 (-1) = C at *
        go_enter Tryz.func169, Tryz.ntmps169
        go_wp2_with fail
        go_ret
        exact ⟨by rw [HC.out]; try rfl, Below.refl _ _⟩
      · have HC := Lib.hid (show countB lo (-1) = [123] ++ numB lo ++ [44, 125] from by
          unfold countB; rw [if_neg (by omega), if_neg (by omega), if_neg (by omega), if_neg (by omega), if_neg (by omega), if_pos rfl])
        have HS := Lib.hid (fun w => rshow_b lo w h1 h2)
        have hn : (⟨(numB lo).toArray⟩ : ByteArray).size ≤ 21 := Lib.itoa_length_le lo (by omega) (by omega)
        have HE := Lib.hid (show (⟨#[123]⟩ ++ (⟨(numB lo).toArray⟩ : ByteArray) ++ ⟨#[44, 125]⟩ : ByteArray) = ⟨(countB lo (-1)).toArray⟩ from by
          rw [HC.out]; exact ByteArray.ext (by simp))
        generalize (⟨(numB lo).toArray⟩ : ByteArray) = s at *
        generalize countB lo (-1) = C at *
        have e0 : (lo == 0) = false := beq_eq_false_iff_ne.2 hl0
        have e1 : (lo == 1) = false := beq_eq_false_iff_ne.2 hl1
        have e2 : (lo == -1) = false := beq_eq_false_iff_ne.2 (by omega)
        have hb1 : ¬ 9223372036854775807 < 1 + s.size := by omega
        have hb2 : ¬ 9223372036854775807 < 1 + s.size + 2 := by omega
        clear hl0 hl1 h1 h2 h3
        go_enter Tryz.func169, Tryz.ntmps169
        go_wp2_with (first | (go_at_call 181; refine (HS.out _).mono ?_; rintro e w5 ⟨rfl, hb5⟩; have HB5 := Lib.hid hb5; clear hb5))
        go_ret
        exact ⟨by rw [← HE.out]; try rfl, HB5.out⟩
    · have e3 : (hi == -1) = false := beq_eq_false_iff_ne.2 hm
      have d3 : ¬ hi < lo := by omega
      have d4 : ¬ 99 < hi := by omega
      by_cases h01 : lo = 0 ∧ hi = 1
      · obtain ⟨rfl, rfl⟩ := h01
        have HC := Lib.hid (show countB 0 1 = [63] from by decide)
        generalize countB 0 1 = C at *
        go_enter Tryz.func169, Tryz.ntmps169
        go_wp2_with fail
        go_ret
        exact ⟨by rw [HC.out]; try rfl, Below.refl _ _⟩
      · have HS := Lib.hid (fun w => rshow_b lo w h1 h2)
        have hn : (⟨(numB lo).toArray⟩ : ByteArray).size ≤ 21 := Lib.itoa_length_le lo (by omega) (by omega)
        by_cases he : hi = lo
        · have HC := Lib.hid (show countB lo hi = [123] ++ numB lo ++ [125] from by
            unfold countB; rw [if_neg (by omega), if_neg (by omega), if_neg (by omega), if_neg (by omega), if_pos he])
          have HE := Lib.hid (show (⟨#[123]⟩ ++ (⟨(numB lo).toArray⟩ : ByteArray) ++ ⟨#[125]⟩ : ByteArray) = ⟨(countB lo hi).toArray⟩ from by
            rw [HC.out]; exact ByteArray.ext (by simp))
          generalize (⟨(numB lo).toArray⟩ : ByteArray) = s at *
          generalize countB lo hi = C at *
          have e4 : (lo == hi) = true := by rw [he]; simp
          have hb1 : ¬ 9223372036854775807 < 1 + s.size := by omega
          have hb2 : ¬ 9223372036854775807 < 1 + s.size + 1 := by omega
          have hne : ¬ (lo = 0 ∧ hi = 1) := h01
          clear h1 h2 h3 he
          by_cases hl0 : lo = 0
          · have e0 : (lo == 0) = true := by rw [hl0]; rfl
            have e5 : (hi == 1) = false := beq_eq_false_iff_ne.2 (fun h => h01 ⟨hl0, h⟩)
            have e1 : (lo == 1) = false := beq_eq_false_iff_ne.2 (by omega)
            clear h01 hne hl0 hm
            go_enter Tryz.func169, Tryz.ntmps169
            go_wp2_with (first | (go_at_call 181; refine (HS.out _).mono ?_; rintro e w5 ⟨rfl, hb5⟩; have HB5 := Lib.hid hb5; clear hb5))
            go_ret
            exact ⟨by rw [← HE.out]; try rfl, HB5.out⟩
          · have e0 : (lo == 0) = false := beq_eq_false_iff_ne.2 hl0
            clear h01 hne hl0 hm
            by_cases hl1 : lo = 1
            · have e1 : (lo == 1) = true := by rw [hl1]; rfl
              clear hl1
              go_enter Tryz.func169, Tryz.ntmps169
              go_wp2_with (first | (go_at_call 181; refine (HS.out _).mono ?_; rintro e w5 ⟨rfl, hb5⟩; have HB5 := Lib.hid hb5; clear hb5))
              go_ret
              exact ⟨by rw [← HE.out]; try rfl, HB5.out⟩
            · have e1 : (lo == 1) = false := beq_eq_false_iff_ne.2 hl1
              clear hl1
              go_enter Tryz.func169, Tryz.ntmps169
              go_wp2_with (first | (go_at_call 181; refine (HS.out _).mono ?_; rintro e w5 ⟨rfl, hb5⟩; have HB5 := Lib.hid hb5; clear hb5))
              go_ret
              exact ⟨by rw [← HE.out]; try rfl, HB5.out⟩
        · have HC := Lib.hid (show countB lo hi = [123] ++ numB lo ++ [44] ++ numB hi ++ [125] from by
            unfold countB; rw [if_neg (by omega), if_neg (by omega), if_neg (by omega), if_neg (by omega), if_neg he, if_neg hm])
          have HT := Lib.hid (fun w => rshow_b hi w (by omega) (by omega))
          have hn2 : (⟨(numB hi).toArray⟩ : ByteArray).size ≤ 21 := Lib.itoa_length_le hi (by omega) (by omega)
          have HE := Lib.hid (show (⟨#[123]⟩ ++ (⟨(numB lo).toArray⟩ : ByteArray) ++ ⟨#[44]⟩ ++ (⟨(numB hi).toArray⟩ : ByteArray) ++ ⟨#[125]⟩ : ByteArray) = ⟨(countB lo hi).toArray⟩ from by
            rw [HC.out]; exact ByteArray.ext (by simp))
          generalize (⟨(numB lo).toArray⟩ : ByteArray) = s at *
          generalize (⟨(numB hi).toArray⟩ : ByteArray) = s2 at *
          generalize countB lo hi = C at *
          have e4 : (lo == hi) = false := beq_eq_false_iff_ne.2 (fun h => he h.symm)
          have hb1 : ¬ 9223372036854775807 < 1 + s.size := by omega
          have hb2 : ¬ 9223372036854775807 < 1 + s.size + 1 := by omega
          have hb3 : ¬ 9223372036854775807 < 1 + s.size + 1 + s2.size := by omega
          have hb4 : ¬ 9223372036854775807 < 1 + s.size + 1 + s2.size + 1 := by omega
          clear h1 h2 h3 he
          by_cases hl0 : lo = 0
          · have e0 : (lo == 0) = true := by rw [hl0]; rfl
            have e5 : (hi == 1) = false := beq_eq_false_iff_ne.2 (fun h => h01 ⟨hl0, h⟩)
            have e1 : (lo == 1) = false := beq_eq_false_iff_ne.2 (by omega)
            clear h01 hl0 hm
            go_enter Tryz.func169, Tryz.ntmps169
            go_wp2_with (first | (go_at_call 181; (with_reducible refine (HS.out _).mono ?_); rintro e w5 ⟨rfl, hb5⟩; have HB5 := Lib.hid hb5; clear hb5) | (go_at_call 181; (with_reducible refine (HT.out _).mono ?_); rintro e w6 ⟨rfl, hb6⟩; have HB6 := Lib.hid (HB5.out.trans (hb6.mono HB5.out.size)); clear hb6))
            go_ret
            exact ⟨by rw [← HE.out]; try rfl, HB6.out⟩
          · have e0 : (lo == 0) = false := beq_eq_false_iff_ne.2 hl0
            clear h01 hl0 hm
            by_cases hl1 : lo = 1
            · have e1 : (lo == 1) = true := by rw [hl1]; rfl
              clear hl1
              go_enter Tryz.func169, Tryz.ntmps169
              go_wp2_with (first | (go_at_call 181; (with_reducible refine (HS.out _).mono ?_); rintro e w5 ⟨rfl, hb5⟩; have HB5 := Lib.hid hb5; clear hb5) | (go_at_call 181; (with_reducible refine (HT.out _).mono ?_); rintro e w6 ⟨rfl, hb6⟩; have HB6 := Lib.hid (HB5.out.trans (hb6.mono HB5.out.size)); clear hb6))
              go_ret
              exact ⟨by rw [← HE.out]; try rfl, HB6.out⟩
            · have e1 : (lo == 1) = false := beq_eq_false_iff_ne.2 hl1
              clear hl1
              go_enter Tryz.func169, Tryz.ntmps169
              go_wp2_with (first | (go_at_call 181; (with_reducible refine (HS.out _).mono ?_); rintro e w5 ⟨rfl, hb5⟩; have HB5 := Lib.hid hb5; clear hb5) | (go_at_call 181; (with_reducible refine (HT.out _).mono ?_); rintro e w6 ⟨rfl, hb6⟩; have HB6 := Lib.hid (HB5.out.trans (hb6.mono HB5.out.size)); clear hb6))
              go_ret
              exact ⟨by rw [← HE.out]; try rfl, HB6.out⟩
  · have HC := Lib.hid (show countB lo hi = [] from by unfold countB; rw [if_pos hP])
    generalize countB lo hi = C at *
    by_cases h1 : lo < 0
    · clear hP
      go_enter Tryz.func169, Tryz.ntmps169
      go_wp2_with fail
      go_ret
      exact ⟨by rw [HC.out]; try rfl, Below.refl _ _⟩
    by_cases h2 : 99 < lo
    · clear hP
      go_enter Tryz.func169, Tryz.ntmps169
      go_wp2_with fail
      go_ret
      exact ⟨by rw [HC.out]; try rfl, Below.refl _ _⟩
    have hne : ¬ hi = -1 := fun h => hP ⟨by omega, by omega, .inl h⟩
    have e3 : (hi == -1) = false := beq_eq_false_iff_ne.2 hne
    by_cases h3 : hi < lo
    · clear hP
      go_enter Tryz.func169, Tryz.ntmps169
      go_wp2_with fail
      go_ret
      exact ⟨by rw [HC.out]; try rfl, Below.refl _ _⟩
    · have h4 : 99 < hi := by
        omega
      clear hP
      go_enter Tryz.func169, Tryz.ntmps169
      go_wp2_with fail
      go_ret
      exact ⟨by rw [HC.out]; try rfl, Below.refl _ _⟩
end Go.Proofs.YtmjkgnknfgoadaaGreatDoor
