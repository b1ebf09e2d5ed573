/- The contract of bonsairef03's Unclass. -/
import Derived.Test.YtidcoldoalimfaaMe
import Derived.Test.YtidcoldoalimfaaMc
import Derived.Test.YtidcoldoalimfaaLp
import Derived.Deep.DeepCutAuto
import Derived.Deep.Cut
import Derived.Deep.CutRange
namespace Go.Proofs.Ytidcoldoalimfaa
open Go.RowKit
set_option linter.unusedSimpArgs false
set_option linter.unusedVariables false

def UcPost (t : List UInt8) (w : World) (e : Ending) (w' : World) : Prop :=
  e = .returned (.tuple #[setV (unclsR t).1, .int .i64 ((unclsR t).2.1 : Int), .int .i64 ((unclsR t).2.2 : Int)]) ∧ Below w.heap.size w w'
theorem UcPost.of {t : List UInt8} {w w' : World} {f : Nat → Bool} {p k : Nat} {e : Ending} {z y : Int} (h : unclsR t = (f, p, k)) (hz : z = (p : Int)) (hy : y = (k : Int)) (he : e = .returned (.tuple #[setV f, .int .i64 z, .int .i64 y])) (hb : Below w.heap.size w w') : UcPost t w e w' := by
  subst hz hy
  unfold UcPost
  rw [h]
  exact ⟨he, hb⟩
theorem setV_none : setV (fun _ => false) = .agg #[.int .u64 0, .int .u64 0, .int .u64 0, .int .u64 0] := by
  rw [setV_eq, wordF_none, wordF_none, wordF_none, wordF_none]; rfl
theorem uc_no {t : List UInt8} {p k : Nat} (hc : t[0]? = some 91) (h : (GN t (butA t)).2 = (p, k)) (hk : k ≠ 0) : unclsR t = (fun _ => false, p, k) := by
  rw [unclsR_of hc, h]
  simp only
  rw [if_pos hk]
theorem uc_yes {t : List UInt8} {rs : List (UInt8 × UInt8)} {a : Nat} (hc : t[0]? = some 91) (h : GN t (butA t) = (rs, a, 0)) : unclsR t = (fun k => xor (butB t) (inRanges rs k), a + 1, 0) := by
  rw [unclsR_of hc, h]
  simp only
  rw [if_neg (by simp)]
abbrev zeroW (W : World) (B : Nat) : World := (((W.setCell ⟨B, 0, none⟩ (.int .u64 0)).setCell ⟨B, 1, none⟩ (.int .u64 0)).setCell ⟨B, 2, none⟩ (.int .u64 0)).setCell ⟨B, 3, none⟩ (.int .u64 0)
theorem zero_put {W : World} {B : Nat} (h : W.heap[B]? = some (.cells (fourC 0 0 0 0) 33 (0, 0))) : (zeroW W B).heap[B]? = some (.cells (fourC 0 0 0 0) 33 (0, 0)) := four_put h 0 0 0 0
theorem zero_below {W w : World} {n B : Nat} (h : Below n w W) (hB : n ≤ B) : Below n w (zeroW W B) := four_below h hB 0 0 0 0
def UCRel (w : World) (t : ByteArray) (i : Value) (wr : World) : Prop :=
  ∃ (a : Nat) (rs : List (UInt8 × UInt8)), a ≤ t.size ∧ 1 ≤ a ∧ i = .int .i64 (a : Int) ∧ Hid (GN t.data.toList (butA t.data.toList) = (rs ++ (GN t.data.toList a).1, (GN t.data.toList a).2)) ∧
    Hid (wr.heap[w.heap.size + 1]? = some (.cells (fourC (wordF (inRanges rs) 0) (wordF (inRanges rs) 1) (wordF (inRanges rs) 2) (wordF (inRanges rs) 3)) 33 (0, 0))) ∧
    Hid (wr.heap[w.heap.size]? = some (.cells (fourC 0 0 0 0) 33 (0, 0))) ∧ Hid (Below w.heap.size w wr)
theorem ror_at (rs : List (UInt8 × UInt8)) (a b : UInt8) (w : World) : Calls Try.prog 33 #[.agg (fourC (wordF (inRanges rs) 0) (wordF (inRanges rs) 1) (wordF (inRanges rs) 2) (wordF (inRanges rs) 3)), .agg (fourC (wordF (rngF a.toNat b.toNat) 0) (wordF (rngF a.toNat b.toNat) 1) (wordF (rngF a.toNat b.toNat) 2) (wordF (rngF a.toNat b.toNat) 3))] w
    fun e w' => e = .returned (.agg (fourC (wordF (inRanges (rs ++ [(a, b)])) 0) (wordF (inRanges (rs ++ [(a, b)])) 1) (wordF (inRanges (rs ++ [(a, b)])) 2) (wordF (inRanges (rs ++ [(a, b)])) 3))) ∧ Below w.heap.size w w' :=
  (ror_any (inRanges rs) (rngF a.toNat b.toNat) w).mono fun e w' hp => ⟨hp.1.trans (by rw [inRanges_snoc, setV_eq]), hp.2⟩
theorem rrange_of (a b : UInt8) (w : World) : Calls Try.prog 34 #[.int .u8 (a.toNat : Int), .int .u8 (b.toNat : Int)] w fun e w' => e = .returned (.agg (fourC (wordF (rngF a.toNat b.toNat) 0) (wordF (rngF a.toNat b.toNat) 1) (wordF (rngF a.toNat b.toNat) 2) (wordF (rngF a.toNat b.toNat) 3))) ∧ Below w.heap.size w w' := rrange_any a b w
theorem rnot_at (f : Nat → Bool) (w : World) : Calls Try.prog 35 #[.agg (fourC (wordF f 0) (wordF f 1) (wordF f 2) (wordF f 3))] w fun e w' => e = .returned (.agg (fourC (wordF (fun k => !f k) 0) (wordF (fun k => !f k) 1) (wordF (fun k => !f k) 2) (wordF (fun k => !f k) 3))) ∧ Below w.heap.size w w' := rnot_any f w
set_option maxRecDepth 100000 in
set_option maxHeartbeats 2000000 in
theorem ruclass_any (t : ByteArray) (w : World) (hs : t.size ≤ 1000000) : Calls Try.prog 22 #[.string t] w (UcPost t.data.toList w) := by
  have HZ := Lib.hid (sz_data t)
  have HSN := Lib.hid setV_none
  have HR0 := Lib.hid (bx_new w (.cells (fourC 0 0 0 0) 33))
  have HB0 := Lib.hid (bx1 w (.cells (fourC 0 0 0 0) 33))
  by_cases h0 : t.size = 0
  · have HN := Lib.hid (show unclsR t.data.toList = (fun _ => false, 0, 8) from by unfold unclsR; rw [List.getElem?_eq_none (by have := HZ.out; omega)])
    have he : t = ⟨#[]⟩ := by
      have : t.data.size = 0 := h0
      cases t; simp at this; subst this; rfl
    subst he
    obtain ⟨d0, d1, d2, d3, df⟩ := blk4 HR0.out
    have g0 := df 0; have g1 := df 1; have g2 := df 2; have g3 := df 3
    clear df
    go_enter Try.func22, Try.ntmps22
    go_wp2_with fail
    exact bodyPost_ret (v := .tuple #[.agg (fourC 0 0 0 0), .int .i64 0, .int .i64 8]) (by simp [results, Try.results22, go_sem, d0, d1, d2, d3]) rfl (UcPost.of HN.out rfl rfl (by rw [HSN.out]; rfl) HB0.out)
  have hpos : 0 < t.size := by omega
  have ⟨e1, e2⟩ := bytes_ne t hpos
  have HA := Lib.hid (Lib.data_getElem? t 0 hpos)
  by_cases hc : t[0] = 91
  · have i1 : ((t[0].toNat : Int) != 91) = false := by rw [hc]; rfl
    rw [hc] at HA
    obtain ⟨bt, hbt⟩ : ∃ bt, butB t.data.toList = bt := ⟨_, rfl⟩
    have HBT := Lib.hid hbt
    have HBA := Lib.hid (show butA t.data.toList = if bt = true then 2 else 1 from by unfold butA; rw [hbt])
    have hbl := butA_le HA.out
    clear hbt
    go_enter Try.func22, Try.ntmps22
    go_upto_region 7 with fail
    have HO1 := Lib.hid (bx_new (w.alloc (.cells (fourC 0 0 0 0) 33)) (.cells (fourC 0 0 0 0) 33))
    rw [World.size_alloc] at HO1
    have HR1 := Lib.hid (bx_old (p := .cells (fourC 0 0 0 0) 33) HR0.out)
    have HB1 := Lib.hid (bx2 w (.cells (fourC 0 0 0 0) 33) (.cells (fourC 0 0 0 0) 33))
    generalize ((w.alloc (.cells (fourC 0 0 0 0) 33)).alloc (.cells (fourC 0 0 0 0) 33)) = W at *
    clear i1 e1 e2
    go_cut [27] (fun v wx => v = .bool bt ∧ Hid (wx = W))
    case first =>
      by_cases h1 : 1 < t.size
      · have k1 : (1 : Int) < (t.size : Int) := by omega
        have HE := Lib.hid (Lib.data_getElem? t 1 h1)
        by_cases h94 : t[1] = 94
        · have k2 : ((t[1].toNat : Int) == 94) = true := by rw [h94]; rfl
          have HQ := Lib.hid (show bt = true from by rw [← HBT.out]; unfold butB; rw [HE.out, h94]; rfl)
          clear h94
          go_wp2_with fail
          go_meet
          exact ⟨by rw [HQ.out], Lib.hid rfl⟩
        · have k2 : ((t[1].toNat : Int) == 94) = false := (eqB t[1] 94 (by decide)).trans (decide_eq_false h94)
          have HQ := Lib.hid (show bt = false from by rw [← HBT.out]; unfold butB; rw [HE.out]; exact decide_eq_false (fun h => h94 (Option.some.inj h)))
          clear h94
          go_wp2_with fail
          go_meet
          exact ⟨by rw [HQ.out], Lib.hid rfl⟩
      · have k1 : ¬ (1 : Int) < (t.size : Int) := by omega
        have HQ := Lib.hid (show bt = false from by rw [← HBT.out]; unfold butB; rw [List.getElem?_eq_none (by have := HZ.out; omega)]; rfl)
        go_wp2_with fail
        go_meet
        exact ⟨by rw [HQ.out], Lib.hid rfl⟩
    case rest =>
      obtain ⟨rfl, hx⟩ := hcut
      obtain rfl := hx.out
      clear hx
      go_upto_if 27 with (fail)
      go_cut [6] (fun v wx => v = .int .i64 (butA t.data.toList : Int) ∧ Hid (wx = wc))
      case first =>
        cases bt
        · have HQ := Lib.hid (show butA t.data.toList = 1 from by rw [HBA.out]; rfl)
          go_wp2_with fail
          go_meet
          exact ⟨by rw [HQ.out]; rfl, Lib.hid rfl⟩
        · have HQ := Lib.hid (show butA t.data.toList = 2 from by rw [HBA.out]; rfl)
          go_wp2_with fail
          go_meet
          exact ⟨by rw [HQ.out]; rfl, Lib.hid rfl⟩
      case rest =>
        obtain ⟨rfl, hx⟩ := hcut
        obtain rfl := hx.out
        clear hx
        go_wp2_with fail
        go_loopw [6] (fun i wr => UCRel w t i wr) (fun i _ => t.size - (intOf i).toNat)
        case atStart =>
          refine ⟨butA t.data.toList, [], by have := HZ.out; omega, hbl.1, rfl, Lib.hid rfl, Lib.hid ?_, HR1, HB1⟩
          have e : inRanges [] = fun _ => false := by funext k; rfl
          rw [e, wordF_none, wordF_none, wordF_none, wordF_none]; exact HO1.out
        case round =>
          clear HO1 HR1 HB1
          obtain ⟨a, rs, ha, ha1, rfl, HGN, HO, HR, HB⟩ := hrel
          by_cases hlt : a < t.size
          · have k1 : (a : Int) < (t.size : Int) := by omega
            have k0 : (0 : Int) ≤ (a : Int) := by omega
            have HE := Lib.hid (Lib.data_getElem? t a hlt)
            obtain ⟨x, hx⟩ : ∃ x, t[a] = x := ⟨_, rfl⟩
            rw [hx] at HE
            by_cases hq : x = 93
            · subst hq
              have k2 : (((93 : UInt8).toNat : Int) != 93) = false := rfl
              have HF := Lib.hid (uc_yes HA.out (show GN t.data.toList (butA t.data.toList) = (rs, a, 0) from by rw [HGN.out, GN_end HE.out, List.append_nil]))
              have q1 : 1 < t.size := by omega
              have HE1 := Lib.hid (Lib.data_getElem? t 1 q1)
              have q2 : (1 : Int) < (t.size : Int) := by omega
              cases bt
              · have HF2 := Lib.hid (show unclsR t.data.toList = (inRanges rs, a + 1, 0) from by rw [HF.out, HBT.out]; simp)
                have q3 : ((t[1].toNat : Int) == 94) = false := (eqB t[1] 94 (by decide)).trans (decide_eq_false fun h => by have := HBT.out; unfold butB at this; rw [HE1.out, h] at this; simp at this)
                have HRz := HR; have HBz := HB
                obtain ⟨b0, b1, b2, b3, _⟩ := blk4 HO.out
                obtain ⟨d0, d1, d2, d3, df⟩ := blk4 HR.out
                have g0 := df 0; have g1 := df 1; have g2 := df 2; have g3 := df 3
                clear df
                go_wp2_with fail
                obtain ⟨s0, s1, s2, s3, _⟩ := blk4 (four_put HRz.out (wordF (inRanges rs) 0) (wordF (inRanges rs) 1) (wordF (inRanges rs) 2) (wordF (inRanges rs) 3))
                exact bodyPost_ret (v := .tuple #[.agg (fourC (wordF (inRanges rs) 0) (wordF (inRanges rs) 1) (wordF (inRanges rs) 2) (wordF (inRanges rs) 3)), .int .i64 ((a : Int) + 1), .int .i64 0]) (by simp [results, Try.results22, go_sem, s0, s1, s2, s3]) rfl (UcPost.of (z := (a : Int) + 1) (y := 0) HF2.out (by omega) rfl (by rw [setV_eq]) (four_below HBz.out (Nat.le_refl _) _ _ _ _))
              · have HF2 := Lib.hid (show unclsR t.data.toList = ((fun k => !inRanges rs k), a + 1, 0) from by rw [HF.out, HBT.out]; simp)
                have q3 : ((t[1].toNat : Int) == 94) = true := (eqB t[1] 94 (by decide)).trans (decide_eq_true (by have := HBT.out; unfold butB at this; rw [HE1.out] at this; exact Option.some.inj (of_decide_eq_true this)))
                obtain ⟨b0, b1, b2, b3, _⟩ := blk4 HO.out
                have HNT := Lib.hid (rnot_at (inRanges rs))
                go_upto_region 24 with (first | (go_at_call 35; (with_reducible refine (HNT.out _).mono ?_); rintro e w1 ⟨rfl, hb⟩; have HB1 := Lib.hid (Below.step HB.out hb); have HO1 := Lib.hid (bx_kept hb HO.out); have HR1 := Lib.hid (bx_kept hb HR.out); obtain ⟨u0, u1, u2, u3, uf⟩ := blk4 HO1.out; have v0 := uf 0; have v1 := uf 1; have v2 := uf 2; have v3 := uf 3; clear hb uf) | fail)
                have HO2 := Lib.hid (four_put HO1.out (wordF (fun k => !inRanges rs k) 0) (wordF (fun k => !inRanges rs k) 1) (wordF (fun k => !inRanges rs k) 2) (wordF (fun k => !inRanges rs k) 3))
                have HRz := Lib.hid ((four_else (show w.heap.size ≠ w.heap.size + 1 by omega) (wordF (fun k => !inRanges rs k) 0) (wordF (fun k => !inRanges rs k) 1) (wordF (fun k => !inRanges rs k) 2) (wordF (fun k => !inRanges rs k) 3)).trans HR1.out)
                have HBz := Lib.hid (four_below HB1.out (show w.heap.size ≤ w.heap.size + 1 by omega) (wordF (fun k => !inRanges rs k) 0) (wordF (fun k => !inRanges rs k) 1) (wordF (fun k => !inRanges rs k) 2) (wordF (fun k => !inRanges rs k) 3))
                clear u0 u1 u2 u3 v0 v1 v2 v3 b0 b1 b2 b3
                generalize ((((w1.setCell ⟨w.heap.size + 1, 0, none⟩ (.int .u64 (wordF (fun k => !inRanges rs k) 0 : Int))).setCell ⟨w.heap.size + 1, 1, none⟩ (.int .u64 (wordF (fun k => !inRanges rs k) 1 : Int))).setCell ⟨w.heap.size + 1, 2, none⟩ (.int .u64 (wordF (fun k => !inRanges rs k) 2 : Int))).setCell ⟨w.heap.size + 1, 3, none⟩ (.int .u64 (wordF (fun k => !inRanges rs k) 3 : Int))) = w2 at *
                obtain ⟨u0, u1, u2, u3, _⟩ := blk4 HO2.out
                obtain ⟨d0, d1, d2, d3, df⟩ := blk4 HRz.out
                have g0 := df 0; have g1 := df 1; have g2 := df 2; have g3 := df 3
                clear df
                go_wp2_with fail
                obtain ⟨s0, s1, s2, s3, _⟩ := blk4 (four_put HRz.out (wordF (fun k => !inRanges rs k) 0) (wordF (fun k => !inRanges rs k) 1) (wordF (fun k => !inRanges rs k) 2) (wordF (fun k => !inRanges rs k) 3))
                exact bodyPost_ret (v := .tuple #[.agg (fourC (wordF (fun k => !inRanges rs k) 0) (wordF (fun k => !inRanges rs k) 1) (wordF (fun k => !inRanges rs k) 2) (wordF (fun k => !inRanges rs k) 3)), .int .i64 ((a : Int) + 1), .int .i64 0]) (by simp [results, Try.results22, go_sem, s0, s1, s2, s3]) rfl (UcPost.of (z := (a : Int) + 1) (y := 0) HF2.out (by omega) rfl (by rw [setV_eq]) (four_below HBz.out (Nat.le_refl _) _ _ _ _))
            · have k2 : ((x.toNat : Int) != 93) = true := neB x 93 (by decide) hq
              have HSG := Lib.hid (fun w' => rsign_any t ⟨#[93, 45, 94, 92]⟩ clsL a w' (.inr rfl) rfl hs (by omega))
              have hne93 : t.data.toList[a]? ≠ some 93 := by rw [HE.out]; simpa using hq
              have HSH := HSG
              cases hsg : signR clsL t.data.toList a with
              | no p k =>
                have HK := Lib.hid (show k ≠ 0 from by rcases signR_no hsg with h | h <;> omega)
                have k3 : ((k : Int) == 0) = false := by have := HK.out; simp; omega
                have HF := Lib.hid (uc_no HA.out (show (GN t.data.toList (butA t.data.toList)).2 = (p, k) from by rw [HGN.out, GN_no (by have := HZ.out; omega) hne93 hsg]) HK.out)
                rw [hsg] at HSG
                clear hsg hne93
                obtain ⟨d0, d1, d2, d3, df⟩ := blk4 HR.out
                have g0 := df 0; have g1 := df 1; have g2 := df 2; have g3 := df 3
                clear df
                go_wp2_with (first | (go_at_call 32; (with_reducible refine (HSG.out _).mono ?_); rintro e w' ⟨rfl, rfl⟩; simp only [sgRV]) | (go_at_call 32; (with_reducible refine (HSH.out _).mono ?_); rintro e w' ⟨rfl, rfl⟩; simp only [sgRV]) | fail)
                have HS := Lib.hid (zero_put HR.out)
                have HBS := Lib.hid (zero_below HB.out (Nat.le_refl _))
                clear d0 d1 d2 d3 g0 g1 g2 g3
                unfold zeroW at HS HBS
                generalize ((((wr.setCell ⟨w.heap.size, 0, none⟩ (.int .u64 0)).setCell ⟨w.heap.size, 1, none⟩ (.int .u64 0)).setCell ⟨w.heap.size, 2, none⟩ (.int .u64 0)).setCell ⟨w.heap.size, 3, none⟩ (.int .u64 0)) = wz at *
                obtain ⟨s0, s1, s2, s3, _⟩ := blk4 HS.out
                exact bodyPost_ret (v := .tuple #[.agg (fourC 0 0 0 0), .int .i64 (p : Int), .int .i64 (k : Int)]) (by simp [results, Try.results22, go_sem, s0, s1, s2, s3]) rfl (UcPost.of HF.out rfl rfl (by rw [HSN.out]; rfl) HBS.out)
              | ok b n =>
                have hn := signR_ok hsg
                rw [hsg] at HSG
                by_cases hd : t.data.toList[n]? = some 45
                · have hnl := (List.getElem?_eq_some_iff.1 hd).1
                  have hnl2 : n < t.size := by have := HZ.out; omega
                  have m1 : (n : Int) < (t.size : Int) := by omega
                  have m0 : (0 : Int) ≤ (n : Int) := by omega
                  have hx2 : t[n] = 45 := by have := Lib.data_getElem? t n hnl2; rw [hd] at this; exact (Option.some.inj this).symm
                  have m2 : ((t[n].toNat : Int) == 45) = true := by rw [hx2]; rfl
                  have HSH := Lib.hid (fun w' => rsign_any t ⟨#[93, 45, 94, 92]⟩ clsL (n + 1) w' (.inr rfl) rfl hs (by omega))
                  have HN1 := Lib.hid (show ((n + 1 : Nat) : Int) = (n : Int) + 1 from by omega)
                  rw [HN1.out] at HSH
                  cases hsh : signR clsL t.data.toList (n + 1) with
                  | no p k =>
                    have HK := Lib.hid (show k ≠ 0 from by rcases signR_no hsh with h | h <;> omega)
                    have k3 : ((k : Int) == 0) = false := by have := HK.out; simp; omega
                    have HF := Lib.hid (uc_no HA.out (show (GN t.data.toList (butA t.data.toList)).2 = (p, k) from by rw [HGN.out, GN_high (by have := HZ.out; omega) hne93 hsg (by unfold highR; rw [if_pos hd, hsh])]) HK.out)
                    rw [hsh] at HSH
                    clear hsg hne93 hsh hd hx2
                    obtain ⟨d0, d1, d2, d3, df⟩ := blk4 HR.out
                    have g0 := df 0; have g1 := df 1; have g2 := df 2; have g3 := df 3
                    clear df
                    go_wp2_with (first | (go_at_call 32; (with_reducible refine (HSG.out _).mono ?_); rintro e w' ⟨rfl, rfl⟩; simp only [sgRV]) | (go_at_call 32; (with_reducible refine (HSH.out _).mono ?_); rintro e w' ⟨rfl, rfl⟩; simp only [sgRV]) | fail)
                    have HS := Lib.hid (zero_put HR.out)
                    have HBS := Lib.hid (zero_below HB.out (Nat.le_refl _))
                    clear d0 d1 d2 d3 g0 g1 g2 g3
                    unfold zeroW at HS HBS
                    generalize ((((wr.setCell ⟨w.heap.size, 0, none⟩ (.int .u64 0)).setCell ⟨w.heap.size, 1, none⟩ (.int .u64 0)).setCell ⟨w.heap.size, 2, none⟩ (.int .u64 0)).setCell ⟨w.heap.size, 3, none⟩ (.int .u64 0)) = wz at *
                    obtain ⟨s0, s1, s2, s3, _⟩ := blk4 HS.out
                    exact bodyPost_ret (v := .tuple #[.agg (fourC 0 0 0 0), .int .i64 (p : Int), .int .i64 (k : Int)]) (by simp [results, Try.results22, go_sem, s0, s1, s2, s3]) rfl (UcPost.of HF.out rfl rfl (by rw [HSN.out]; rfl) HBS.out)
                  | ok c m =>
                    have hm := signR_ok hsh
                    have hh : highR t.data.toList b n = .ok c m := by unfold highR; rw [if_pos hd, hsh]
                    rw [hsh] at HSH
                    by_cases hl : c.toNat < b.toNat
                    · have k4 : (c.toNat : Int) < (b.toNat : Int) := by omega
                      have HF := Lib.hid (uc_no HA.out (show (GN t.data.toList (butA t.data.toList)).2 = (a, 4) from by rw [HGN.out, GN_less (by have := HZ.out; omega) hne93 hsg hh hl]) (by decide))
                      clear hsg hne93 hsh hd hx2 hh
                      obtain ⟨d0, d1, d2, d3, df⟩ := blk4 HR.out
                      have g0 := df 0; have g1 := df 1; have g2 := df 2; have g3 := df 3
                      clear df
                      go_wp2_with (first | (go_at_call 32; (with_reducible refine (HSG.out _).mono ?_); rintro e w' ⟨rfl, rfl⟩; simp only [sgRV]) | (go_at_call 32; (with_reducible refine (HSH.out _).mono ?_); rintro e w' ⟨rfl, rfl⟩; simp only [sgRV]) | fail)
                      have HS := Lib.hid (zero_put HR.out)
                      have HBS := Lib.hid (zero_below HB.out (Nat.le_refl _))
                      clear d0 d1 d2 d3 g0 g1 g2 g3
                      unfold zeroW at HS HBS
                      generalize ((((wr.setCell ⟨w.heap.size, 0, none⟩ (.int .u64 0)).setCell ⟨w.heap.size, 1, none⟩ (.int .u64 0)).setCell ⟨w.heap.size, 2, none⟩ (.int .u64 0)).setCell ⟨w.heap.size, 3, none⟩ (.int .u64 0)) = wz at *
                      obtain ⟨s0, s1, s2, s3, _⟩ := blk4 HS.out
                      exact bodyPost_ret (v := .tuple #[.agg (fourC 0 0 0 0), .int .i64 (a : Int), .int .i64 4]) (by simp [results, Try.results22, go_sem, s0, s1, s2, s3]) rfl (UcPost.of HF.out rfl rfl (by rw [HSN.out]; rfl) HBS.out)
                    have k4 : ¬ (c.toNat : Int) < (b.toNat : Int) := by omega
                    have HF := Lib.hid (show GN t.data.toList (butA t.data.toList) = ((rs ++ [(b, c)]) ++ (GN t.data.toList m).1, (GN t.data.toList m).2) from by rw [HGN.out, GN_ok hne93 hsg hh hl, List.append_assoc]; rfl)
                    clear hsg hne93 hsh hd hx2 hh
                    have HRG := Lib.hid (rrange_of b c)
                    have HOR := Lib.hid (ror_at rs b c)
                    obtain ⟨y0, y1, y2, y3, _⟩ := blk4 HO.out
                    go_upto_region 18 with (first | (go_at_call 32; (with_reducible refine (HSG.out _).mono ?_); rintro e w' ⟨rfl, rfl⟩; simp only [sgRV]) | (go_at_call 32; (with_reducible refine (HSH.out _).mono ?_); rintro e w' ⟨rfl, rfl⟩; simp only [sgRV]) | fail)
                    have c0 : wr.drew.cell? ⟨w.heap.size + 1, 0, none⟩ = _ := y0
                    have c1 : wr.drew.cell? ⟨w.heap.size + 1, 1, none⟩ = _ := y1
                    have c2 : wr.drew.cell? ⟨w.heap.size + 1, 2, none⟩ = _ := y2
                    have c3 : wr.drew.cell? ⟨w.heap.size + 1, 3, none⟩ = _ := y3
                    go_region_law (first
                      | (go_simp; go_at_call 34; (with_reducible refine (HRG.out _).mono ?_); rintro e w1 ⟨rfl, hb⟩; have HB1 := Lib.hid (HB.out.drew.trans (hb.mono (HB.out.drew).size)); have HO1 := Lib.hid (bx_kept hb (show wr.drew.heap[w.heap.size + 1]? = _ from HO.out)); have HR1 := Lib.hid (bx_kept hb (show wr.drew.heap[w.heap.size]? = _ from HR.out)); obtain ⟨e0, e1, e2, e3, _⟩ := blk4 HO1.out; clear hb)
                      | (go_simp; go_at_call 33; (with_reducible refine (HOR.out _).mono ?_); rintro e w2 ⟨rfl, hb⟩; have HB2 := Lib.hid (Below.step HB1.out hb); have HR2 := Lib.hid (bx_kept hb HR1.out); have HO2 := Lib.hid (bx_kept hb HO1.out); obtain ⟨d0, d1, d2, d3, df⟩ := blk4 HO2.out; have g0 := df 0; have g1 := df 1; have g2 := df 2; have g3 := df 3; clear hb df)
                      | fail)
                    all_goals
                      have HS := Lib.hid (four_put HO2.out (wordF (inRanges (rs ++ [(b, c)])) 0) (wordF (inRanges (rs ++ [(b, c)])) 1) (wordF (inRanges (rs ++ [(b, c)])) 2) (wordF (inRanges (rs ++ [(b, c)])) 3))
                      have HRS := Lib.hid ((four_else (show w.heap.size ≠ w.heap.size + 1 by omega) (wordF (inRanges (rs ++ [(b, c)])) 0) (wordF (inRanges (rs ++ [(b, c)])) 1) (wordF (inRanges (rs ++ [(b, c)])) 2) (wordF (inRanges (rs ++ [(b, c)])) 3)).trans HR2.out)
                      have HBS := Lib.hid (four_below HB2.out (show w.heap.size ≤ w.heap.size + 1 by omega) (wordF (inRanges (rs ++ [(b, c)])) 0) (wordF (inRanges (rs ++ [(b, c)])) 1) (wordF (inRanges (rs ++ [(b, c)])) 2) (wordF (inRanges (rs ++ [(b, c)])) 3))
                      go_wp2_with fail
                      exact ⟨⟨m, rs ++ [(b, c)], by have := HZ.out; omega, by omega, rfl, HF, HS, HRS, HBS⟩, by simp only [intOf]; have := HZ.out; omega⟩
                · have hh : highR t.data.toList b n = .ok b n := by unfold highR; rw [if_neg hd]
                  have k4 : ¬ (b.toNat : Int) < (b.toNat : Int) := by omega
                  have HF := Lib.hid (show GN t.data.toList (butA t.data.toList) = ((rs ++ [(b, b)]) ++ (GN t.data.toList n).1, (GN t.data.toList n).2) from by rw [HGN.out, GN_ok hne93 hsg hh (by omega), List.append_assoc]; rfl)
                  by_cases hnl2 : n < t.size
                  · have m1 : (n : Int) < (t.size : Int) := by omega
                    have m0 : (0 : Int) ≤ (n : Int) := by omega
                    have m2 : ((t[n].toNat : Int) == 45) = false := (eqB t[n] 45 (by decide)).trans (decide_eq_false fun h => hd (by rw [Lib.data_getElem? t n hnl2, h]; rfl))
                    clear hsg hne93 hd hh
                    have HRG := Lib.hid (rrange_of b b)
                    have HOR := Lib.hid (ror_at rs b b)
                    obtain ⟨y0, y1, y2, y3, _⟩ := blk4 HO.out
                    go_upto_region 18 with (first | (go_at_call 32; (with_reducible refine (HSG.out _).mono ?_); rintro e w' ⟨rfl, rfl⟩; simp only [sgRV]) | (go_at_call 32; (with_reducible refine (HSH.out _).mono ?_); rintro e w' ⟨rfl, rfl⟩; simp only [sgRV]) | fail)
                    have c0 : wr.drew.cell? ⟨w.heap.size + 1, 0, none⟩ = _ := y0
                    have c1 : wr.drew.cell? ⟨w.heap.size + 1, 1, none⟩ = _ := y1
                    have c2 : wr.drew.cell? ⟨w.heap.size + 1, 2, none⟩ = _ := y2
                    have c3 : wr.drew.cell? ⟨w.heap.size + 1, 3, none⟩ = _ := y3
                    go_region_law (first
                      | (go_simp; go_at_call 34; (with_reducible refine (HRG.out _).mono ?_); rintro e w1 ⟨rfl, hb⟩; have HB1 := Lib.hid (HB.out.drew.trans (hb.mono (HB.out.drew).size)); have HO1 := Lib.hid (bx_kept hb (show wr.drew.heap[w.heap.size + 1]? = _ from HO.out)); have HR1 := Lib.hid (bx_kept hb (show wr.drew.heap[w.heap.size]? = _ from HR.out)); obtain ⟨e0, e1, e2, e3, _⟩ := blk4 HO1.out; clear hb)
                      | (go_simp; go_at_call 33; (with_reducible refine (HOR.out _).mono ?_); rintro e w2 ⟨rfl, hb⟩; have HB2 := Lib.hid (Below.step HB1.out hb); have HR2 := Lib.hid (bx_kept hb HR1.out); have HO2 := Lib.hid (bx_kept hb HO1.out); obtain ⟨d0, d1, d2, d3, df⟩ := blk4 HO2.out; have g0 := df 0; have g1 := df 1; have g2 := df 2; have g3 := df 3; clear hb df)
                      | fail)
                    all_goals
                      have HS := Lib.hid (four_put HO2.out (wordF (inRanges (rs ++ [(b, b)])) 0) (wordF (inRanges (rs ++ [(b, b)])) 1) (wordF (inRanges (rs ++ [(b, b)])) 2) (wordF (inRanges (rs ++ [(b, b)])) 3))
                      have HRS := Lib.hid ((four_else (show w.heap.size ≠ w.heap.size + 1 by omega) (wordF (inRanges (rs ++ [(b, b)])) 0) (wordF (inRanges (rs ++ [(b, b)])) 1) (wordF (inRanges (rs ++ [(b, b)])) 2) (wordF (inRanges (rs ++ [(b, b)])) 3)).trans HR2.out)
                      have HBS := Lib.hid (four_below HB2.out (show w.heap.size ≤ w.heap.size + 1 by omega) (wordF (inRanges (rs ++ [(b, b)])) 0) (wordF (inRanges (rs ++ [(b, b)])) 1) (wordF (inRanges (rs ++ [(b, b)])) 2) (wordF (inRanges (rs ++ [(b, b)])) 3))
                      go_wp2_with fail
                      exact ⟨⟨n, rs ++ [(b, b)], by have := HZ.out; omega, by omega, rfl, HF, HS, HRS, HBS⟩, by simp only [intOf]; have := HZ.out; omega⟩
                  · have m1 : ¬ (n : Int) < (t.size : Int) := by omega
                    clear hsg hne93 hd hh
                    have HRG := Lib.hid (rrange_of b b)
                    have HOR := Lib.hid (ror_at rs b b)
                    obtain ⟨y0, y1, y2, y3, _⟩ := blk4 HO.out
                    go_upto_region 18 with (first | (go_at_call 32; (with_reducible refine (HSG.out _).mono ?_); rintro e w' ⟨rfl, rfl⟩; simp only [sgRV]) | (go_at_call 32; (with_reducible refine (HSH.out _).mono ?_); rintro e w' ⟨rfl, rfl⟩; simp only [sgRV]) | fail)
                    have c0 : wr.drew.cell? ⟨w.heap.size + 1, 0, none⟩ = _ := y0
                    have c1 : wr.drew.cell? ⟨w.heap.size + 1, 1, none⟩ = _ := y1
                    have c2 : wr.drew.cell? ⟨w.heap.size + 1, 2, none⟩ = _ := y2
                    have c3 : wr.drew.cell? ⟨w.heap.size + 1, 3, none⟩ = _ := y3
                    go_region_law (first
                      | (go_simp; go_at_call 34; (with_reducible refine (HRG.out _).mono ?_); rintro e w1 ⟨rfl, hb⟩; have HB1 := Lib.hid (HB.out.drew.trans (hb.mono (HB.out.drew).size)); have HO1 := Lib.hid (bx_kept hb (show wr.drew.heap[w.heap.size + 1]? = _ from HO.out)); have HR1 := Lib.hid (bx_kept hb (show wr.drew.heap[w.heap.size]? = _ from HR.out)); obtain ⟨e0, e1, e2, e3, _⟩ := blk4 HO1.out; clear hb)
                      | (go_simp; go_at_call 33; (with_reducible refine (HOR.out _).mono ?_); rintro e w2 ⟨rfl, hb⟩; have HB2 := Lib.hid (Below.step HB1.out hb); have HR2 := Lib.hid (bx_kept hb HR1.out); have HO2 := Lib.hid (bx_kept hb HO1.out); obtain ⟨d0, d1, d2, d3, df⟩ := blk4 HO2.out; have g0 := df 0; have g1 := df 1; have g2 := df 2; have g3 := df 3; clear hb df)
                      | fail)
                    all_goals
                      have HS := Lib.hid (four_put HO2.out (wordF (inRanges (rs ++ [(b, b)])) 0) (wordF (inRanges (rs ++ [(b, b)])) 1) (wordF (inRanges (rs ++ [(b, b)])) 2) (wordF (inRanges (rs ++ [(b, b)])) 3))
                      have HRS := Lib.hid ((four_else (show w.heap.size ≠ w.heap.size + 1 by omega) (wordF (inRanges (rs ++ [(b, b)])) 0) (wordF (inRanges (rs ++ [(b, b)])) 1) (wordF (inRanges (rs ++ [(b, b)])) 2) (wordF (inRanges (rs ++ [(b, b)])) 3)).trans HR2.out)
                      have HBS := Lib.hid (four_below HB2.out (show w.heap.size ≤ w.heap.size + 1 by omega) (wordF (inRanges (rs ++ [(b, b)])) 0) (wordF (inRanges (rs ++ [(b, b)])) 1) (wordF (inRanges (rs ++ [(b, b)])) 2) (wordF (inRanges (rs ++ [(b, b)])) 3))
                      go_wp2_with fail
                      exact ⟨⟨n, rs ++ [(b, b)], by have := HZ.out; omega, by omega, rfl, HF, HS, HRS, HBS⟩, by simp only [intOf]; have := HZ.out; omega⟩
          · obtain rfl : a = t.size := by omega
            have hne : t.data.toList[t.size]? = none := List.getElem?_eq_none (by have := HZ.out; omega)
            have HF := Lib.hid (uc_no HA.out (show (GN t.data.toList (butA t.data.toList)).2 = (t.size, 8) from by rw [HGN.out, GN_no (by have := HZ.out; omega) (by rw [hne]; simp) (sg_none hne)]; simp [HZ.out]) (by decide))
            clear hne
            obtain ⟨d0, d1, d2, d3, df⟩ := blk4 HR.out
            have g0 := df 0; have g1 := df 1; have g2 := df 2; have g3 := df 3
            clear df
            go_wp2_with fail
            have HS := Lib.hid (zero_put HR.out)
            have HBS := Lib.hid (zero_below HB.out (Nat.le_refl _))
            clear d0 d1 d2 d3 g0 g1 g2 g3
            unfold zeroW at HS HBS
            generalize ((((wr.setCell ⟨w.heap.size, 0, none⟩ (.int .u64 0)).setCell ⟨w.heap.size, 1, none⟩ (.int .u64 0)).setCell ⟨w.heap.size, 2, none⟩ (.int .u64 0)).setCell ⟨w.heap.size, 3, none⟩ (.int .u64 0)) = wz at *
            obtain ⟨s0, s1, s2, s3, _⟩ := blk4 HS.out
            exact bodyPost_ret (v := .tuple #[.agg (fourC 0 0 0 0), .int .i64 (t.size : Int), .int .i64 8]) (by simp [results, Try.results22, go_sem, s0, s1, s2, s3]) rfl (UcPost.of HF.out rfl rfl (by rw [HSN.out]; rfl) HBS.out)
  · have i1 : ((t[0].toNat : Int) != 91) = true := neB t[0] 91 (by decide) hc
    have HN := Lib.hid (show unclsR t.data.toList = (fun _ => false, 0, 4) from by unfold unclsR; rw [HA.out]; simp only; rw [if_pos hc])
    obtain ⟨d0, d1, d2, d3, df⟩ := blk4 HR0.out
    have g0 := df 0; have g1 := df 1; have g2 := df 2; have g3 := df 3
    clear df
    go_enter Try.func22, Try.ntmps22
    go_wp2_with fail
    exact bodyPost_ret (v := .tuple #[.agg (fourC 0 0 0 0), .int .i64 0, .int .i64 4]) (by simp [results, Try.results22, go_sem, d0, d1, d2, d3]) rfl (UcPost.of HN.out rfl rfl (by rw [HSN.out]; rfl) HB0.out)
end Go.Proofs.Ytidcoldoalimfaa
