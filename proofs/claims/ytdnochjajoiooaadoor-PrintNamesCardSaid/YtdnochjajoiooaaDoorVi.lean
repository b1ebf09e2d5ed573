/- The walk of PrintNames. -/
import Derived.Test.YtdnochjajoiooaaDoorVu
import Derived.BigQuiet
namespace Go.Proofs.YtdnochjajoiooaaDoor
open Go.RowKit
set_option linter.unusedSimpArgs false
set_option linter.unusedVariables false

def cntTab : List (Int × Int × List UInt8) := [(0, 1, [63]), (0, -1, [42]), (1, -1, [43]), (99, 99, [123, 57, 57, 125]), (99, -1, [123, 57, 57, 44, 125]), (0, 2, [123, 48, 44, 50, 125]), (100, -1, []), (0, 100, []), (-1, 2, []), (0, -2, [])]
def cntCells : List Value := cntTab.flatMap fun p => [.int .i64 p.1, .int .i64 p.2.1, .string ⟨p.2.2.toArray⟩]
theorem cnt_at {k : Nat} (h : k < 10) : ∃ (lo hi : Int) (s : List UInt8), cntCells[k * 3]? = some (.int .i64 lo) ∧ cntCells[k * 3 + 1]? = some (.int .i64 hi) ∧ cntCells[k * 3 + 2]? = some (.string ⟨s.toArray⟩) ∧ countB lo hi = s := by
  have hcs : k = 0 ∨ k = 1 ∨ k = 2 ∨ k = 3 ∨ k = 4 ∨ k = 5 ∨ k = 6 ∨ k = 7 ∨ k = 8 ∨ k = 9 := by omega
  rcases hcs with rfl | rfl | rfl | rfl | rfl | rfl | rfl | rfl | rfl | rfl
  all_goals exact ⟨_, _, _, rfl, rfl, rfl, by kernel_rfl⟩
set_option maxRecDepth 100000 in
set_option maxHeartbeats 12800000 in
theorem printnames_walk (w : World) (hp : PTabs w) :
    Calls Tryd.prog 3 #[] w fun e w' => e = .returned (.bool true) ∧ Below w.heap.size w w' := by
  have HP := Lib.hid hp; clear hp
  go_enter Tryd.func3, Tryd.ntmps3
  go_wp2_with fail
  refine (works_any _ HP.out).mono ?_
  rintro e w0 ⟨rfl, hb⟩
  have HB0 := Lib.hid hb
  clear hb
  go_wp2_with fail
  refine (rule_any ⟨#[120]⟩ _ (by decide)).mono ?_
  rintro e w1 ⟨bx, rfl, hto, hb⟩
  have HX1 := Lib.hid (show TX w1 xT ⟨some ⟨bx, 0, none⟩, 1, [⟨ruleLf ⟨#[120]⟩, none, 0⟩], 0⟩ from TX.leaf hto (by kernel_rfl)); have HB1 := Lib.hid (Below.step HB0.out hb)
  clear hto hb HB0
  go_wp2_with fail
  refine (rule_any ⟨#[121]⟩ _ (by decide)).mono ?_
  rintro e w2 ⟨bY, rfl, hto, hb⟩
  have HY2 := Lib.hid (show TX w2 yT ⟨some ⟨bY, 0, none⟩, 1, [⟨ruleLf ⟨#[121]⟩, none, 0⟩], 0⟩ from TX.leaf hto (by kernel_rfl)); have HX2 := Lib.hid (HX1.out.below hb); have HB2 := Lib.hid (Below.step HB1.out hb)
  clear hto hb HX1 HB1
  go_upto_region 4 with (fail)
  have HBA := Lib.hid (bx2 w2 (.cells #[.slice (some ⟨bx, 0, none⟩) 1 1, .int .i64 0] 25) (.cells #[.slice (some ⟨bY, 0, none⟩) 1 1, .int .i64 0] 25))
  have HK1 := Lib.hid (bx_old (p := .cells #[.slice (some ⟨bY, 0, none⟩) 1 1, .int .i64 0] 25) (bx_new w2 (.cells #[.slice (some ⟨bx, 0, none⟩) 1 1, .int .i64 0] 25)))
  have HK2 := bx_new (w2.alloc (.cells #[.slice (some ⟨bx, 0, none⟩) 1 1, .int .i64 0] 25)) (.cells #[.slice (some ⟨bY, 0, none⟩) 1 1, .int .i64 0] 25)
  rw [World.size_alloc] at HK2
  have HK2 := Lib.hid HK2
  have HTX := Lib.hid (And.intro (HX2.out.below HBA.out) (HY2.out.below HBA.out))
  have HBV := Lib.hid (Below.step HB2.out HBA.out)
  clear HX2 HY2 HB2 HBA
  generalize (w2.alloc (.cells #[.slice (some ⟨bx, 0, none⟩) 1 1, .int .i64 0] 25)).alloc (.cells #[.slice (some ⟨bY, 0, none⟩) 1 1, .int .i64 0] 25) = V at *
  generalize w2.heap.size = b1 at *
  have HCX := Lib.hid (show ∀ w', Below V.heap.size V w' → w'.cell? ⟨b1, 0, none⟩ = some (.slice (some ⟨bx, 0, none⟩) 1 1) ∧ w'.cell? ⟨b1, 1, none⟩ = some (.int .i64 0) ∧ w'.cell? ⟨b1 + 1, 0, none⟩ = some (.slice (some ⟨bY, 0, none⟩) 1 1) ∧ w'.cell? ⟨b1 + 1, 1, none⟩ = some (.int .i64 0) from fun w' h => by
    obtain ⟨a1, a2, _⟩ := blk2 (bx_kept h HK1.out)
    obtain ⟨a3, a4, _⟩ := blk2 (bx_kept h HK2.out)
    exact ⟨a1, a2, a3, a4⟩)
  clear HK1 HK2
  go_cut [3] (fun v3 wx => Hid (Row10 wx v3) ∧ Hid (Below V.heap.size V wx))
  case first => as_aux_lemma =>
    refine wp_region_inv0 (PnInv bx bY b1 V.heap.size V) (by kernel_rfl) ?_ ?_ ?_
    · exact ⟨rfl, (Below.refl _ _).drew, Nat.le_refl _, _, _, _, _, _, _, _, _, _, _, _, _, _, _, _, _, _, _, _, _, _, _, _, _, _, _, _, _, _, _, _, _, _, rfl, fun h => absurd h (by decide), fun h => absurd h (by decide), fun h => absurd h (by decide), fun h => absurd h (by decide), fun h => absurd h (by decide), fun h => absurd h (by decide), fun h => absurd h (by decide), fun h => absurd h (by decide), fun h => absurd h (by decide), fun h => absurd h (by decide), fun h => absurd h (by decide), fun h => absurd h (by decide), fun h => absurd h (by decide), fun h => absurd h (by decide), fun h => absurd h (by decide), fun h => absurd h (by decide), fun h => absurd h (by decide), fun h => absurd h (by decide), fun h => absurd h (by decide), fun h => absurd h (by decide), fun h => absurd h (by decide), fun h => absurd h (by decide), fun h => absurd h (by decide), fun h => absurd h (by decide), fun h => absurd h (by decide), fun h => absurd h (by decide), fun h => absurd h (by decide), fun h => absurd h (by decide), fun h => absurd h (by decide), fun h => absurd h (by decide), fun h => absurd h (by decide), fun h => absurd h (by decide), fun h => absurd h (by decide), fun h => absurd h (by decide)⟩
    · exact pn_step bx bY b1 V HCX HTX _ _
    · intro listed a' wz hI hr
      obtain ⟨hsz, hb, hB, v20, v21, v22, v23, v24, v25, v26, v27, v28, v29, v30, v31, v32, v33, v34, v35, v36, v37, v38, v39, v40, v41, v42, v43, v44, v45, v46, v47, v48, v49, v50, v51, v3, rfl, c0, c1, c2, c3, c4, c5, c6, c7, c8, c9, c10, c11, c12, c13, c14, c15, c16, c17, c18, c19, c20, c21, c22, c23, c24, c25, c26, c27, c28, c29, c30, c31, c32, c33⟩ := hI
      have hall := all_listed hsz (by kernel_rfl) hr
      have HR := Lib.hid (c31 (hall 31 (by decide)))
      obtain rfl := c32 (hall 32 (by decide))
      have HBZ := Lib.hid hb
      clear hsz hb hB hall hr
      clear c0 c1 c2 c3 c4 c5 c6 c7 c8 c9 c10 c11 c12 c13 c14 c15 c16 c17 c18 c19 c20 c21 c22 c23 c24 c25 c26 c27 c28 c29 c30 c31 c32 c33
      unfold pnF
      go_wp2_with fail
      go_meet
      exact ⟨HR, HBZ⟩
  case rest =>
    obtain ⟨HR, HBR⟩ := hcut
    obtain ⟨nb, ks, rfl, hkl, hkt, hki, hkh⟩ := HR.out
    have HKI := Lib.hid hki; have HKH := Lib.hid hkh; have HKT := Lib.hid hkt; have HKL := Lib.hid hkl
    clear hkl hkt hki hkh HR
    have HBV2 := Lib.hid (Below.step HBV.out HBR.out)
    go_upto_region 6 with (fail)
    have HBS := Lib.hid (bx1 wc (.cells #[.string ⟨#[34, 34]⟩, .string ⟨#[91, 93]⟩, .string ⟨#[34, 116, 34]⟩, .string ⟨#[120]⟩, .string ⟨#[120, 32, 121]⟩, .string ⟨#[120, 32, 47, 32, 121]⟩, .string ⟨#[120, 42]⟩, .string ⟨#[38, 120]⟩, .string ⟨#[33, 120]⟩, .string ⟨#[60, 110, 58, 32, 120, 62]⟩] 9))
    have HSS := Lib.hid (bx_new wc (.cells #[.string ⟨#[34, 34]⟩, .string ⟨#[91, 93]⟩, .string ⟨#[34, 116, 34]⟩, .string ⟨#[120]⟩, .string ⟨#[120, 32, 121]⟩, .string ⟨#[120, 32, 47, 32, 121]⟩, .string ⟨#[120, 42]⟩, .string ⟨#[38, 120]⟩, .string ⟨#[33, 120]⟩, .string ⟨#[60, 110, 58, 32, 120, 62]⟩] 9))
    generalize wc.alloc (.cells #[.string ⟨#[34, 34]⟩, .string ⟨#[91, 93]⟩, .string ⟨#[34, 116, 34]⟩, .string ⟨#[120]⟩, .string ⟨#[120, 32, 121]⟩, .string ⟨#[120, 32, 47, 32, 121]⟩, .string ⟨#[120, 42]⟩, .string ⟨#[38, 120]⟩, .string ⟨#[33, 120]⟩, .string ⟨#[60, 110, 58, 32, 120, 62]⟩] 9) = W0 at *
    have HBW := Lib.hid (Below.step HBV2.out HBS.out)
    have HX0 := Lib.hid (show ∀ w', Below W0.heap.size W0 w' → TX w' xT ⟨some ⟨bx, 0, none⟩, 1, [⟨ruleLf ⟨#[120]⟩, none, 0⟩], 0⟩ ∧ w'.cell? ⟨b1, 0, none⟩ = some (.slice (some ⟨bx, 0, none⟩) 1 1) ∧ w'.cell? ⟨b1, 1, none⟩ = some (.int .i64 0) from fun w' h => by
      have h2 := Below.step (Below.step HBR.out HBS.out) h
      exact ⟨HTX.out.1.below h2, (HCX.out w' h2).1, (HCX.out w' h2).2.1⟩)
    have HK0 := Lib.hid (show ∀ k (hk : k < 10), ∃ K : Lt, ∀ w', Below W0.heap.size W0 w' → TX w' (kindAt k) K ∧ w'.cell? ⟨nb, k * 2, none⟩ = some (.slice K.A K.ls.length K.c) ∧ w'.cell? ⟨nb, k * 2 + 1, none⟩ = some (.int .i64 K.root) ∧ w'.cell? ⟨wc.heap.size, k, none⟩ = some (.string ⟨(bareAt k).toArray⟩) from fun k hk => by
      have hkk : k < ks.length := by have := HKL.out; omega
      refine ⟨ks[k], fun w' h => ?_⟩
      have h2 := Below.step HBS.out h
      have hb := bx_kept h2 HKH.out
      have e0 := ttL.all_at ks k 0 hkk (by decide)
      have e1 := ttL.all_at ks k 1 hkk (by decide)
      have hkd : ks[k].tr = kindAt k := by
        have h3 := congrArg (fun l => l.getD k emT) HKT.out
        have h4 : (ks.map Lt.tr).getD k emT = kindAt k := h3
        rw [List.getD_eq_getElem?_getD, List.getElem?_map, List.getElem?_eq_getElem hkk] at h4
        exact h4
      refine ⟨⟨(HKI.out _ (List.getElem_mem hkk)).below h2, hkd, (pn_at k hk).sm⟩, ?_, ?_, ?_⟩
      · exact (row_cellAt hb (j := k * 2) e0).1
      · exact (row_cellAt hb (j := k * 2 + 1) e1).1
      · have hs := bx_kept h HSS.out
        refine (row_cellAt (xs := [.string ⟨#[34, 34]⟩, .string ⟨#[91, 93]⟩, .string ⟨#[34, 116, 34]⟩, .string ⟨#[120]⟩, .string ⟨#[120, 32, 121]⟩, .string ⟨#[120, 32, 47, 32, 121]⟩, .string ⟨#[120, 42]⟩, .string ⟨#[38, 120]⟩, .string ⟨#[33, 120]⟩, .string ⟨#[60, 110, 58, 32, 120, 62]⟩]) hs (j := k) ?_).1
        have hcs : k = 0 ∨ k = 1 ∨ k = 2 ∨ k = 3 ∨ k = 4 ∨ k = 5 ∨ k = 6 ∨ k = 7 ∨ k = 8 ∨ k = 9 := by omega
        rcases hcs with rfl | rfl | rfl | rfl | rfl | rfl | rfl | rfl | rfl | rfl <;> rfl)
    have HPW := Lib.hid (show ∀ w', Below W0.heap.size W0 w' → PTabs w' from fun w' h => HP.out.below (Below.step HBW.out h))
    clear HBV HBR HBV2 HBS HSS HKI HKH HKT HKL HTX HCX
    go_wp2_with fail
    go_loopw [5] (fun v5 wr => ∃ k : Nat, k ≤ 10 ∧ v5 = .int .i64 k ∧ Hid (Below W0.heap.size W0 wr)) (fun v5 _ => 10 - (intOf v5).toNat)
    case atStart => exact ⟨0, by omega, rfl, Lib.hid (Below.refl _ _)⟩
    case round =>
      obtain ⟨k, hk, rfl, HB⟩ := hrel
      by_cases hlt : k < 10
      · have i0 : (0 : Int) ≤ (k : Int) := by omega
        have i1 : (k : Int) < 10 := by omega
        obtain ⟨KD, HK⟩ := HK0.out k hlt
        have HK := Lib.hid HK
        have HN := Lib.hid (pn_at k hlt)
        obtain ⟨_, g1, g2, g3⟩ := HK.out wr HB.out
        obtain ⟨_, x1, x2⟩ := HX0.out wr HB.out
        have HL4 := Lib.hid (show (⟨(listAt k).toArray⟩ : ByteArray) = if k = 4 ∨ k = 5 then ⟨#[40]⟩ ++ ⟨(bareAt k).toArray⟩ ++ ⟨#[41]⟩ else ⟨(bareAt k).toArray⟩ from by unfold listAt parB; split <;> exact ByteArray.ext (by simp))
        have HL6 := Lib.hid (show (⟨(repAt k).toArray⟩ : ByteArray) = if k = 4 ∨ k = 5 ∨ k = 6 ∨ k = 7 ∨ k = 8 then ⟨#[40]⟩ ++ ⟨(bareAt k).toArray⟩ ++ ⟨#[41]⟩ else ⟨(bareAt k).toArray⟩ from by unfold repAt parB; split <;> exact ByteArray.ext (by simp))
        have HL5 := Lib.hid (show (⟨(wayAt k).toArray⟩ : ByteArray) = if k = 5 then ⟨#[40]⟩ ++ ⟨(bareAt k).toArray⟩ ++ ⟨#[41]⟩ else ⟨(bareAt k).toArray⟩ from by unfold wayAt parB; split <;> exact ByteArray.ext (by simp))
        have HT4 := Lib.hid (show (⟨(treeB (ofT (kindP 4) [kindAt k, xT])).toArray⟩ : ByteArray) = ⟨(listAt k).toArray⟩ ++ ⟨#[32, 120]⟩ from by rw [HN.out.t4]; exact ByteArray.ext (by simp))
        have HT5 := Lib.hid (show (⟨(treeB (ofT (kindP 5) [xT, kindAt k])).toArray⟩ : ByteArray) = ⟨#[120, 32, 47, 32]⟩ ++ ⟨(wayAt k).toArray⟩ from by rw [HN.out.t5]; exact ByteArray.ext (by simp))
        have HT7 := Lib.hid (show (⟨(treeB (ofT (kindP 7) [kindAt k])).toArray⟩ : ByteArray) = ⟨#[38]⟩ ++ ⟨(listAt k).toArray⟩ from by rw [HN.out.t7]; exact ByteArray.ext (by simp))
        have HT8 := Lib.hid (show (⟨(treeB (ofT (kindP 8) [kindAt k])).toArray⟩ : ByteArray) = ⟨#[33]⟩ ++ ⟨(listAt k).toArray⟩ from by rw [HN.out.t8]; exact ByteArray.ext (by simp))
        have HT6 := Lib.hid (show (⟨(treeB (ofT repN23 [kindAt k])).toArray⟩ : ByteArray) = ⟨(repAt k).toArray⟩ ++ ⟨#[123, 50, 44, 51, 125]⟩ from by rw [HN.out.t6]; exact ByteArray.ext (by simp))
        have HT9 := Lib.hid (show (⟨(treeB (ofT capM [kindAt k])).toArray⟩ : ByteArray) = ⟨#[60, 109, 58, 32]⟩ ++ ⟨(bareAt k).toArray⟩ ++ ⟨#[62]⟩ from by rw [HN.out.t9]; exact ByteArray.ext (by simp))
        have HT0 := Lib.hid (show (⟨(treeB (kindAt k)).toArray⟩ : ByteArray) = ⟨(bareAt k).toArray⟩ from by rw [HN.out.tx])
        have hsz : (⟨(bareAt k).toArray⟩ : ByteArray).size ≤ 10 := HN.out.len
        have hcs : (¬ k = 4 ∧ ¬ k = 5 ∧ ¬ 6 ≤ k) ∨ k = 4 ∨ k = 5 ∨ (6 ≤ k ∧ k ≤ 8) ∨ k = 9 := by omega
        have hzL : (⟨(listAt k).toArray⟩ : ByteArray).size ≤ 12 := by
          show (listAt k).length ≤ 12
          have := HN.out.len
          unfold listAt parB; split
          · simp only [List.length_append, List.length_singleton]; omega
          · omega
        have hzR : (⟨(repAt k).toArray⟩ : ByteArray).size ≤ 12 := by
          show (repAt k).length ≤ 12
          have := HN.out.len
          unfold repAt parB; split
          · simp only [List.length_append, List.length_singleton]; omega
          · omega
        have hzW : (⟨(wayAt k).toArray⟩ : ByteArray).size ≤ 12 := by
          show (wayAt k).length ≤ 12
          have := HN.out.len
          unfold wayAt parB; split
          · simp only [List.length_append, List.length_singleton]; omega
          · omega
        generalize (⟨(listAt k).toArray⟩ : ByteArray) = sL at *
        generalize (⟨(repAt k).toArray⟩ : ByteArray) = sR at *
        generalize (⟨(wayAt k).toArray⟩ : ByteArray) = sW at *
        generalize (⟨(bareAt k).toArray⟩ : ByteArray) = s at *
        have f1 : ¬ 9223372036854775807 < 1 + s.size := by omega
        have f2 : ¬ 9223372036854775807 < 1 + s.size + 1 := by omega
        have f3 : ¬ 9223372036854775807 < sL.size + 2 := by omega
        have f4 : ¬ 9223372036854775807 < 4 + sW.size := by omega
        have f5 : ¬ 9223372036854775807 < 1 + sL.size := by omega
        have f6 : ¬ 9223372036854775807 < sR.size + 5 := by omega
        have f7 : ¬ 9223372036854775807 < 4 + s.size := by omega
        have f8 : ¬ 9223372036854775807 < 4 + s.size + 1 := by omega
        go_upto_region 12 with (fail)
        go_cut [75] (fun v75 wx => v75 = .bool (decide (k = 4 ∨ k = 5)) ∧ Hid (wr = wx))
        case first => as_aux_lemma =>
          have hc3 : k = 4 ∨ k = 5 ∨ (¬ k = 4 ∧ ¬ k = 5) := by omega
          rcases hc3 with h | h | h
          · have e4 : ((k : Int) == 4) = true := by rw [beq_iff_eq]; omega
            go_wp2_with fail
            go_meet
            exact ⟨by simp [h], Lib.hid rfl⟩
          · have e4 : ((k : Int) == 4) = false := by rw [beq_eq_false_iff_ne]; omega
            have e5 : ((k : Int) == 5) = true := by rw [beq_iff_eq]; omega
            go_wp2_with fail
            go_meet
            exact ⟨by simp [h], Lib.hid rfl⟩
          · have e4 : ((k : Int) == 4) = false := by rw [beq_eq_false_iff_ne]; omega
            have e5 : ((k : Int) == 5) = false := by rw [beq_eq_false_iff_ne]; omega
            go_wp2_with fail
            go_meet
            exact ⟨by simp [h.1, h.2], Lib.hid rfl⟩
        case rest =>
          obtain ⟨rfl, hwx⟩ := hcut
          obtain rfl := hwx.out
          clear hwx
          have HC1 := Lib.hid (show ∀ b, decide (k = 4 ∨ k = 5) = b → sL = if b then ⟨#[40]⟩ ++ s ++ ⟨#[41]⟩ else s from fun b hb => by
            rw [HL4.out]
            cases b
            · rw [if_neg (of_decide_eq_false hb)]; rfl
            · rw [if_pos (of_decide_eq_true hb)]; rfl)
          have HC2 := Lib.hid (show ∀ b, decide (k = 5) = b → sW = if b then ⟨#[40]⟩ ++ s ++ ⟨#[41]⟩ else s from fun b hb => by
            rw [HL5.out]
            cases b
            · rw [if_neg (of_decide_eq_false hb)]; rfl
            · rw [if_pos (of_decide_eq_true hb)]; rfl)
          have HC3 := Lib.hid (show ∀ b, decide (6 ≤ k ∧ k ≤ 8) = b → sR = if b then ⟨#[40]⟩ ++ s ++ ⟨#[41]⟩ else sL from fun b hb => by
            rw [HL6.out, HL4.out]
            cases b
            · have hb := of_decide_eq_false hb
              by_cases h45 : k = 4 ∨ k = 5
              · rw [if_pos (by omega), if_pos h45]; rfl
              · rw [if_neg (by omega), if_neg h45]; rfl
            · have hb := of_decide_eq_true hb
              rw [if_pos (by omega)]; rfl)
          generalize hb1 : decide (k = 4 ∨ k = 5) = t75 at *
          have HS1 := Lib.hid (HC1.out t75 rfl)
          clear hb1 HC1
          go_upto_if 75 with (fail)
          go_cut [8, 9, 10] (fun v8 v9 v10 wx => v8 = .string sL ∧ v9 = .string sL ∧ v10 = .string sL ∧ Hid (wr = wx))
          case first => as_aux_lemma =>
            cases t75
            all_goals
              go_wp2_with fail
              go_meet
              exact ⟨by rw [HS1.out]; try rfl, by rw [HS1.out]; try rfl, by rw [HS1.out]; try rfl, Lib.hid rfl⟩
          case rest =>
            obtain ⟨rfl, rfl, rfl, hwx⟩ := hcut
            obtain rfl := hwx.out
            clear hwx HS1
            have hk5 : ((k : Int) == 5) = decide (k = 5) := by rw [Bool.eq_iff_iff, beq_iff_eq, decide_eq_true_eq]; omega
            generalize hb2 : decide (k = 5) = t80 at *
            have HS2 := Lib.hid (HC2.out t80 rfl)
            clear hb2 HC2
            go_upto_if 80 with (fail)
            go_cut [11] (fun v11 wx => v11 = .string sW ∧ Hid (wr = wx))
            case first => as_aux_lemma =>
              cases t80
              all_goals
                go_wp2_with fail
                go_meet
                exact ⟨by rw [HS2.out]; try rfl, Lib.hid rfl⟩
            case rest =>
              obtain ⟨rfl, hwx⟩ := hcut
              obtain rfl := hwx.out
              clear hwx HS2 hk5
              go_upto_region 16 with (fail)
              go_cut [87] (fun v87 wx => v87 = .bool (decide (6 ≤ k ∧ k ≤ 8)) ∧ Hid (wr = wx))
              case first => as_aux_lemma =>
                by_cases h6 : 6 ≤ k
                · have e6 : (6 : Int) ≤ (k : Int) := by omega
                  have e7 : decide ((6 : Int) ≤ (k : Int)) = true := decide_eq_true e6
                  go_wp2_with fail
                  go_meet
                  exact ⟨by simp [h6]; omega, Lib.hid rfl⟩
                · have e6 : ¬ (6 : Int) ≤ (k : Int) := by omega
                  have e7 : decide ((6 : Int) ≤ (k : Int)) = false := decide_eq_false e6
                  go_wp2_with fail
                  go_meet
                  exact ⟨by simp [h6], Lib.hid rfl⟩
              case rest =>
                obtain ⟨rfl, hwx⟩ := hcut
                obtain rfl := hwx.out
                clear hwx
                generalize hb3 : decide (6 ≤ k ∧ k ≤ 8) = t87 at *
                have HS3 := Lib.hid (HC3.out t87 rfl)
                clear hb3 HC3
                go_upto_if 87 with (fail)
                go_cut [10] (fun v10 wx => v10 = .string sR ∧ Hid (wr = wx))
                case first => as_aux_lemma =>
                  cases t87
                  all_goals
                    go_wp2_with fail
                    go_meet
                    exact ⟨by rw [HS3.out]; try rfl, Lib.hid rfl⟩
                case rest =>
                  obtain ⟨rfl, hwx⟩ := hcut
                  obtain rfl := hwx.out
                  clear hwx HS3 HL4 HL5 HL6 hcs
                  go_upto_region 18 with (fail)
                  have HK2 := Lib.hid (show ∀ w', Below wr.heap.size wr w' → TX w' (kindAt k) KD ∧ TX w' xT ⟨some ⟨bx, 0, none⟩, 1, [⟨ruleLf ⟨#[120]⟩, none, 0⟩], 0⟩ ∧ PTabs w' from fun w' h => ⟨(HK.out w' (Below.step HB.out h)).1, (HX0.out w' (Below.step HB.out h)).1, HPW.out w' (Below.step HB.out h)⟩)
                  have HG := Lib.hid (show ∀ w', Below wr.heap.size wr w' → w'.cell? ⟨b1, 0, none⟩ = some (.slice (some ⟨bx, 0, none⟩) 1 1) ∧ w'.cell? ⟨b1, 1, none⟩ = some (.int .i64 0) ∧ w'.cell? ⟨nb, k * 2, none⟩ = some (.slice KD.A KD.ls.length KD.c) ∧ w'.cell? ⟨nb, k * 2 + 1, none⟩ = some (.int .i64 KD.root) from fun w' h => ⟨(HX0.out w' (Below.step HB.out h)).2.1, (HX0.out w' (Below.step HB.out h)).2.2, (HK.out w' (Below.step HB.out h)).2.1, (HK.out w' (Below.step HB.out h)).2.2.1⟩)
                  have HBc := Lib.hid (Below.refl wr.heap.size wr).drew
                  have HN0 := HN
                  clear HN
                  obtain ⟨SP, HSD⟩ : ∃ SP : World → Prop, Hid (SP = fun w' => w'.cell? ⟨b1, 0, none⟩ = some (.slice (some ⟨bx, 0, none⟩) 1 1) ∧ w'.cell? ⟨b1, 1, none⟩ = some (.int .i64 0) ∧ w'.cell? ⟨nb, k * 2, none⟩ = some (.slice KD.A KD.ls.length KD.c) ∧ w'.cell? ⟨nb, k * 2 + 1, none⟩ = some (.int .i64 KD.root)) := ⟨_, Lib.hid rfl⟩
                  clear g1 g2 g3 x1 x2
                  refine pn_region18L bx b1 nb k KD s sL sR sW wr hlt HK2 HG HT0 HT4 HT5 HT7 HT8 HT6 HT9 (by omega) hzL hzR hzW _ (Lib.hid (fun _ _ _ _ _ h => h)) (Lib.hid ?_)
                  intro z89 z90 z91 z92 z93 z94 z95 z96 z97 z98 z99 z100 z101 z102 z103 z104 z105 z106 z107 z108 z109 z110 z111 z112 z113 z114 z115 z116 z117 z118 z119 z120 z121 z122 z123 z124 z125 z126 z127 z128 z129 z130 z131 z132 z133 z134 z135 z136 z137 z138 z139 z140 z141 z142 z143 z144 z145 z146 z147 z148 z149 z150 z151 z152 z153 z154 z155 z156 z157 z158 z159 z160 z161 z162 z163 z164 z165 z166 z167 z168 z169 z170 z171 z172 z173 z174 z175 w' hb
                  have HBe := Lib.hid (Below.step HB.out hb)
                  clear hb
                  go_wp2_with fail
                  exact ⟨⟨k + 1, hlt, by go_num, HBe⟩, by simp only [intOf]; omega⟩
      · obtain rfl : k = 10 := by omega
        have HX1 := Lib.hid (show ∀ w', Below wr.heap.size wr w' → TX w' xT ⟨some ⟨bx, 0, none⟩, 1, [⟨ruleLf ⟨#[120]⟩, none, 0⟩], 0⟩ ∧ w'.cell? ⟨b1, 0, none⟩ = some (.slice (some ⟨bx, 0, none⟩) 1 1) ∧ w'.cell? ⟨b1, 1, none⟩ = some (.int .i64 0) from fun w' h => HX0.out w' (Below.step HB.out h))
        have HP1 := Lib.hid (show ∀ w', Below wr.heap.size wr w' → PTabs w' from fun w' h => HPW.out w' (Below.step HB.out h))
        have HBR := Lib.hid (Below.step HBW.out HB.out)
        clear HK0 HX0 HPW HB HBW
        go_upto_region 21 with (fail)
        have HBT := Lib.hid (bx1 wr (.cells cntCells.toArray 39))
        have HST := Lib.hid (bx_new wr (.cells cntCells.toArray 39))
        change Code.wp _ _ _ _ (wr.alloc (.cells cntCells.toArray 39))
        have HP2 := Lib.hid (show ∀ w', Below (wr.alloc (.cells cntCells.toArray 39)).heap.size (wr.alloc (.cells cntCells.toArray 39)) w' → PTabs w' from fun w' h => HP1.out w' (Below.step HBT.out h))
        have HX2 := Lib.hid (show ∀ w', Below (wr.alloc (.cells cntCells.toArray 39)).heap.size (wr.alloc (.cells cntCells.toArray 39)) w' → TX w' xT ⟨some ⟨bx, 0, none⟩, 1, [⟨ruleLf ⟨#[120]⟩, none, 0⟩], 0⟩ ∧ w'.cell? ⟨b1, 0, none⟩ = some (.slice (some ⟨bx, 0, none⟩) 1 1) ∧ w'.cell? ⟨b1, 1, none⟩ = some (.int .i64 0) from fun w' h => HX1.out w' (Below.step HBT.out h))
        have HB2 := Lib.hid (Below.step HBR.out HBT.out)
        clear HP1 HX1 HBT HBR
        generalize wr.alloc (.cells cntCells.toArray 39) = W1 at *
        generalize wr.heap.size = cb at *
        obtain ⟨wo, rfl⟩ : ∃ wo : World, wo = wr := ⟨_, rfl⟩
        go_loopw [189] (fun v189 wx => ∃ k : Nat, k ≤ 10 ∧ v189 = .int .i64 k ∧ Hid (Below W1.heap.size W1 wx)) (fun v189 _ => 10 - (intOf v189).toNat)
        case atStart => exact ⟨0, by omega, rfl, Lib.hid (Below.refl _ _)⟩
        case round =>
          obtain ⟨k, hk2, rfl, HBk⟩ := hrel
          by_cases hlt2 : k < 10
          · have i2 : (k : Int) < 10 := by omega
            have i3 : (0 : Int) ≤ (k : Int) := by omega
            obtain ⟨lo, hi, s, c0, c1, c2, hc⟩ := cnt_at hlt2
            have hcell := bx_kept HBk.out HST.out
            have y0 := (row_cellAt (xs := cntCells) hcell (j := k * 3) c0).1
            have y1 := (row_cellAt (xs := cntCells) hcell (j := k * 3 + 1) c1).1
            have y2 := (row_cellAt (xs := cntCells) hcell (j := k * 3 + 2) c2).1
            have HCN := Lib.hid (show ∀ wx, Below W1.heap.size W1 wx → Calls Tryd.prog 12 #[.int .i64 lo, .int .i64 hi] wx fun e w' => e = .returned (.string ⟨s.toArray⟩) ∧ Below wx.heap.size wx w' from fun wx hb => count_tx (HP2.out wx hb) hc)
            clear c0 c1 c2 hc hcell
            go_upto_region 23 with (fail)
            have hbx := bx1 wr (.cells #[.int .i64 lo, .int .i64 hi, .string ⟨s.toArray⟩] 39)
            have HKB := Lib.hid (bx_new wr (.cells #[.int .i64 lo, .int .i64 hi, .string ⟨s.toArray⟩] 39))
            have HBB := Lib.hid (Below.step HBk.out hbx)
            clear hbx y0 y1 y2
            generalize (wr.alloc (.cells #[.int .i64 lo, .int .i64 hi, .string ⟨s.toArray⟩] 39)) = W2 at *
            generalize wr.heap.size = bb at *
            have HSS := Lib.hid (show ∀ w', Below W2.heap.size W2 w' → w'.cell? ⟨bb, 0, none⟩ = some (.int .i64 lo) ∧ w'.cell? ⟨bb, 1, none⟩ = some (.int .i64 hi) ∧ w'.cell? ⟨bb, 2, none⟩ = some (.string ⟨s.toArray⟩) from fun w' h => by
              have h1 := bx_kept h HKB.out
              exact ⟨by simp [World.cell?, h1], by simp [World.cell?, h1], by simp [World.cell?, h1]⟩)
            have HC := Lib.hid (Below.refl W2.heap.size W2)
            go_cut [200] from 193 to 200 (fun v200 wx => v200 = .bool false ∧ Hid (Below W2.heap.size W2 wx))
            case first =>
              go_region_held3 (fun w' => w'.cell? ⟨bb, 0, none⟩ = some (.int .i64 lo) ∧ w'.cell? ⟨bb, 1, none⟩ = some (.int .i64 hi) ∧ w'.cell? ⟨bb, 2, none⟩ = some (.string ⟨s.toArray⟩))
                (exact HSS.out _ (by first | exact HC.out | exact HC.out.drew))
                (first
                  | (go_at_call 12; (with_reducible refine (HCN.out _ (Below.step HBB.out (by first | exact HC.out | exact HC.out.drew))).mono ?_); rintro e wx ⟨rfl, hb⟩; have HC' := Lib.hid (Below.step (by first | exact HC.out | exact HC.out.drew) hb); clear HC; have HC := HC'; clear HC' hb)
                  | fail)
              all_goals go_wp2_with fail
              all_goals go_meet
              all_goals exact ⟨by simp, HC⟩
            case rest =>
              obtain ⟨rfl, HD⟩ := hcut
              go_wp2_with fail
              exact ⟨⟨k + 1, hlt2, by go_num, Lib.hid (Below.step HBB.out HD.out)⟩, by simp only [intOf]; omega⟩
          · obtain rfl : k = 10 := by omega
            obtain ⟨htx, px1, px2⟩ := HX2.out wr HBk.out
            clear htx
            go_upto_region 26 with (fail)
            have HX3 := Lib.hid (show ∀ w', Below W1.heap.size W1 w' → w'.cell? ⟨b1, 0, none⟩ = some (.slice (some ⟨bx, 0, none⟩) 1 1) ∧ w'.cell? ⟨b1, 1, none⟩ = some (.int .i64 0) from fun w' h => (HX2.out w' h).2)
            clear px1 px2
            refine pn_region26L bx b1 W1 wr HX3 HBk _ (Lib.hid ?_)
            intro g rb q202 q203 q204 q205 q206 q207 wg HG HBg
            obtain ⟨hg1, hg2, hr1, tb, hr2, hto⟩ := HG.out
            clear HG
            have HF := Lib.hid (show ∀ w', Below wg.heap.size wg w' → w'.heap[g]? = some (.cells #[.slice (some ⟨rb, 0, none⟩) 2 2] 46 (0, 0)) ∧ w'.heap[rb]? = some (.cells (rowC ⟨#[97]⟩ tb bx) 43 (0, 0)) ∧ TreeOwn w' (fun _ => True) (nlT tb) ∧ TX w' xT (xL bx) ∧ PTabs w' from fun w' h => ⟨bx_kept h hg2, bx_kept h hr2, hto.below h, (HX2.out w' (Below.step HBg.out h)).1, HP2.out w' (Below.step HBg.out h)⟩)
            have HGR := Lib.hid (show ∀ w', Below wg.heap.size wg w' → Calls Tryd.prog 13 #[.agg #[.slice (some ⟨rb, 0, none⟩) 2 2]] w' fun e w2 => e = .returned (.string ⟨#[97, 32, 60, 45, 32, 34, 92, 110, 34, 10, 98, 32, 60, 45, 32, 120, 10]⟩) ∧ Below w'.heap.size w' w2 from fun w' h => have hf := HF.out w' h; pg2 hf.2.1 hf.2.2.1 hf.2.2.2.1 (by decide) hf.2.2.2.2 gA)
            have HGS := Lib.hid (show ∀ w', Below wg.heap.size wg w' → Calls Tryd.prog 14 #[.agg #[.slice (some ⟨rb, 0, none⟩) 2 2]] w' fun e w2 => e = .returned (.int .i64 17) ∧ Below w'.heap.size w' w2 from fun w' h => have hf := HF.out w' h; ps2 hf.2.1 hf.2.2.1 hf.2.2.2.1 (by decide) hf.2.2.2.2 gA (by decide))
            have HGD := Lib.hid (show ∀ w', Below wg.heap.size wg w' → Calls Tryd.prog 15 #[.agg #[.string ⟨#[98]⟩, .slice (some ⟨bx, 0, none⟩) 1 1, .int .i64 0]] w' fun e w2 => e = .returned (.string ⟨#[98, 32, 60, 45, 32, 120, 10]⟩) ∧ Below w'.heap.size w' w2 from fun w' h => have hf := HF.out w' h; pd2 hf.2.2.2.1 hf.2.2.2.2 dA)
            have HHg := Lib.hid hg1; have HHr := Lib.hid hr1
            have HCL := Lib.hid (show ∀ w', Below wg.heap.size wg w' → (w'.cell? ⟨g, 0, none⟩ = some (.slice (some ⟨rb, 0, none⟩) 2 2) ∧ w'.frozen? ⟨g, 0, none⟩ = false) ∧ w'.cell? ⟨rb, 0, none⟩ = some (.string ⟨#[97]⟩) ∧ w'.cell? ⟨rb, 1, none⟩ = some (.slice (some ⟨tb, 0, none⟩) 1 1) ∧ w'.cell? ⟨rb, 2, none⟩ = some (.int .i64 0) ∧ w'.cell? ⟨rb, 3, none⟩ = some (.string ⟨#[98]⟩) ∧ w'.cell? ⟨rb, 4, none⟩ = some (.slice (some ⟨bx, 0, none⟩) 1 1) ∧ w'.cell? ⟨rb, 5, none⟩ = some (.int .i64 0) ∧ w'.frozen? ⟨rb, 0, none⟩ = false from fun w' h => ⟨gblk1 (HF.out w' h).1, cell6 (HF.out w' h).2.1⟩)
            have HC := Lib.hid (Below.refl wg.heap.size wg)
            clear hg1 hg2 hr1 hr2 hto
            obtain ⟨⟨y1, y2⟩, y3, y4, y5, y6, y7, y8, y9⟩ := HCL.out wg HC.out
            go_upto_region 27 with (fail)
            go_cut [223] from 208 to 223 (fun v223 wx => v223 = .bool false ∧ Hid (Below wg.heap.size wg wx))
            case first =>
              go_wp2_with (first
                | (go_at_call 13; (with_reducible refine (HGR.out _ HC.out).mono ?_); rintro e w1 ⟨rfl, hb⟩; have HC' := Lib.hid (Below.step HC.out hb); clear HC hb; have HC := HC'; clear HC'; obtain ⟨⟨y1, y2⟩, y3, y4, y5, y6, y7, y8, y9⟩ := HCL.out w1 HC.out)
                | (go_at_call 14; (with_reducible refine (HGS.out _ HC.out).mono ?_); rintro e w2 ⟨rfl, hb⟩; have HC' := Lib.hid (Below.step HC.out hb); clear HC hb; have HC := HC'; clear HC'; obtain ⟨⟨y1, y2⟩, y3, y4, y5, y6, y7, y8, y9⟩ := HCL.out w2 HC.out)
                | (go_at_call 15; (with_reducible refine (HGD.out _ HC.out).mono ?_); rintro e w3 ⟨rfl, hb⟩; have HC' := Lib.hid (Below.step HC.out hb); clear HC hb; have HC := HC'; clear HC'))
              all_goals go_meet
              all_goals exact ⟨by simp, HC⟩
            case rest =>
              obtain ⟨rfl, HD⟩ := hcut
              obtain ⟨⟨y1, y2⟩, y3, y4, y5, y6, y7, y8, y9⟩ := HCL.out wc HD.out
              go_upto_region 30 with (fail)
              have hf := HF.out wc HD.out
              have hne : g ≠ rb := by
                intro e; subst e
                have h1 := hf.1; rw [hf.2.1] at h1; simp at h1
              have HBs := Lib.hid (show Below W1.heap.size W1 (wc.setCell ⟨rb, 0, none⟩ (.string ⟨#[49]⟩)) from Below.setCell (p := ⟨rb, 0, none⟩) (Below.step HBg.out HD.out) HHr.out _)
              have HF2 := Lib.hid (show ∀ w', Below (wc.setCell ⟨rb, 0, none⟩ (.string ⟨#[49]⟩)).heap.size (wc.setCell ⟨rb, 0, none⟩ (.string ⟨#[49]⟩)) w' → w'.heap[g]? = some (.cells #[.slice (some ⟨rb, 0, none⟩) 2 2] 46 (0, 0)) ∧ w'.heap[rb]? = some (.cells (rowC ⟨#[49]⟩ tb bx) 43 (0, 0)) ∧ TreeOwn w' (fun _ => True) (nlT tb) ∧ TX w' xT (xL bx) ∧ PTabs w' from fun w' h =>
                ⟨bx_kept h ((Below.heap_setCell _ _ _ _ hne).trans hf.1), bx_kept h (heap_setCell_same wc rb 0 _ _ _ hf.2.1), (hf.2.2.1.setD hf.2.1).below h, (HX2.out w' (Below.step HBs.out h)).1, HP2.out w' (Below.step HBs.out h)⟩)
              clear hf y1 y2 y3 y4 y5 y6 y7 y8 y9 HF HGR HGS HGD HCL HC
              generalize wc.setCell ⟨rb, 0, none⟩ (.string ⟨#[49]⟩) = W2 at *
              have HF3 := Lib.hid (HF2.out W2 (Below.refl _ _)).1
              go_upto_region 31 with (fail)
              have e2 : (W2.alloc (.cells #[.string ⟨#[97]⟩, .slice none 0 0, .int .i64 0] 43)).heap.size = W2.heap.size + 1 := by simp
              have hA := bx1 W2 (.cells #[.string ⟨#[97]⟩, .slice none 0 0, .int .i64 0] 43)
              have hB := bx1 (W2.alloc (.cells #[.string ⟨#[97]⟩, .slice none 0 0, .int .i64 0] 43)) (.cells #[.slice (some ⟨W2.heap.size, 0, none⟩) 1 1] 46)
              have HA2 := Lib.hid (Below.step hA hB)
              have HN1 := Lib.hid (bx_kept hB (bx_new W2 (.cells #[.string ⟨#[97]⟩, .slice none 0 0, .int .i64 0] 43)))
              have HN2 := Lib.hid (bx_new (W2.alloc (.cells #[.string ⟨#[97]⟩, .slice none 0 0, .int .i64 0] 43)) (.cells #[.slice (some ⟨W2.heap.size, 0, none⟩) 1 1] 46))
              rw [e2] at HN2
              have HF4 := Lib.hid (show ∀ w', Below ((W2.alloc (.cells #[.string ⟨#[97]⟩, .slice none 0 0, .int .i64 0] 43)).alloc (.cells #[.slice (some ⟨W2.heap.size, 0, none⟩) 1 1] 46)).heap.size ((W2.alloc (.cells #[.string ⟨#[97]⟩, .slice none 0 0, .int .i64 0] 43)).alloc (.cells #[.slice (some ⟨W2.heap.size, 0, none⟩) 1 1] 46)) w' → (w'.heap[g]? = some (.cells #[.slice (some ⟨rb, 0, none⟩) 2 2] 46 (0, 0)) ∧ w'.heap[rb]? = some (.cells (rowC ⟨#[49]⟩ tb bx) 43 (0, 0)) ∧ TreeOwn w' (fun _ => True) (nlT tb) ∧ TX w' xT (xL bx) ∧ PTabs w') ∧ w'.heap[W2.heap.size]? = some (.cells #[.string ⟨#[97]⟩, .slice none 0 0, .int .i64 0] 43 (0, 0)) ∧ w'.heap[W2.heap.size + 1]? = some (.cells #[.slice (some ⟨W2.heap.size, 0, none⟩) 1 1] 46 (0, 0)) from fun w' h => ⟨HF2.out w' (Below.step HA2.out h), bx_kept h HN1.out, bx_kept h HN2.out⟩)
              have HB5 := Lib.hid (Below.step HBs.out HA2.out)
              clear e2 hA hB HA2 HN1 HN2 HF2 HF3
              generalize ((W2.alloc (.cells #[.string ⟨#[97]⟩, .slice none 0 0, .int .i64 0] 43)).alloc (.cells #[.slice (some ⟨W2.heap.size, 0, none⟩) 1 1] 46)) = W3 at *
              generalize W2.heap.size = r2 at *
              have HGR := Lib.hid (show ∀ w', Below W3.heap.size W3 w' → Calls Tryd.prog 13 #[.agg #[.slice (some ⟨rb, 0, none⟩) 2 2]] w' fun e w2 => e = .returned (.string ⟨#[]⟩) ∧ Below w'.heap.size w' w2 from fun w' h => have hf := (HF4.out w' h).1; pg2 hf.2.1 hf.2.2.1 hf.2.2.2.1 (by decide) hf.2.2.2.2 gB)
              have HGS := Lib.hid (show ∀ w', Below W3.heap.size W3 w' → Calls Tryd.prog 14 #[.agg #[.slice (some ⟨rb, 0, none⟩) 2 2]] w' fun e w2 => e = .returned (.int .i64 0) ∧ Below w'.heap.size w' w2 from fun w' h => have hf := (HF4.out w' h).1; ps2 hf.2.1 hf.2.2.1 hf.2.2.2.1 (by decide) hf.2.2.2.2 gB (by decide))
              have HG1 := Lib.hid (show ∀ w', Below W3.heap.size W3 w' → Calls Tryd.prog 13 #[.agg #[.slice (some ⟨r2, 0, none⟩) 1 1]] w' fun e w2 => e = .returned (.string ⟨#[]⟩) ∧ Below w'.heap.size w' w2 from fun w' h => pg1 (HF4.out w' h).2.1 (HF4.out w' h).1.2.2.2.2)
              have HG0 := Lib.hid (show ∀ w', Below W3.heap.size W3 w' → Calls Tryd.prog 13 #[.agg #[.slice none 0 0]] w' fun e w2 => e = .returned (.string ⟨#[]⟩) ∧ Below w'.heap.size w' w2 from fun w' h => pg0 (HF4.out w' h).1.2.2.2.2)
              have HD0 := Lib.hid (show ∀ w', Below W3.heap.size W3 w' → Calls Tryd.prog 15 #[.agg #[.string ⟨#[97]⟩, .slice none 0 0, .int .i64 0]] w' fun e w2 => e = .returned (.string ⟨#[]⟩) ∧ Below w'.heap.size w' w2 from fun w' h => pd0 (HF4.out w' h).1.2.2.2.2)
              have HT0 := Lib.hid (show ∀ w', Below W3.heap.size W3 w' → Calls Tryd.prog 11 #[.agg #[.slice none 0 0, .int .i64 5]] w' fun e w2 => e = .returned (.string ⟨#[]⟩) ∧ Below w'.heap.size w' w2 from fun w' h => pt0 (HF4.out w' h).1.2.2.2.2)
              have HCL := Lib.hid (show ∀ w', Below W3.heap.size W3 w' → (w'.cell? ⟨g, 0, none⟩ = some (.slice (some ⟨rb, 0, none⟩) 2 2) ∧ w'.frozen? ⟨g, 0, none⟩ = false) ∧ (w'.cell? ⟨r2 + 1, 0, none⟩ = some (.slice (some ⟨r2, 0, none⟩) 1 1) ∧ w'.frozen? ⟨r2 + 1, 0, none⟩ = false) ∧ w'.cell? ⟨r2, 0, none⟩ = some (.string ⟨#[97]⟩) ∧ w'.cell? ⟨r2, 1, none⟩ = some (.slice none 0 0) ∧ w'.cell? ⟨r2, 2, none⟩ = some (.int .i64 0) from fun w' h => ⟨gblk1 (HF4.out w' h).1.1, gblk1 (HF4.out w' h).2.2, cell3 (HF4.out w' h).2.1⟩)
              have HC := Lib.hid (Below.refl W3.heap.size W3)
              obtain ⟨⟨y1, y2⟩, ⟨y3, y4⟩, y5, y6, y7⟩ := HCL.out W3 HC.out
              clear HF4
              go_wp2_with (first
                | (go_at_call 13; (with_reducible refine (HGR.out _ HC.out).mono ?_); rintro e w1 ⟨rfl, hb⟩; have HC' := Lib.hid (Below.step HC.out hb); clear HC hb; have HC := HC'; clear HC'; obtain ⟨⟨y1, y2⟩, ⟨y3, y4⟩, y5, y6, y7⟩ := HCL.out w1 HC.out)
                | (go_at_call 13; (with_reducible refine (HG1.out _ HC.out).mono ?_); rintro e w1 ⟨rfl, hb⟩; have HC' := Lib.hid (Below.step HC.out hb); clear HC hb; have HC := HC'; clear HC'; obtain ⟨⟨y1, y2⟩, ⟨y3, y4⟩, y5, y6, y7⟩ := HCL.out w1 HC.out)
                | (go_at_call 13; (with_reducible refine (HG0.out _ HC.out).mono ?_); rintro e w1 ⟨rfl, hb⟩; have HC' := Lib.hid (Below.step HC.out hb); clear HC hb; have HC := HC'; clear HC'; obtain ⟨⟨y1, y2⟩, ⟨y3, y4⟩, y5, y6, y7⟩ := HCL.out w1 HC.out)
                | (go_at_call 14; (with_reducible refine (HGS.out _ HC.out).mono ?_); rintro e w1 ⟨rfl, hb⟩; have HC' := Lib.hid (Below.step HC.out hb); clear HC hb; have HC := HC'; clear HC'; obtain ⟨⟨y1, y2⟩, ⟨y3, y4⟩, y5, y6, y7⟩ := HCL.out w1 HC.out)
                | (go_at_call 15; (with_reducible refine (HD0.out _ HC.out).mono ?_); rintro e w1 ⟨rfl, hb⟩; have HC' := Lib.hid (Below.step HC.out hb); clear HC hb; have HC := HC'; clear HC'; obtain ⟨⟨y1, y2⟩, ⟨y3, y4⟩, y5, y6, y7⟩ := HCL.out w1 HC.out)
                | (go_at_call 11; (with_reducible refine (HT0.out _ HC.out).mono ?_); rintro e w1 ⟨rfl, hb⟩; have HC' := Lib.hid (Below.step HC.out hb); clear HC hb; have HC := HC'; clear HC'; obtain ⟨⟨y1, y2⟩, ⟨y3, y4⟩, y5, y6, y7⟩ := HCL.out w1 HC.out))
              all_goals exact bodyPost_ret (v := .bool true) (by simp [results, Tryd.results3, go_sem]) rfl ⟨rfl, Below.step HB2.out (Below.step HB5.out HC.out)⟩
end Go.Proofs.YtdnochjajoiooaaDoor
