/- The references' Size, Depth, May of trees. -/
import Derived.Test.YtmjkgnknfgoadaaGreatDoorRa
import Derived.Test.YtmjkgnknfgoadaaGreatDoorId
import Derived.Test.YtmjkgnknfgoadaaGreatDoorNm
import Derived.BigQuiet
import Derived.Test.YtmjkgnknfgoadaaGreatDoorIq
namespace Go.Proofs.YtmjkgnknfgoadaaGreatDoor
open Go.RowKit
set_option linter.unusedSimpArgs false
set_option linter.unusedVariables false
structure ModR (t : Lt) : Prop where
  len : t.ls.length ≤ 1000000
  kids : ∀ l ∈ t.ls, l.nd.kids.length ≤ 4294967296
  all : (kidsOf (t.ls.map Ln.nd)).length ≤ 4611686018427387904
theorem r4size_any (t : Lt) (S : Nat → Prop) (w : World) (hT : t.inn w S) (hm : ModR t) :
    Calls Tryz.prog 66 #[t.val] w fun e w' => e = .returned (.int .i64 (sizeT t.tr : Nat)) ∧ Below w.heap.size w w' := by
  obtain ⟨A, c, ls, root⟩ := t
  have HT := Lib.hid hT; have HM := Lib.hid hm
  clear hT hm
  go_enter Tryz.func66, Tryz.ntmps66
  have HB0 := Lib.hid (bx1 w (.cells #[.slice A ls.length c, .int .i64 root] 48))
  have HK0 := Lib.hid (bx_new w (.cells #[.slice A ls.length c, .int .i64 root] 48))
  go_wp2_with fail
  refine (rright_any A c ls root S _ (HT.out.2.below HB0.out) (by have := HM.out.len; simp only at this; omega) HM.out.kids HM.out.all).mono ?_
  rintro e w1 ⟨rfl, hb1⟩
  have HB1 := Lib.hid (Below.step HB0.out hb1); have HK1 := Lib.hid (bx_kept hb1 HK0.out)
  clear hb1
  obtain ⟨k0, k1, _, _⟩ := blk2 HK1.out
  cases hr : rightT ⟨ls.map Ln.nd, root⟩
  · go_wp2_with fail
    go_ret
    exact ⟨by rw [show sizeT (Lt.tr ⟨A, c, ls, root⟩) = 0 from sizeT_no hr]; rfl, HB1.out⟩
  · go_wp2_with fail
    go_ret
    exact ⟨by rw [show sizeT (Lt.tr ⟨A, c, ls, root⟩) = ls.length from (sizeT_yes hr).trans (by simp)]; rfl, HB1.out⟩
set_option maxRecDepth 100000 in
set_option maxHeartbeats 3200000 in
theorem r4depth_any (A : Option Addr) (c : Nat) (ls : List Ln) (root : Int) (S : Nat → Prop) (w : World) (hT : ndL.row w S A ls) (hl : ls.length ≤ 1000000) (hkl : ∀ l ∈ ls, l.nd.kids.length ≤ 4294967296) (hks : (kidsOf (ls.map Ln.nd)).length ≤ 4611686018427387904) :
    Calls Tryz.prog 110 #[.agg #[.slice A ls.length c, .int .i64 root]] w fun e w' => e = .returned (.int .i64 (depT ⟨ls.map Ln.nd, root⟩ : Nat)) ∧ Below w.heap.size w w' := by
  obtain ⟨i0, hi, hz0, hz1, hz2⟩ := info_parts infoInt
  have HT := Lib.hid hT; have HKL := Lib.hid hkl; have HKS := Lib.hid hks
  clear hT hkl hks
  go_enter Tryz.func110, Tryz.ntmps110
  have HB0 := Lib.hid (bx1 w (.cells #[.slice A ls.length c, .int .i64 root] 48))
  have HK0 := Lib.hid (bx_new w (.cells #[.slice A ls.length c, .int .i64 root] 48))
  go_wp2_with fail
  refine (rright_any A c ls root S _ (HT.out.below HB0.out) (by omega) HKL.out HKS.out).mono ?_
  rintro e w1 ⟨rfl, hb1⟩
  have HB1 := Lib.hid (Below.step HB0.out hb1); have HK1 := Lib.hid (bx_kept hb1 HK0.out)
  clear hb1
  obtain ⟨k0, k1, _, _⟩ := blk2 HK1.out
  cases hr : rightT ⟨ls.map Ln.nd, root⟩
  · go_wp2_with fail
    go_ret
    exact ⟨by rw [show depT ⟨ls.map Ln.nd, root⟩ = 0 from depT_no hr]; rfl, HB1.out⟩
  · have HDT := Lib.hid (depT_yes hr)
    have HR := Lib.hid ((rightT_iff _).1 hr)
    have HAH := Lib.hid (rightP_ahead HR.out)
    clear hr
    have F1 := Lib.hid (show i0.bytes * ls.length ≤ 281474976710656 ∧ ls.length ≤ maxLen from ⟨by rw [hz2]; omega, by unfold maxLen; omega⟩)
    go_wp2_with (first
      | (at_make; refine wpList_make_full _ rfl _ _ 54 rfl w1.heap.size 3 i0 _ 1 Tryz.underlying54 hi hz0 hz1 .i64 .i64 _ _ ls.length rfl rfl rfl rfl F1.out.1 F1.out.2 (Nat.le_refl _) ?_; intro w2 hown2 hgrow2; have HO2 := Lib.hid hown2; have HB2 := Lib.hid (show Below w1.heap.size w1 w2 from (Below.refl _ _).grown hgrow2 (Nat.le_refl _) (fun k e => by cases e)); clear hown2 hgrow2; have HK2 := Lib.hid (bx_kept HB2.out HK1.out); obtain ⟨q0, q1, _, _⟩ := blk2 HK2.out)
      | fail)
    have HZ1 := Lib.hid (show w.heap.size < w1.heap.size from (Array.getElem?_eq_some_iff.1 HK1.out).1)
    generalize hZ : w1.heap.size = Z1 at *
    have HZE := Lib.hid hZ; clear hZ
    have HO2' := Lib.hid (show w2.ownsRow Z1 3 1 (.slice (some ⟨Z1, 0, none⟩) ls.length ls.length) ls.length (natV (dpL (ls.map Ln.nd) ls.length 0 0)) from by
      have h := HO2.out
      rw [dpL_start]
      rw [show (Value.int IntKind.i64 0).cells = #[.int .i64 0] from rfl, Nat.mul_one, toList_madeCells_one] at h
      exact h)
    clear HO2 q0 q1
    go_loopw [4] (fun i wr => ∃ k : Nat, k ≤ ls.length ∧ i = .int .i64 k ∧ Hid (wr.ownsRow Z1 3 1 (.slice (some ⟨Z1, 0, none⟩) ls.length ls.length) ls.length (natV (dpL (ls.map Ln.nd) ls.length k 0))) ∧ Hid (Below Z1 w1 wr)) (fun i _ => ls.length - (intOf i).toNat)
    case atStart => exact ⟨0, Nat.zero_le _, rfl, HO2', HB2⟩
    case round =>
      clear HO2' HB2 HK2
      obtain ⟨wo, rfl⟩ : ∃ wo : World, wo = wr := ⟨_, rfl⟩
      obtain ⟨k, hk, rfl, HO, HB⟩ := hrel
      have HBW := Lib.hid (show Below w.heap.size w wo from HB1.out.trans (HB.out.mono (Nat.le_of_lt HZ1.out)))
      have HKW := Lib.hid ((HB.out.block w.heap.size (by have := HZ1.out; exact this)).trans HK1.out)
      obtain ⟨k0, k1, _, _⟩ := blk2 HKW.out
      by_cases hlt : k < ls.length
      · have i1 : (k : Int) < (ls.length : Int) := by omega
        have i2 : (0 : Int) ≤ (k : Int) := by omega
        have HRWK := Lib.hid (show ∀ w', Below w.heap.size w w' → ∃ b off, A = some ⟨b, off, none⟩ ∧ w'.cell? ⟨b, off + k * 9 + 8, none⟩ = some (.slice ls[k].A ls[k].nd.kids.length ls[k].c) from fun w' hb => by
          obtain ⟨b, off, h1, _, _, _, _, _, _, _, _, _, _, h2⟩ := ndRow (HT.out.agree (below_all hb)) k hlt
          exact ⟨b, off, h1, h2⟩)
        have HKD := Lib.hid (show ∀ w', Below w.heap.size w w' → intL.row w' S ls[k].A ls[k].nd.kids from fun w' hb => ndSub (HT.out.agree (below_all hb)) k hlt)
        have HKP := Lib.hid (show ∀ z ∈ ls[k].nd.kids, 0 ≤ z ∧ z < (k : Int) from fun z hz => rightP_kid HR.out (i := k) (n := ls[k].nd) (by simp [hlt]) hz)
        have HKM := Lib.hid (show kidsAt (ls.map Ln.nd) k = ls[k].nd.kids.map Int.toNat by simp [kidsAt, hlt])
        have hkl : ls[k].nd.kids.length ≤ k := right_kids_len HR.out (i := k) (n := ls[k].nd) (by simp [hlt])
        have HZO := Lib.hid (show Z1 < wo.heap.size from (own_blk HO.out Z1 rfl).2)
        generalize ls[k] = ln at *
        obtain ⟨nd, lA, lc⟩ := ln
        simp only at HRWK HKD HKP HKM hkl
        go_wp2_with fail
        go_loopw [5] (fun i wx => ∃ j : Nat, j ≤ nd.kids.length ∧ i = .int .i64 j ∧ Hid (wx.ownsRow Z1 3 1 (.slice (some ⟨Z1, 0, none⟩) ls.length ls.length) ls.length (natV (dpL (ls.map Ln.nd) ls.length k j))) ∧ Hid (Below Z1 w1 wx)) (fun i _ => nd.kids.length - (intOf i).toNat)
        case atStart => exact ⟨0, Nat.zero_le _, rfl, HO, HB⟩
        case round =>
          clear k0 k1 HKW HBW HO HB HZO
          obtain ⟨wx, rfl⟩ : ∃ wx : World, wx = wr := ⟨_, rfl⟩
          obtain ⟨j, hj, rfl, HOX, HBX⟩ := hrel
          have HBWX := Lib.hid (show Below w.heap.size w wx from HB1.out.trans (HBX.out.mono (Nat.le_of_lt HZ1.out)))
          obtain ⟨k0, k1, _, _⟩ := blk2 ((HBX.out.block w.heap.size (by have := HZ1.out; exact this)).trans HK1.out)
          obtain ⟨b, off, rfl, x8⟩ := HRWK.out _ HBWX.out
          have cf := World.ownsRow.frozenAt HOX.out k
          have hck := own_cell HOX.out k hlt (dpL_at (ls.map Ln.nd) ls.length k j k hlt)
          rw [if_neg (Nat.lt_irrefl k), if_pos rfl] at hck
          have hmk := foldl_le (ls.map Ln.nd) HAH.out k j
          by_cases hjl : j < nd.kids.length
          · obtain ⟨cb, co, rfl, _, hcl, v0⟩ := intRow (HKD.out _ HBWX.out) j hjl
            have hz := HKP.out nd.kids[j] (List.getElem_mem hjl)
            obtain ⟨z, hzk⟩ := Int.eq_ofNat_of_zero_le hz.1
            have HKJ := Lib.hid (show ∃ h : j < (kidsAt (ls.map Ln.nd) k).length, (kidsAt (ls.map Ln.nd) k)[j] = z from ⟨by rw [HKM.out]; simpa using hjl, by simp [HKM.out, hzk]⟩)
            rw [hzk] at v0 hz
            clear hzk
            have hzi : z < k := by omega
            have hcz := own_cell HOX.out z (by omega) (dpL_at (ls.map Ln.nd) ls.length k j z (by omega))
            rw [if_pos hzi] at hcz
            have hdz := depN_le HAH.out z
            have HNEW := Lib.hid (show (wx.setCell ⟨Z1, k, none⟩ (.int .i64 ((max ((((kidsAt (ls.map Ln.nd) k).take j).map (depN (ls.map Ln.nd))).foldl max 0) (depN (ls.map Ln.nd) z) : Nat) : Int))).ownsRow Z1 3 1 (.slice (some ⟨Z1, 0, none⟩) ls.length ls.length) ls.length (natV (dpL (ls.map Ln.nd) ls.length k (j + 1))) from by
              obtain ⟨h1, h2⟩ := HKJ.out
              have h := (World.ownsRow.stored HOX.out k (.int .i64 ((max ((((kidsAt (ls.map Ln.nd) k).take j).map (depN (ls.map Ln.nd))).foldl max 0) (depN (ls.map Ln.nd) z) : Nat) : Int))).1
              rw [← h2] at h ⊢
              rwa [dpL_kid (ls.map Ln.nd) ls.length k j h1 hlt] at h)
            generalize (((kidsAt (ls.map Ln.nd) k).take j).map (depN (ls.map Ln.nd))).foldl max 0 = M at *
            generalize depN (ls.map Ln.nd) z = D at *
            have j1 : (j : Int) < (nd.kids.length : Int) := by omega
            have j2 : (0 : Int) ≤ (j : Int) := by omega
            have z1 : (z : Int) < (ls.length : Int) := by omega
            have z2 : (0 : Int) ≤ (z : Int) := by omega
            go_upto_region 10 with (fail)
            go_still_tail 20, (by kernel_rfl)
            change wpList _ _ _ _ _ wx.drew
            have cf2 : wx.drew.frozen? ⟨Z1, k, none⟩ = false := cf
            have hck2 : wx.drew.cell? ⟨Z1, k, none⟩ = some (.int .i64 (M : Int)) := hck
            have HNEW2 := Lib.hid (max_cast M D ▸ HNEW.out)
            clear hck hcz cf HNEW
            go_wp2_with fail
            exact ⟨⟨j + 1, by omega, by go_num, Lib.hid (show ((wx.setCell ⟨Z1, k, none⟩ (.int .i64 (max (M : Int) (D : Int)))).drew).ownsRow _ _ _ _ _ _ from HNEW2.out), Lib.hid ((HBX.out.setCell (p := ⟨Z1, k, none⟩) (Nat.le_refl _) _).drew)⟩, by simp only [intOf]; omega⟩
          · have j1 : ¬ (j : Int) < (nd.kids.length : Int) := by omega
            have HNEW := Lib.hid (show (wx.setCell ⟨Z1, k, none⟩ (.int .i64 (((((kidsAt (ls.map Ln.nd) k).take j).map (depN (ls.map Ln.nd))).foldl max 0 + 1 : Nat) : Int))).ownsRow Z1 3 1 (.slice (some ⟨Z1, 0, none⟩) ls.length ls.length) ls.length (natV (dpL (ls.map Ln.nd) ls.length (k + 1) 0)) from by
              have h := (World.ownsRow.stored HOX.out k (.int .i64 (((((kidsAt (ls.map Ln.nd) k).take j).map (depN (ls.map Ln.nd))).foldl max 0 + 1 : Nat) : Int))).1
              rwa [dpL_end (ls.map Ln.nd) HAH.out ls.length k j (by rw [HKM.out]; simp; omega) hlt] at h)
            generalize (((kidsAt (ls.map Ln.nd) k).take j).map (depN (ls.map Ln.nd))).foldl max 0 = M at *
            have e1 : IntKind.i64.wrap ((M : Int) + 1) = (M : Int) + 1 := IntWalk.i64_in _ (by omega)
            go_wp2_with fail
            refine ⟨⟨k + 1, by omega, by go_num, HNEW, Lib.hid (HBX.out.setCell (p := ⟨Z1, k, none⟩) (Nat.le_refl _) _)⟩, by simp only [intOf]; omega⟩
      · have i1 : ¬ (k : Int) < (ls.length : Int) := by omega
        obtain rfl : k = ls.length := by omega
        have hroot := HR.out.1
        simp only [List.length_map] at hroot
        obtain ⟨ro, rfl⟩ := Int.eq_ofNat_of_zero_le hroot.1
        have hro : ro < ls.length := by omega
        have hce := own_cell HO.out ro hro (dpL_at (ls.map Ln.nd) ls.length ls.length 0 ro hro)
        rw [if_pos hro] at hce
        have i2 : (ro : Int) < (ls.length : Int) := by omega
        have i3 : (0 : Int) ≤ (ro : Int) := by omega
        have HDT2 := Lib.hid (show depT ⟨ls.map Ln.nd, (ro : Int)⟩ = depN (ls.map Ln.nd) ro from HDT.out)
        generalize depN (ls.map Ln.nd) ro = dd at *
        go_wp2_with fail
        go_ret
        exact ⟨by rw [HDT2.out]; rfl, HBW.out⟩
set_option maxRecDepth 100000 in
set_option maxHeartbeats 1600000 in
theorem r4may_any (t : Lt) (S : Nat → Prop) (w : World) (hT : t.inn w S) (hm : ModR t) :
    Calls Tryz.prog 64 #[t.val] w fun e w' => e = .returned (.bool (mayT t.tr)) ∧ Below w.heap.size w w' := by
  obtain ⟨A, c, ls, root⟩ := t
  have hl := hm.len
  simp only at hl
  have HT := Lib.hid hT.2; have HM := Lib.hid hm
  have HMT := Lib.hid (show mayT (Lt.tr ⟨A, c, ls, root⟩) = (rightT ⟨ls.map Ln.nd, root⟩ && decide (ls.length ≤ 1024) && decide (depT ⟨ls.map Ln.nd, root⟩ ≤ 32)) from by
    show (decide ((ls.map Ln.nd).length ≤ 1024) && rightT ⟨ls.map Ln.nd, root⟩ && _) = _
    rw [List.length_map, Bool.and_comm (decide (ls.length ≤ 1024))]; rfl)
  clear hT hm
  show Calls _ _ _ _ fun e w' => e = .returned (.bool (mayT (Lt.tr ⟨A, c, ls, root⟩))) ∧ Below w.heap.size w w'
  rw [HMT.out]
  clear HMT
  have HRR := Lib.hid (show ∀ w', Below w.heap.size w w' → Calls Tryz.prog 109 #[.agg #[.slice A ls.length c, .int .i64 root]] w' fun e w'' => e = .returned (.bool (rightT ⟨ls.map Ln.nd, root⟩)) ∧ Below w'.heap.size w' w'' from fun w' hb => rright_any A c ls root S w' (HT.out.below hb) (by omega) HM.out.kids HM.out.all)
  have HDD := Lib.hid (show ∀ w', Below w.heap.size w w' → Calls Tryz.prog 110 #[.agg #[.slice A ls.length c, .int .i64 root]] w' fun e w'' => e = .returned (.int .i64 (depT ⟨ls.map Ln.nd, root⟩ : Nat)) ∧ Below w'.heap.size w' w'' from fun w' hb => r4depth_any A c ls root S w' (HT.out.below hb) hl HM.out.kids HM.out.all)
  clear HM HT
  go_enter Tryz.func64, Tryz.ntmps64
  have HB0 := Lib.hid (bx1 w (.cells #[.slice A ls.length c, .int .i64 root] 48))
  have HK0 := Lib.hid (bx_new w (.cells #[.slice A ls.length c, .int .i64 root] 48))
  generalize depT ⟨ls.map Ln.nd, root⟩ = dp at *
  cases hr : rightT ⟨ls.map Ln.nd, root⟩
  · rw [hr] at HRR
    clear hr
    go_wp2_with (first
      | (go_at_call 109; refine (HRR.out _ HB0.out).mono ?_; rintro e w1 ⟨rfl, hb⟩; have HB1 := Lib.hid (Below.step HB0.out hb); have HK1 := Lib.hid (bx_kept hb HK0.out); clear hb; obtain ⟨k0, k1, _, _⟩ := blk2 HK1.out)
      | fail)
    go_ret
    exact ⟨rfl, HB1.out⟩
  · rw [hr] at HRR
    clear hr
    by_cases h1 : ls.length ≤ 1024
    · have h1' : (ls.length : Int) ≤ 1024 := by omega
      rw [decide_eq_true h1]
      clear h1
      go_wp2_with (first
        | (go_at_call 109; refine (HRR.out _ HB0.out).mono ?_; rintro e w1 ⟨rfl, hb⟩; have HB1 := Lib.hid (Below.step HB0.out hb); have HK1 := Lib.hid (bx_kept hb HK0.out); clear hb; obtain ⟨k0, k1, _, _⟩ := blk2 HK1.out)
        | (go_at_call 110; refine (HDD.out _ HB1.out).mono ?_; rintro e w2 ⟨rfl, hb⟩; have HB2 := Lib.hid (Below.step HB1.out hb); clear hb)
        | fail)
      go_ret
      exact ⟨ret_bool (show decide ((dp : Int) ≤ 32) = (true && true && decide (dp ≤ 32)) from by have h : ((dp : Int) ≤ 32) = (dp ≤ 32) := propext (by omega); simp [h]), HB2.out⟩
    · have h1' : ¬ (ls.length : Int) ≤ 1024 := by omega
      rw [decide_eq_false h1]
      clear h1
      go_wp2_with (first
        | (go_at_call 109; refine (HRR.out _ HB0.out).mono ?_; rintro e w1 ⟨rfl, hb⟩; have HB1 := Lib.hid (Below.step HB0.out hb); have HK1 := Lib.hid (bx_kept hb HK0.out); clear hb; obtain ⟨k0, k1, _, _⟩ := blk2 HK1.out)
        | fail)
      go_ret
      exact ⟨rfl, HB1.out⟩
end Go.Proofs.YtmjkgnknfgoadaaGreatDoor
/- The reference's Normal. -/
namespace Go.Proofs.YtmjkgnknfgoadaaGreatDoor
open Go.RowKit
set_option linter.unusedSimpArgs false
set_option linter.unusedVariables false
def badK (kd kz : Int) : Bool := decide (kd = 4 ∧ (kz = 4 ∨ kz = 0) ∨ kd = 5 ∧ kz = 5)
theorem shutN_badK (l : List Nd) (n : Nd) : shutN l n = (n.kids.map Int.toNat).all fun z => !badK n.kind (ndAt l z).kind := by
  unfold shutN
  rw [List.all_map]
  split
  · rename_i h
    congr 1
    funext k
    simp only [Function.comp, badK, ← decide_not]
    apply decide_eq_decide.2
    rcases h with h | h <;> rw [h] <;> simp
  · rename_i h
    symm
    rw [List.all_eq_true]
    intro z hz
    simp only [not_or] at h
    simp [badK, h.1, h.2]
set_option maxRecDepth 100000 in
set_option maxHeartbeats 3200000 in
theorem r5normal_any (A : Option Addr) (c : Nat) (ls : List Ln) (root : Int) (S : Nat → Prop) (w : World) (hT : ndL.row w S A ls) (hl : ls.length ≤ 1000000) (hkl : ∀ l ∈ ls, l.nd.kids.length ≤ 4294967296) (hks : (kidsOf (ls.map Ln.nd)).length ≤ 4611686018427387904) :
    Calls Tryz.prog 63 #[.agg #[.slice A ls.length c, .int .i64 root]] w fun e w' => e = .returned (.bool (normT ⟨ls.map Ln.nd, root⟩)) ∧ Below w.heap.size w w' := by
  have HT := Lib.hid hT; have HKL := Lib.hid hkl; have HKS := Lib.hid hks
  clear hT hkl hks
  go_enter Tryz.func63, Tryz.ntmps63
  have HB0 := Lib.hid (bx1 w (.cells #[.slice A ls.length c, .int .i64 root] 48))
  have HK0 := Lib.hid (bx_new w (.cells #[.slice A ls.length c, .int .i64 root] 48))
  go_wp2_with fail
  refine (rright_any A c ls root S _ (HT.out.below HB0.out) (by omega) HKL.out HKS.out).mono ?_
  rintro e w1 ⟨rfl, hb1⟩
  have HB1 := Lib.hid (Below.step HB0.out hb1); have HK1 := Lib.hid (bx_kept hb1 HK0.out)
  clear hb1
  obtain ⟨k0, k1, _, _⟩ := blk2 HK1.out
  cases hr : rightT ⟨ls.map Ln.nd, root⟩
  · go_wp2_with fail
    go_ret
    exact ⟨ret_bool (normT_no hr).symm, HB1.out⟩
  · have HRT := Lib.hid hr
    have HR := Lib.hid ((rightT_iff _).1 hr)
    clear hr
    go_wp2_with fail
    clear k0 k1
    go_loopw [3] (fun i wr => ∃ k : Nat, k ≤ ls.length ∧ i = .int .i64 k ∧ Hid (∀ i (hi : i < (ls.map Ln.nd).length), i < k → shutN (ls.map Ln.nd) (ls.map Ln.nd)[i] = true) ∧ Hid (Below w1.heap.size w1 wr)) (fun i _ => ls.length - (intOf i).toNat)
    case atStart => exact ⟨0, Nat.zero_le _, rfl, Lib.hid (fun i hi h => by omega), Lib.hid (Below.refl _ _)⟩
    case round =>
      obtain ⟨wo, rfl⟩ : ∃ wo : World, wo = wr := ⟨_, rfl⟩
      obtain ⟨k, hk, rfl, HS, HB⟩ := hrel
      have HBW := Lib.hid (Below.step HB1.out HB.out)
      obtain ⟨k0, k1, _, _⟩ := blk2 (bx_kept HB.out HK1.out)
      by_cases hlt : k < ls.length
      · obtain ⟨b, off, rfl, _, _, x0, x1, x2, x3, x4, x5, x6, x7, x8⟩ := ndRow (HT.out.agree (below_all HBW.out)) k hlt
        have i1 : (k : Int) < (ls.length : Int) := by omega
        have i2 : (0 : Int) ≤ (k : Int) := by omega
        have HKD := Lib.hid (show ∀ w', Below w.heap.size w w' → intL.row w' S ls[k].A ls[k].nd.kids from fun w' hb => ndSub (HT.out.agree (below_all hb)) k hlt)
        have HKP := Lib.hid (show ∀ z ∈ ls[k].nd.kids, 0 ≤ z ∧ z < (k : Int) from fun z hz => rightP_kid HR.out (i := k) (n := ls[k].nd) (by simp [hlt]) hz)
        have hkl : ls[k].nd.kids.length ≤ k := right_kids_len HR.out (i := k) (n := ls[k].nd) (by simp [hlt])
        have HNX := Lib.hid (show ∀ h : k < (ls.map Ln.nd).length, (ls.map Ln.nd)[k] = ls[k].nd from fun h => by simp)
        have hml : k < (ls.map Ln.nd).length := by simpa using hlt
        generalize ls[k] = ln at *
        obtain ⟨nd, lA, lc⟩ := ln
        simp only at x0 x1 x2 x3 x4 x5 x6 x7 x8 HKD HKP hkl HNX
        have HNEXT := Lib.hid (show shutN (ls.map Ln.nd) nd = true → ∀ i (hi : i < (ls.map Ln.nd).length), i < k + 1 → shutN (ls.map Ln.nd) (ls.map Ln.nd)[i] = true from fun h i hi hik => by
          by_cases e : i = k
          · subst e; rw [HNX.out hi]; exact h
          · exact HS.out i hi (by omega))
        have HBAD := Lib.hid (show shutN (ls.map Ln.nd) nd = false → normT ⟨ls.map Ln.nd, root⟩ = false from fun h => normT_bad (t := ⟨ls.map Ln.nd, root⟩) (i := k) hml (by show shutN (ls.map Ln.nd) (ls.map Ln.nd)[k] = false; rw [HNX.out hml]; exact h))
        have HSB := Lib.hid (shutN_badK (ls.map Ln.nd) nd)
        clear HNX hml
        obtain ⟨kd, s0, s1, s2, s3, tx, mn, mx, kids⟩ := nd
        simp only at x0 x1 x2 x3 x4 x5 x6 x7 x8 HKD HKP hkl HSB
        have hW0 := bx1 wo (.cells #[.int .u8 kd, .int .u64 s0, .int .u64 s1, .int .u64 s2, .int .u64 s3, .string tx, .int .i64 mn, .int .i64 mx, .slice lA kids.length lc] 71)
        have HB0' := Lib.hid (Below.step HB.out hW0)
        have HNB := Lib.hid (bx_new wo (.cells #[.int .u8 kd, .int .u64 s0, .int .u64 s1, .int .u64 s2, .int .u64 s3, .string tx, .int .i64 mn, .int .i64 mx, .slice lA kids.length lc] 71))
        clear hW0
        go_wp2_with fail
        clear x0 x1 x2 x3 x4 x5 x6 x7 x8 k0 k1
        go_loopw [5] (fun i wx => ∃ j : Nat, j ≤ kids.length ∧ i = .int .i64 j ∧ Hid (∀ z ∈ (kids.map Int.toNat).take j, badK kd (ndAt (ls.map Ln.nd) z).kind = false) ∧ Hid (wx.heap[wo.heap.size]? = some (.cells #[.int .u8 kd, .int .u64 s0, .int .u64 s1, .int .u64 s2, .int .u64 s3, .string tx, .int .i64 mn, .int .i64 mx, .slice lA kids.length lc] 71 (0, 0))) ∧ Hid (Below w1.heap.size w1 wx)) (fun i _ => kids.length - (intOf i).toNat)
        case atStart => exact ⟨0, Nat.zero_le _, rfl, Lib.hid (by simp), HNB, HB0'⟩
        case round =>
          clear HNB HB0'
          obtain ⟨wx, rfl⟩ : ∃ wx : World, wx = wr := ⟨_, rfl⟩
          obtain ⟨j, hj, rfl, HKS, HNX, HBX⟩ := hrel
          have HBWX := Lib.hid (Below.step HB1.out HBX.out)
          obtain ⟨y0, _, _, _, _, _, _, _, y8, _⟩ := blk9 HNX.out
          by_cases hjl : j < kids.length
          · obtain ⟨cb, co, rfl, _, hcl, v0⟩ := intRow (HKD.out _ HBWX.out) j hjl
            have hz := HKP.out kids[j] (List.getElem_mem hjl)
            obtain ⟨z, hzk⟩ := Int.eq_ofNat_of_zero_le hz.1
            have HTK := Lib.hid (show (kids.map Int.toNat).take (j + 1) = (kids.map Int.toNat).take j ++ [z] from by
              rw [List.take_succ_eq_append_getElem (by simpa using hjl)]; simp [hzk])
            have HZM := Lib.hid (show z ∈ kids.map Int.toNat from List.mem_map.2 ⟨kids[j], List.getElem_mem hjl, by rw [hzk]; rfl⟩)
            rw [hzk] at v0 hz
            clear hzk
            have hzl : z < ls.length := by omega
            obtain ⟨b', off', hA', _, hbl', z0, _⟩ := ndRow (HT.out.agree (below_all HBWX.out)) z hzl
            cases hA'
            obtain ⟨k0, k1, _, _⟩ := blk2 (bx_kept HBX.out HK1.out)
            have HKO := Lib.hid (show (ndAt (ls.map Ln.nd) z).kind = ls[z].nd.kind from by simp [ndAt, hzl])
            generalize ls[z].nd.kind = kz at *
            have HNO := Lib.hid (show badK kd kz = true → normT ⟨ls.map Ln.nd, root⟩ = false from fun h => HBAD.out (by rw [HSB.out, List.all_eq_false]; exact ⟨z, HZM.out, by rw [HKO.out]; simp [h]⟩))
            have HYE := Lib.hid (show badK kd kz = false → ∀ z ∈ (kids.map Int.toNat).take (j + 1), badK kd (ndAt (ls.map Ln.nd) z).kind = false from fun h x hx => by
              rw [HTK.out] at hx
              rcases List.mem_append.1 hx with hx | hx
              · exact HKS.out x hx
              · simp only [List.mem_singleton] at hx; subst hx; rw [HKO.out]; exact h)
            have j1 : (j : Int) < (kids.length : Int) := by omega
            have j2 : (0 : Int) ≤ (j : Int) := by omega
            have z1 : (z : Int) < (ls.length : Int) := by omega
            have z2 : (0 : Int) ≤ (z : Int) := by omega
            clear hz HKS HKO HZM HTK
            go_upto_region 10 with (fail)
            go_quiet (fail)
            have hWR := drewN_below (Below.refl wx.heap.size wx) nq
            have HNX2 := Lib.hid (bx_kept hWR HNX.out)
            have HBX2 := Lib.hid (Below.step HBX.out hWR)
            generalize hwd : wx.drewN nq = w2 at *
            clear hwd hWR y0 y8 HNX HBX HBWX k0 k1 v0 z0
            obtain ⟨y0, _, _, _, _, _, _, _, y8, _⟩ := blk9 HNX2.out
            have hcase : (kd = 4 ∧ kz = 4) ∨ (kd = 4 ∧ kz = 0) ∨ (kd = 4 ∧ kz ≠ 4 ∧ kz ≠ 0) ∨ (kd = 5 ∧ kz = 5) ∨ (kd = 5 ∧ kz ≠ 5) ∨ (kd ≠ 4 ∧ kd ≠ 5) := by omega
            rcases hcase with ⟨h1, h2⟩ | ⟨h1, h2⟩ | ⟨h1, h2, h3⟩ | ⟨h1, h2⟩ | ⟨h1, h2⟩ | ⟨h1, h2⟩
            · have f1 : (kd == 4) = true := by simpa using h1
              have f2 : (kz == 4) = true := by simpa using h2
              have HN1 := Lib.hid (HNO.out (by subst h1; subst h2; rfl))
              clear h1 h2
              as_aux_lemma =>
                go_wp2_with fail
                go_ret
                exact ⟨ret_bool HN1.out.symm, Below.step HB1.out HBX2.out⟩
            · have f1 : (kd == 4) = true := by simpa using h1
              have f2 : (kz == 4) = false := by subst h2; decide
              have f3 : (kz == 0) = true := by simpa using h2
              have HN1 := Lib.hid (HNO.out (by subst h1; subst h2; rfl))
              clear h1 h2
              as_aux_lemma =>
                go_wp2_with fail
                go_ret
                exact ⟨ret_bool HN1.out.symm, Below.step HB1.out HBX2.out⟩
            · have f1 : (kd == 4) = true := by simpa using h1
              have f2 : (kz == 4) = false := by simpa using h2
              have f3 : (kz == 0) = false := by simpa using h3
              have f4 : (kd == 5) = false := by subst h1; decide
              have HN1 := Lib.hid (HYE.out (by subst h1; simp [badK, h2, h3]))
              clear h1 h2 h3
              as_aux_lemma =>
                go_wp2_with fail
                exact ⟨⟨j + 1, by omega, by go_num, HN1, HNX2, HBX2⟩, by simp only [intOf]; omega⟩
            · have f1 : (kd == 4) = false := by subst h1; decide
              have f4 : (kd == 5) = true := by simpa using h1
              have f5 : (kz == 5) = true := by simpa using h2
              have HN1 := Lib.hid (HNO.out (by subst h1; subst h2; rfl))
              clear h1 h2
              as_aux_lemma =>
                go_wp2_with fail
                go_ret
                exact ⟨ret_bool HN1.out.symm, Below.step HB1.out HBX2.out⟩
            · have f1 : (kd == 4) = false := by subst h1; decide
              have f4 : (kd == 5) = true := by simpa using h1
              have f5 : (kz == 5) = false := by simpa using h2
              have HN1 := Lib.hid (HYE.out (by subst h1; simp [badK, h2]))
              clear h1 h2
              as_aux_lemma =>
                go_wp2_with fail
                exact ⟨⟨j + 1, by omega, by go_num, HN1, HNX2, HBX2⟩, by simp only [intOf]; omega⟩
            · have f1 : (kd == 4) = false := by simpa using h1
              have f4 : (kd == 5) = false := by simpa using h2
              have HN1 := Lib.hid (HYE.out (by simp [badK, h1, h2]))
              clear h1 h2
              as_aux_lemma =>
                go_wp2_with fail
                exact ⟨⟨j + 1, by omega, by go_num, HN1, HNX2, HBX2⟩, by simp only [intOf]; omega⟩
          · have j1 : ¬ (j : Int) < (kids.length : Int) := by omega
            have HYES := Lib.hid (show shutN (ls.map Ln.nd) ⟨kd, s0, s1, s2, s3, tx, mn, mx, kids⟩ = true from by
              rw [HSB.out, List.all_eq_true]
              intro z hz
              rw [HKS.out z (by rw [List.take_of_length_le (by simp; omega)]; exact hz)]; rfl)
            go_wp2_with fail
            exact ⟨⟨k + 1, by omega, by go_num, Lib.hid (HNEXT.out HYES.out), HBX⟩, by simp only [intOf]; omega⟩
      · have i1 : ¬ (k : Int) < (ls.length : Int) := by omega
        have HE := Lib.hid (normT_all HRT.out fun i hi => HS.out i hi (by simp at hi; omega))
        go_wp2_with fail
        go_ret
        exact ⟨ret_bool HE.out.symm, HBW.out⟩
end Go.Proofs.YtmjkgnknfgoadaaGreatDoor
/- The reference's Find, Names, Nodes of grammars. -/
namespace Go.Proofs.YtmjkgnknfgoadaaGreatDoor
open Go.RowKit
set_option linter.unusedSimpArgs false
set_option linter.unusedVariables false
set_option maxRecDepth 100000 in
set_option maxHeartbeats 3200000 in
theorem r9find_any (A : Option Addr) (c : Nat) (ds : List Ld) (s : ByteArray) (S : Nat → Prop) (w : World) (hT : dfL.row w S A ds) (hl : ds.length ≤ 4294967296) :
    Calls Tryz.prog 13 #[.agg #[.slice A ds.length c], .string s] w fun e w' => e = .returned (.int .i64 (findG (ds.map Ld.df) s)) ∧ Below w.heap.size w w' := by
  have HT := Lib.hid hT; clear hT
  go_enter Tryz.func13, Tryz.ntmps13
  have HB0 := Lib.hid (bx1 w (.cells #[.slice A ds.length c] 24))
  have HK0 := Lib.hid (bx_new w (.cells #[.slice A ds.length c] 24))
  go_wp2_with fail
  go_loopw [5] (fun i wr => FindRel w w.heap.size A c ds s i wr) (fun i _ => ds.length - (intOf i).toNat)
  case atStart => exact ⟨0, Nat.zero_le _, rfl, Lib.hid (by simp), HK0, HB0⟩
  case round =>
    clear HK0 HB0
    obtain ⟨k, hk, rfl, HNO, HK, HB⟩ := hrel
    obtain ⟨p0, _⟩ := blk1 HK.out
    by_cases hlt : k < ds.length
    · have i1 : (k : Int) < (ds.length : Int) := by omega
      have i2 : (0 : Int) ≤ (k : Int) := by omega
      obtain ⟨b, o, rfl, _, _, x0, x1, x2⟩ := dfRow (HT.out.below HB.out) k hlt
      have HNM := Lib.hid (show ((ds.map Ld.df)[k]'(by simpa using hlt)).name = ds[k].name from by simp [Ld.df])
      generalize hd : ds[k] = d at *
      have HDD := Lib.hid hd; clear hd
      by_cases he : d.name = s
      · have e1 : (d.name.toList == s.toList) = true := by rw [he]; simp
        have HF := Lib.hid (findG_skip (ds.map Ld.df) s k (by simpa using hlt) HNO.out (HNM.out.trans he))
        clear he
        as_aux_lemma =>
          go_wp2_with fail
          go_ret
          exact ⟨by rw [HF.out]; rfl, HB.out⟩
      · have e1 : (d.name.toList == s.toList) = false := by
          rw [beq_eq_false_iff_ne]
          intro h
          rw [Lib.toList_data, Lib.toList_data] at h
          exact he (text_ext h)
        have HE := Lib.hid he; clear he
        as_aux_lemma =>
          go_wp2_with fail
          exact ⟨⟨k + 1, by omega, by go_num, Lib.hid (fun x hx => by
            rw [List.take_succ_eq_append_getElem (by simpa using hlt)] at hx
            rcases List.mem_append.1 hx with hx | hx
            · exact HNO.out x hx
            · simp only [List.mem_singleton] at hx; subst hx; rw [HNM.out]; exact HE.out), HK, HB⟩, by simp only [intOf]; omega⟩
    · obtain rfl : k = ds.length := by omega
      have HF := Lib.hid (findG_none (ds.map Ld.df) s (fun d hd => HNO.out d (by rw [List.take_of_length_le (by simp)]; exact hd)))
      as_aux_lemma =>
        go_wp2_with fail
        go_ret
        exact ⟨by rw [HF.out]; rfl, HB.out⟩
set_option maxRecDepth 100000 in
set_option maxHeartbeats 3200000 in
theorem r9nodes_any (A : Option Addr) (c : Nat) (ds : List Ld) (S : Nat → Prop) (w : World) (hT : dfL.row w S A ds) (hl : ds.length ≤ 100000) (hm : ∀ d ∈ ds, ModR d.t) :
    Calls Tryz.prog 17 #[.agg #[.slice A ds.length c]] w fun e w' => e = .returned (.int .i64 (nodesG (ds.map Ld.df) : Nat)) ∧ Below w.heap.size w w' := by
  have HT := Lib.hid hT; have HM := Lib.hid hm
  clear hT hm
  go_enter Tryz.func17, Tryz.ntmps17
  have HB0 := Lib.hid (bx1 w (.cells #[.slice A ds.length c] 24))
  have HK0 := Lib.hid (bx_new w (.cells #[.slice A ds.length c] 24))
  go_wp2_with fail
  go_loopw [4, 3] (fun i s wr => ∃ k : Nat, k ≤ ds.length ∧ i = .int .i64 k ∧ s = .int .i64 (nodesG ((ds.map Ld.df).take k) : Nat) ∧ Hid (wr.heap[w.heap.size]? = some (.cells #[.slice A ds.length c] 24 (0, 0))) ∧ Hid (Below w.heap.size w wr)) (fun i _ _ => ds.length - (intOf i).toNat)
  case atStart => exact ⟨0, by omega, rfl, rfl, HK0, HB0⟩
  case round =>
    obtain ⟨k, hk, rfl, rfl, HK, HB⟩ := hrel
    obtain ⟨p0, _⟩ := blk1 HK.out
    by_cases hlt : k < ds.length
    · obtain ⟨b, o, rfl, _, _, x0, x1, x2⟩ := dfRow (HT.out.agree (below_all HB.out)) k hlt
      have i1 : (k : Int) < (ds.length : Int) := by omega
      have i2 : (0 : Int) ≤ (k : Int) := by omega
      have HNT := Lib.hid (nodesG_take (ds.map Ld.df) k (by simpa using hlt))
      have HI := Lib.hid (dfSub (HT.out.agree (below_all HB.out)) k hlt)
      have HMK := Lib.hid (HM.out ds[k] (List.getElem_mem hlt))
      have hb1 : nodesG ((ds.map Ld.df).take k) ≤ 100000 * 4294967296 := by
        refine Nat.le_trans (nodesG_le _ fun d hd => ?_) ?_
        · obtain ⟨x, hx, rfl⟩ := List.mem_map.1 (List.mem_of_mem_take hd)
          have := (HM.out x hx).len
          simp only [Ld.df, Lt.tr, List.length_map]; omega
        · simp only [List.length_take, List.length_map]; exact Nat.mul_le_mul_right _ (by omega)
      have hb2 : sizeT ((ds.map Ld.df)[k]'(by simpa using hlt)).body ≤ 4294967296 := by
        refine Nat.le_trans (sizeT_le _) ?_
        have := HMK.out.len
        simp only [List.getElem_map, Ld.df, Lt.tr, List.length_map]; omega
      have hbd : ((ds.map Ld.df)[k]'(by simpa using hlt)).body = ds[k].t.tr := by simp [Ld.df]
      rw [hbd] at hb2
      have HNT2 := Lib.hid (HNT.out.trans (by rw [hbd]))
      clear HNT hbd
      generalize nodesG ((ds.map Ld.df).take k) = sm at *
      generalize ds[k] = d at *
      go_wp2_with (go_at_call 66; refine (r4size_any d.t S _ HI.out HMK.out).mono ?_; rintro e w1 ⟨rfl, hb⟩; have HB1 := Lib.hid (Below.step HB.out hb); have HK1 := Lib.hid (bx_kept hb HK.out); clear hb)
      exact ⟨⟨k + 1, by omega, by go_num, by rw [HNT2.out]; go_num, HK1, HB1⟩, by simp only [intOf]; omega⟩
    · have HE := Lib.hid (show (ds.map Ld.df).take k = ds.map Ld.df from List.take_of_length_le (by simp; omega))
      go_wp2_with fail
      go_ret
      exact ⟨by rw [HE.out]; rfl, HB.out⟩
end Go.Proofs.YtmjkgnknfgoadaaGreatDoor
