/- The walk of PrintLines. -/
import Derived.Test.YtjlohjdmekbipaaDoorRe
import Derived.Test.YtjlohjdmekbipaaDoorRl
import Derived.Test.YtjlohjdmekbipaaDoorRm
import Derived.Test.YtjlohjdmekbipaaDoorHe
namespace Go.Proofs.YtjlohjdmekbipaaDoor
open Go.RowKit
set_option linter.unusedSimpArgs false
set_option linter.unusedVariables false

/-- All lines so far, one behind the other. -/
def linesT (g : List Df) : List UInt8 := g.flatMap defB
def someT (g : List Df) : Bool := g.all fun d => !(defB d).isEmpty
theorem some_iff (g : List Df) : someT g = true ↔ ∀ d ∈ g, okD d := by
  simp only [someT, List.all_eq_true, Bool.not_eq_true', List.isEmpty_eq_false_iff]
  exact ⟨fun h d hd => (defB_iff d).1 (h d hd), fun h d hd => (defB_iff d).2 (h d hd)⟩
def LinRel (w : World) (A : Option Addr) (c : Nat) (la : List Ld) (v4 v5 v6 : Value) (wr : World) : Prop :=
  ∃ k : Nat, k ≤ la.length ∧ v6 = .int .i64 k ∧ v4 = .string ⟨(linesT ((la.map Ld.df).take k)).toArray⟩ ∧ v5 = .bool (decide (0 < la.length) && someT ((la.map Ld.df).take k)) ∧ Hid (wr.heap[w.heap.size]? = some (.cells #[.slice A la.length c] 34 (0, 0))) ∧ Hid (Below w.heap.size w wr)

set_option maxRecDepth 100000 in
set_option maxHeartbeats 12800000 in
theorem lines_walk (A : Option Addr) (c : Nat) (la : List Ld) (S : Nat → Prop) (w : World) (hA : dfL.row w S A la) (hl1 : la.length ≤ 281474976710656) (hp : PTabs w) :
    Calls Tryd.prog 4 #[.agg #[.slice A la.length c]] w fun e w' => e = .returned (.bool true) ∧ Below w.heap.size w w' := by
  have HA := Lib.hid hA; have HP := Lib.hid hp
  clear hA hp
  have HB0 := Lib.hid (bx1 w (.cells #[.slice A la.length c] 34))
  have HK0 := Lib.hid (bx_new w (.cells #[.slice A la.length c] 34))
  go_enter Tryd.func4, Tryd.ntmps4
  go_wp2_with fail
  refine (works_any _ (HP.out.below HB0.out)).mono ?_
  rintro e w1 ⟨rfl, hb⟩
  have HK1 := Lib.hid (bx_kept hb HK0.out); have HB1 := Lib.hid (Below.step HB0.out hb)
  clear hb HB0 HK0
  obtain ⟨p1, p2⟩ := blk1 HK1.out
  go_wp2_with fail
  refine (bodies_any A c la S _ (HA.out.below HB1.out) hl1).mono ?_
  rintro e w2 ⟨V, vc, ks, rfl, hks, hrow, hb⟩
  have HK2 := Lib.hid (bx_kept hb HK1.out); have HB2 := Lib.hid (Below.step HB1.out hb)
  have HKS := Lib.hid hks; have HRW := Lib.hid hrow
  have hkl : ks.length ≤ 3000 := by rw [hks, List.length_map, List.length_take]; omega
  clear hb HB1 HK1 hks hrow p1 p2
  go_wp2_with fail
  refine (long_any ks V vc (fun _ => True) _ HRW.out (by omega)).mono ?_
  rintro e w3 ⟨r, rfl, hr, hb⟩
  have HK3 := Lib.hid (bx_kept hb HK2.out); have HB3 := Lib.hid (Below.step HB2.out hb)
  clear hb HB2 HK2 HRW hkl
  obtain ⟨p1, p2⟩ := blk1 HK3.out
  cases r
  · by_cases h200 : 200 < la.length
    · have h2 : (200 : Int) < (la.length : Int) := by omega
      as_aux_lemma =>
        go_wp2_with (go_at_call 14; refine (works_any _ (HP.out.below HB3.out)).mono ?_; rintro e w4 ⟨rfl, hb4⟩; have HB4 := Lib.hid (Below.step HB3.out hb4); clear hb4)
        go_ret
        exact ⟨rfl, HB4.out⟩
    · have h2 : ¬ (200 : Int) < (la.length : Int) := by omega
      have HS := Lib.hid (show ∀ d ∈ la, Small8 d.t from fun d hd => hr rfl d.t (by rw [HKS.out]; exact List.mem_map.2 ⟨d, by rw [List.take_of_length_le (by omega)]; exact hd, rfl⟩))
      clear hr HKS
      have HPG := Lib.hid (show ∀ w', Below w.heap.size w w' → Calls Tryd.prog 22 #[.agg #[.slice A la.length c]] w' fun e w'' => e = .returned (.string ⟨(gramT (la.map Ld.df)).toArray⟩) ∧ Below w'.heap.size w' w'' from fun w' hb => pgram_any A c la S w' (HA.out.below hb) (by omega) (fun d hd => by have := (HS.out d hd).1; omega) (HP.out.below hb))
      have HE := Lib.hid (Below.refl w3.heap.size w3)
      go_upto_region 3 with (fail)
      go_cut [3, 4, 5] (fun v3 v4 v5 wx => v3 = .string ⟨(gramT (la.map Ld.df)).toArray⟩ ∧ v4 = .string ⟨#[]⟩ ∧ v5 = .bool (decide (0 < la.length)) ∧ Hid (Below w3.heap.size w3 wx))
      case first =>
        go_region_held3 (fun w' => w'.cell? ⟨w.heap.size, 0, none⟩ = some (.slice A la.length c))
          (exact (blk1 (bx_kept (by first | exact HE.out | exact HE.out.drew) HK3.out)).1)
          ((go_at_call 22; (with_reducible refine (HPG.out _ (Below.step HB3.out (by first | exact HE.out | exact HE.out.drew))).mono ?_); rintro e wx ⟨rfl, hb⟩; have HE' := Lib.hid (Below.step (by first | exact HE.out | exact HE.out.drew) hb); clear HE; have HE := HE'; clear HE' hb))
        all_goals go_wp2_with fail
        all_goals go_meet
        all_goals exact ⟨rfl, rfl, by simp, HE⟩
      case rest =>
        obtain ⟨rfl, rfl, rfl, HD⟩ := hcut
        have HBD := Lib.hid (Below.step HB3.out HD.out)
        have HKD := Lib.hid (bx_kept HD.out HK3.out)
        have HTL := Lib.hid (show ∀ k, (linesT ((la.map Ld.df).take k)).length ≤ 200 * 2400000037 from fun k => by
          have h := gram_len ((la.map Ld.df).take k) (fun d hd => by
            obtain ⟨x, hx, rfl⟩ := List.mem_map.1 (List.mem_of_mem_take hd)
            have h1 := (HS.out x hx).1
            show (x.t.ls.map Ln.nd).length ≤ _
            rw [List.length_map]; omega)
          have h2 : ((la.map Ld.df).take k).length ≤ 200 := by rw [List.length_take, List.length_map]; omega
          have h3 : ((la.map Ld.df).take k).length * 2400000037 ≤ 200 * 2400000037 := Nat.mul_le_mul_right _ h2
          exact Nat.le_trans h h3)
        clear HPG p1 p2 HD HK3 HB3
        go_wp2_with fail
        go_loopw [4, 5, 6] (fun v4 v5 v6 wr => LinRel w A c la v4 v5 v6 wr) (fun _ _ v6 _ => la.length - (intOf v6).toNat)
        case atStart => exact ⟨0, Nat.zero_le _, rfl, rfl, by simp [someT], HKD, HBD⟩
        case round =>
          clear HKD HBD
          obtain ⟨k, hk, rfl, rfl, rfl, HK, HB⟩ := hrel
          obtain ⟨p1, p2⟩ := blk1 HK.out
          by_cases hlt : k < la.length
          · have i1 : (k : Int) < (la.length : Int) := by omega
            have i2 : (0 : Int) ≤ (k : Int) := by omega
            obtain ⟨b, o, rfl, _, _, x0, x1, x2⟩ := dfRow (HA.out.below HB.out) k hlt
            have HTK := Lib.hid (show (la.map Ld.df).take (k + 1) = (la.map Ld.df).take k ++ [la[k].df] from by
              rw [List.take_succ_eq_append_getElem (by simpa using hlt)]; simp)
            have HDI := Lib.hid (show ∀ w', Below w.heap.size w w' → dfL.inn w' S la[k] from fun w' h => (HA.out.below h).sub k hlt)
            have HSK := Lib.hid (HS.out la[k] (List.getElem_mem hlt)).1
            have HL1 := Lib.hid (HTL.out (k + 1))
            generalize la[k] = d at *
            by_cases hns : 3000 < d.name.size
            · have n1 : (3000 : Int) < (d.name.size : Int) := by omega
              as_aux_lemma =>
                go_wp2_with fail
                go_ret
                exact ⟨rfl, HB.out⟩
            · have n1 : ¬ (3000 : Int) < (d.name.size : Int) := by omega
              have HDF := Lib.hid (show ∀ w', Below w.heap.size w w' → Calls Tryd.prog 23 #[.agg #[.string d.name, .slice d.t.A d.t.ls.length d.t.c, .int .i64 d.t.root]] w' fun e w'' => e = .returned (.string ⟨(defB d.df).toArray⟩) ∧ Below w'.heap.size w' w'' from fun w' h => def_any d S w' (HDI.out w' h).2 (by have := HSK.out; omega) (HDI.out w' h).1 (HP.out.below h))
              have HLT := Lib.hid (show linesT ((la.map Ld.df).take (k + 1)) = linesT ((la.map Ld.df).take k) ++ defB d.df from by rw [HTK.out, linesT, List.flatMap_append]; simp [linesT])
              have HST := Lib.hid (show someT ((la.map Ld.df).take (k + 1)) = (someT ((la.map Ld.df).take k) && !(defB d.df).isEmpty) from by rw [HTK.out, someT, List.all_append]; simp [someT])
              rw [HLT.out] at HL1
              generalize linesT ((la.map Ld.df).take k) = ll at *
              generalize defB d.df = dd at *
              generalize someT ((la.map Ld.df).take k) = st at *
              have hll := HL1.out
              rw [List.length_append] at hll
              have c1 : ¬ 9223372036854775807 < ll.length + dd.length := by omega
              have HAP := Lib.hid (show (⟨ll.toArray⟩ ++ ⟨dd.toArray⟩ : ByteArray) = ⟨(ll ++ dd).toArray⟩ from by
                apply ByteArray.ext
                apply Array.ext'
                simp)
              generalize hsm : (decide (0 < la.length) && st) = sm at *
              have HSM := Lib.hid (show (decide (0 < la.length) && (st && !dd.isEmpty)) = (sm && !dd.isEmpty) from by rw [← hsm, Bool.and_assoc])
              clear hsm
              have HRE := Lib.hid (show ∀ (wz : World) (v : Bool), (sm && !dd.isEmpty) = v → Below w.heap.size w wz → wz.heap[w.heap.size]? = some (.cells #[.slice (some ⟨b, o, none⟩) la.length c] 34 (0, 0)) → LinRel w (some ⟨b, o, none⟩) c la (.string (⟨ll.toArray⟩ ++ ⟨dd.toArray⟩)) (.bool v) (.int .i64 ((k : Int) + 1)) wz from fun wz v hv h1 h2 =>
                ⟨k + 1, hlt, by go_num, by rw [HAP.out, HLT.out], by rw [HST.out, HSM.out, hv], Lib.hid h2, Lib.hid h1⟩)
              cases sm
              · as_aux_lemma =>
                  go_wp2_with (go_at_call 23; (with_reducible refine (HDF.out _ HB.out).mono ?_); rintro e wx ⟨rfl, hb⟩; have HB5 := Lib.hid (Below.step HB.out hb); have HK5 := Lib.hid (bx_kept hb HK.out); clear hb p1 p2; obtain ⟨p1, p2⟩ := blk1 HK5.out)
                  exact ⟨HRE.out _ false rfl HB5.out HK5.out, by simp [intOf]; omega⟩
              · by_cases hd0 : dd = []
                · subst hd0
                  as_aux_lemma =>
                    go_wp2_with (go_at_call 23; (with_reducible refine (HDF.out _ HB.out).mono ?_); rintro e wx ⟨rfl, hb⟩; have HB5 := Lib.hid (Below.step HB.out hb); have HK5 := Lib.hid (bx_kept hb HK.out); clear hb p1 p2; obtain ⟨p1, p2⟩ := blk1 HK5.out)
                    exact ⟨HRE.out _ false rfl HB5.out HK5.out, by simp [intOf]; omega⟩
                · have he : dd.isEmpty = false := by simpa using hd0
                  as_aux_lemma =>
                    go_wp2_with (go_at_call 23; (with_reducible refine (HDF.out _ HB.out).mono ?_); rintro e wx ⟨rfl, hb⟩; have HB5 := Lib.hid (Below.step HB.out hb); have HK5 := Lib.hid (bx_kept hb HK.out); clear hb p1 p2; obtain ⟨p1, p2⟩ := blk1 HK5.out)
                    exact ⟨HRE.out _ true (by simp [he]) HB5.out HK5.out, by simp [intOf]; omega⟩
          · obtain rfl : k = la.length := by omega
            have HTA := Lib.hid (show (la.map Ld.df).take la.length = la.map Ld.df from List.take_of_length_le (by simp))
            rw [HTA.out]
            have HLA := Lib.hid (HTL.out la.length)
            rw [HTA.out] at HLA
            have HGS := Lib.hid (show (decide (0 < la.length) && someT (la.map Ld.df)) = true → gramT (la.map Ld.df) = linesT (la.map Ld.df) ∧ (linesT (la.map Ld.df)).count 10 = la.length ∧ ∃ x, linesT (la.map Ld.df) = x ++ [10] from fun h => by
              rw [Bool.and_eq_true, decide_eq_true_eq] at h
              have h1 := (some_iff _).1 h.2
              exact ⟨gramT_ok h1, by have h3 := gram_ends _ h1; rw [List.length_map] at h3; exact h3, gram_last _ h1 (fun e => by have := congrArg List.length e; simp at this; simp [this] at h)⟩)
            have HGN := Lib.hid (show (decide (0 < la.length) && someT (la.map Ld.df)) = false → gramT (la.map Ld.df) = [] from fun h => by
              rcases Nat.eq_zero_or_pos la.length with h0 | h0
              · have : la = [] := List.eq_nil_of_length_eq_zero h0
                subst this; rfl
              · rw [decide_eq_true h0, Bool.true_and] at h
                have h1 : ¬ ∀ d ∈ la.map Ld.df, okD d := fun k => by rw [(some_iff _).2 k] at h; cases h
                unfold gramT; rw [gramB_no _ h1]; rfl)
            generalize (decide (0 < la.length) && someT (la.map Ld.df)) = sm at *
            generalize linesT (la.map Ld.df) = la2 at *
            obtain ⟨p1, p2⟩ := blk1 HK.out
            cases sm
            · rw [HGN.out rfl]
              as_aux_lemma =>
                go_wp2_with fail
                go_loop [8, 9] (fun v8 v9 => v8 = .int .i64 0 ∧ v9 = .int .i64 0) (fun _ _ => 0)
                case atStart => exact ⟨rfl, rfl⟩
                case round =>
                  obtain ⟨rfl, rfl⟩ := hrel
                  go_wp2_with fail
                  go_ret
                  exact ⟨rfl, HB.out⟩
            · obtain ⟨hg1, hg2, hg3⟩ := HGS.out rfl
              rw [hg1]
              have hll := HLA.out
              clear HGN HGS HLA HTL hg1
              have hsz : (⟨la2.toArray⟩ : ByteArray).size = la2.length := size_mk la2
              have hdt : (⟨la2.toArray⟩ : ByteArray).data.toList = la2 := rfl
              generalize (⟨la2.toArray⟩ : ByteArray) = sb at *
              have HDT := Lib.hid hdt; have HSZ := Lib.hid hsz
              have hsl : sb.size ≤ 480000007400 := by rw [hsz]; omega
              have HCT := Lib.hid (show (sb.data.toList).count 10 = la.length from by rw [hdt]; exact hg2)
              have hpos : 0 < sb.size := by
                obtain ⟨x, hx⟩ := hg3
                rw [hsz, hx]; simp
              have hlt1 : sb.size - 1 < sb.size := by omega
              have HLS := Lib.hid (show sb[sb.size - 1]'hlt1 = 10 from by
                obtain ⟨x, hx⟩ := hg3
                have h1 : sb.data.toList[sb.size - 1]? = some 10 := by
                  rw [hdt, hsz, hx]; simp
                rw [List.getElem?_eq_getElem (by have : sb.data.toList.length = sb.size := rfl; omega)] at h1
                exact Option.some.inj h1)
              clear hdt hsz hg2 hg3 hll
              go_wp2_with fail
              go_loop [8, 9] (fun v8 v9 => ∃ j : Nat, j ≤ sb.size ∧ v9 = .int .i64 j ∧ v8 = .int .i64 (((sb.data.toList.take j).count 10 : Nat) : Int)) (fun _ v9 => sb.size - (intOf v9).toNat)
              case atStart => exact ⟨0, Nat.zero_le _, rfl, by simp⟩
              case round =>
                obtain ⟨j, hj, rfl, rfl⟩ := hrel
                have hcl : (sb.data.toList.take j).count 10 ≤ j := Nat.le_trans List.count_le_length (by rw [List.length_take]; omega)
                by_cases hjl : j < sb.size
                · have i1 : (j : Int) < (sb.size : Int) := by omega
                  have i2 : (0 : Int) ≤ (j : Int) := by omega
                  have HTJ := Lib.hid (show (sb.data.toList.take (j + 1)).count 10 = (sb.data.toList.take j).count 10 + (if sb[j] = 10 then 1 else 0) from by
                    rw [take_at sb j hjl, List.count_append, List.count_singleton]
                    simp)
                  generalize (sb.data.toList.take j).count 10 = cc at *
                  generalize hbt : sb[j] = bt at *
                  by_cases hb : bt = 10
                  · have HCC := Lib.hid (show (sb.data.toList.take (j + 1)).count 10 = cc + 1 from by rw [HTJ.out, if_pos hb])
                    have h10 : bt.toNat = 10 := by rw [hb]; rfl
                    have h11 : ((bt.toNat : Int) == 10) = true := by rw [h10]; rfl
                    clear hb
                    as_aux_lemma =>
                      go_wp2_with fail
                      exact ⟨⟨j + 1, hjl, by go_num, by rw [HCC.out]; go_num⟩, by simp [intOf]; omega⟩
                  · have HCC := Lib.hid (show (sb.data.toList.take (j + 1)).count 10 = cc from by rw [HTJ.out, if_neg hb]; rfl)
                    have h10 : ¬ bt.toNat = 10 := fun h => hb (UInt8.toNat_inj.1 (h.trans rfl))
                    have h11 : ((bt.toNat : Int) == 10) = false := by simp; omega
                    have h12 : ¬ (bt.toNat : Int) = 10 := by omega
                    clear hb
                    as_aux_lemma =>
                      go_wp2_with fail
                      exact ⟨⟨j + 1, hjl, by go_num, by rw [HCC.out]⟩, by simp [intOf]; omega⟩
                · obtain rfl : j = sb.size := by omega
                  have HCE := Lib.hid (show (sb.data.toList.take sb.size).count 10 = la.length from by
                    rw [List.take_of_length_le (by have : sb.data.toList.length = sb.size := rfl; omega)]; exact HCT.out)
                  rw [HCE.out]
                  have hls := HLS.out
                  have e1 : ((sb.size - 1 : Nat) : Int) = (sb.size : Int) - 1 := by omega
                  have i5 : (sb.size : Int) - 1 < (sb.size : Int) := by omega
                  have i6 : (0 : Int) ≤ (sb.size : Int) - 1 := by omega
                  go_wp2_with fail
                  go_ret
                  exact ⟨rfl, HB.out⟩
  · as_aux_lemma =>
      go_wp2_with (go_at_call 14; refine (works_any _ (HP.out.below HB3.out)).mono ?_; rintro e w4 ⟨rfl, hb4⟩; have HB4 := Lib.hid (Below.step HB3.out hb4); clear hb4)
      go_ret
      exact ⟨rfl, HB4.out⟩
end Go.Proofs.YtjlohjdmekbipaaDoor
