/- The walk of PrintGrammar. -/
import Derived.Test.YtdcgbcdmkhleoaaDoorRe
import Derived.Test.YtdcgbcdmkhleoaaDoorRl
import Derived.Test.YtdcgbcdmkhleoaaDoorUk
import Derived.Test.YtdcgbcdmkhleoaaDoorRm
namespace Go.Proofs.YtdcgbcdmkhleoaaDoor
open Go.RowKit
set_option linter.unusedSimpArgs false
set_option linter.unusedVariables false

theorem kidsOf_leG : ∀ (l : List Nd) (m : Nat), (∀ n ∈ l, n.kids.length ≤ m) → (kidsOf l).length ≤ l.length * m
  | [], m, _ => by simp [kidsOf]
  | n :: l, m, h => by
    have h1 := kidsOf_leG l m fun x hx => h x (List.mem_cons_of_mem _ hx)
    have h2 := h n List.mem_cons_self
    have h3 : kidsOf (n :: l) = n.kids ++ kidsOf l := by simp [kidsOf]
    rw [h3, List.length_append, List.length_cons, Nat.succ_mul]
    omega
theorem mod8_ofG {t : Lt} {m : Nat} (h : t.ls.length ≤ m) (hk : ∀ l ∈ t.ls, l.nd.kids.length ≤ m) (hm : m ≤ 100000) : Mod8 t := by
  refine ⟨by omega, fun l hl => by have := hk l hl; omega, ?_⟩
  have h1 := kidsOf_leG (t.ls.map Ln.nd) m (fun n hn => by
    obtain ⟨l, hl, rfl⟩ := List.mem_map.1 hn
    exact hk l hl)
  rw [List.length_map] at h1
  have h2 : t.ls.length * m ≤ 100000 * 100000 := Nat.mul_le_mul (by omega) hm
  omega
set_option maxRecDepth 100000 in
set_option maxHeartbeats 12800000 in
theorem grammar_walk (A : Option Addr) (c : Nat) (la : List Ld) (S : Nat → Prop) (w : World) (hA : dfL.row w S A la) (hl1 : la.length ≤ 281474976710656) (hp : PTabs w) :
    Calls Tryd.prog 5 #[.agg #[.slice A la.length c]] w fun e w' => e = .returned (.bool true) ∧ Below w.heap.size w w' := by
  have HA := Lib.hid hA; have HP := Lib.hid hp
  clear hA hp
  have HB0 := Lib.hid (bx1 w (.cells #[.slice A la.length c] 50))
  have HK0 := Lib.hid (bx_new w (.cells #[.slice A la.length c] 50))
  go_enter Tryd.func5, Tryd.ntmps5
  go_wp2_with fail
  refine (bodies_any A c la S _ (HA.out.below HB0.out) hl1).mono ?_
  rintro e w2 ⟨V, vc, ks, rfl, hks, hrow, hb⟩
  have HK2 := Lib.hid (bx_kept hb HK0.out); have HB2 := Lib.hid (Below.step HB0.out hb)
  have HKS := Lib.hid hks; have HRW := Lib.hid hrow
  have hkl : ks.length ≤ 3000 := by rw [hks, List.length_map, List.length_take]; omega
  clear hb HB0 HK0 hks hrow
  go_wp2_with fail
  refine (long_any ks V vc (fun _ => True) _ HRW.out (by omega)).mono ?_
  rintro e w3 ⟨r, rfl, hr, hb⟩
  have HK3 := Lib.hid (bx_kept hb HK2.out); have HB3 := Lib.hid (Below.step HB2.out hb)
  clear hb HB2 HK2 HRW hkl
  obtain ⟨p1, p2⟩ := blk1 HK3.out
  have HWK := Lib.hid (show ∀ w', Below w3.heap.size w3 w' → _ from fun w' hb => works_any w' (HP.out.below (Below.step HB3.out hb)))
  cases r
  · by_cases h200 : 200 < la.length
    · have h2 : (200 : Int) < (la.length : Int) := by omega
      as_aux_lemma =>
        go_wp2_with (go_at_call 9; (with_reducible refine (HWK.out _ (Below.refl _ _)).mono ?_); rintro e w4 ⟨rfl, hb4⟩; have HB4 := Lib.hid (Below.step HB3.out hb4); clear hb4)
        go_ret
        exact ⟨rfl, HB4.out⟩
    · have h2 : ¬ (200 : Int) < (la.length : Int) := by omega
      have HS := Lib.hid (show ∀ d ∈ la, Small8 d.t from fun d hd => hr rfl d.t (by rw [HKS.out]; exact List.mem_map.2 ⟨d, by rw [List.take_of_length_le (by omega)]; exact hd, rfl⟩))
      clear hr HKS
      have HM := Lib.hid (show ∀ d ∈ la, Mod8 d.t from fun d hd => mod8_ofG (HS.out d hd).1 (HS.out d hd).2 (by omega))
      go_wp2_with fail
      go_loopw [3] (fun v3 wr => ∃ k : Nat, k ≤ la.length ∧ v3 = .int .i64 k ∧ Hid (wr.heap[w.heap.size]? = some (.cells #[.slice A la.length c] 50 (0, 0))) ∧ Hid (Below w3.heap.size w3 wr)) (fun v3 _ => la.length - (intOf v3).toNat)
      case atStart => exact ⟨0, Nat.zero_le _, rfl, HK3, Lib.hid (Below.refl _ _)⟩
      case round =>
        clear p1 p2 HK3
        obtain ⟨k, hk, rfl, HK, HB⟩ := hrel
        obtain ⟨p1, p2⟩ := blk1 HK.out
        have HBW := Lib.hid (Below.step HB3.out HB.out)
        by_cases hlt : k < la.length
        · have i1 : (k : Int) < (la.length : Int) := by omega
          have i2 : (0 : Int) ≤ (k : Int) := by omega
          obtain ⟨b, o, rfl, _, _, x0, x1, x2⟩ := dfRow (HA.out.below HBW.out) k hlt
          have HDI := Lib.hid (show ∀ w', Below w.heap.size w w' → dfL.inn w' S la[k] from fun w' h => (HA.out.below h).sub k hlt)
          have HMK := Lib.hid (HM.out la[k] (List.getElem_mem hlt))
          have HXX := Lib.hid (show ∀ w', Below wr.heap.size wr w' → w'.cell? ⟨w.heap.size, 0, none⟩ = some (.slice (some ⟨b, o, none⟩) la.length c) ∧ w'.cell? ⟨b, o + k * 3, none⟩ = some (.string la[k].name) ∧ w'.cell? ⟨b, o + k * 3 + 1, none⟩ = some (.slice la[k].t.A la[k].t.ls.length la[k].t.c) ∧ w'.cell? ⟨b, o + k * 3 + 2, none⟩ = some (.int .i64 la[k].t.root) from fun w' h => ⟨(blk1 (bx_kept h HK.out)).1, (h.cell (cellLt x0)).trans x0, (h.cell (cellLt x1)).trans x1, (h.cell (cellLt x2)).trans x2⟩)
          generalize la[k] = d at *
          by_cases hns : 3000 < d.name.size
          · have n1 : (3000 : Int) < (d.name.size : Int) := by omega
            clear HDI HMK HXX
            as_aux_lemma =>
              go_wp2_with fail
              go_quiet (fail)
              go_wp2_with (go_at_call 9; (with_reducible refine (HWK.out _ (drewN_belowU HB.out _)).mono ?_); rintro e w4 ⟨rfl, hb4⟩; have HB4 := Lib.hid (Below.step (Below.step HB3.out (drewN_belowU HB.out _)) hb4); clear hb4)
              go_ret
              exact ⟨rfl, HB4.out⟩
          · have n1 : ¬ (3000 : Int) < (d.name.size : Int) := by omega
            have n2 : decide ((3000 : Int) < (d.name.size : Int)) = false := decide_eq_false n1
            have HC1 := Lib.hid (show ∀ w', Below wr.heap.size wr w' → _ from fun w' hb => def_any d S w' (HDI.out w' (Below.step HBW.out hb)).2 HMK.out.len (by omega) (HP.out.below (Below.step HBW.out hb)))
            have HC2 := Lib.hid (show ∀ w', Below wr.heap.size wr w' → _ from fun w' hb => rdef_any d S w' (HDI.out w' (Below.step HBW.out hb)).2 HMK.out (by omega))
            unfold TextPost at HC1 HC2
            generalize defB d.df = dd at *
            have HE := Lib.hid (Below.refl wr.heap.size wr)
            clear HDI HMK x0 x1 x2
            go_wp2_with fail
            go_cut [44] (fun v44 wx => v44 = .bool false ∧ Hid (Below wr.heap.size wr wx))
            case first =>
              go_region_held3 (fun w' => w'.cell? ⟨w.heap.size, 0, none⟩ = some (.slice (some ⟨b, o, none⟩) la.length c) ∧ w'.cell? ⟨b, o + k * 3, none⟩ = some (.string d.name) ∧ w'.cell? ⟨b, o + k * 3 + 1, none⟩ = some (.slice d.t.A d.t.ls.length d.t.c) ∧ w'.cell? ⟨b, o + k * 3 + 2, none⟩ = some (.int .i64 d.t.root))
                (exact HXX.out _ (by first | exact HE.out | exact HE.out.drew))
                (first
                  | (go_at_call 23; (with_reducible refine (HC1.out _ (by first | exact HE.out | exact HE.out.drew)).mono ?_); rintro e wx ⟨rfl, hb⟩; have HE' := Lib.hid (Below.step (by first | exact HE.out | exact HE.out.drew) hb); clear HE; have HE := HE'; clear HE' hb)
                  | (go_at_call 25; (with_reducible refine (HC2.out _ (by first | exact HE.out | exact HE.out.drew)).mono ?_); rintro e wx ⟨rfl, hb⟩; have HE' := Lib.hid (Below.step (by first | exact HE.out | exact HE.out.drew) hb); clear HE; have HE := HE'; clear HE' hb)
                  | fail)
              all_goals go_wp2_with fail
              all_goals go_meet
              all_goals exact ⟨rfl, HE⟩
            case rest =>
              obtain ⟨rfl, HD⟩ := hcut
              have HKD := Lib.hid (bx_kept HD.out HK.out)
              as_aux_lemma =>
                go_wp2_with fail
                exact ⟨⟨k + 1, hlt, by go_num, HKD, Lib.hid (Below.step HB.out HD.out)⟩, by simp [intOf]; omega⟩
        · obtain rfl : k = la.length := by omega
          clear hlt
          have HC1 := Lib.hid (show ∀ w', Below wr.heap.size wr w' → _ from fun w' hb => pgram_any A c la S w' (HA.out.below (Below.step HBW.out hb)) (by omega) (fun d hd => (HM.out d hd).len) (HP.out.below (Below.step HBW.out hb)))
          have HC2 := Lib.hid (show ∀ w', Below wr.heap.size wr w' → _ from fun w' hb => rgram_any A c la S w' (HA.out.below (Below.step HBW.out hb)) (by omega) HM.out)
          have HC3 := Lib.hid (show ∀ w', Below wr.heap.size wr w' → _ from fun w' hb => psize_any A c la S w' (HA.out.below (Below.step HBW.out hb)) (by omega) (fun d hd => (HM.out d hd).len) (HP.out.below (Below.step HBW.out hb)))
          unfold TextPost at HC1 HC2
          have hsz : ((gramT (la.map Ld.df)).length : Int) = (((⟨(gramT (la.map Ld.df)).toArray⟩ : ByteArray).size : Nat) : Int) := rfl
          rw [hsz] at HC3
          clear hsz
          generalize (⟨(gramT (la.map Ld.df)).toArray⟩ : ByteArray) = gt at *
          as_aux_lemma =>
            go_wp2_with (first
              | (go_at_call 26; (with_reducible refine (HC2.out _ (Below.refl _ _)).mono ?_); rintro e w4 ⟨rfl, hb⟩; have HB4 := Lib.hid hb; clear hb; have HK4 := Lib.hid (bx_kept HB4.out HK.out); clear p1 p2; obtain ⟨p1, p2⟩ := blk1 HK4.out)
              | (go_at_call 21; (with_reducible refine (HC1.out _ HB4.out).mono ?_); rintro e w5 ⟨rfl, hb⟩; have HB5 := Lib.hid (Below.step HB4.out hb); clear hb; have HK5 := Lib.hid (bx_kept HB5.out HK.out); clear p1 p2; obtain ⟨p1, p2⟩ := blk1 HK5.out)
              | (go_at_call 22; (with_reducible refine (HC3.out _ HB5.out).mono ?_); rintro e w6 ⟨rfl, hb⟩; have HB6 := Lib.hid (Below.step HB5.out hb); clear hb)
              | (go_at_call 9; (with_reducible refine (HWK.out _ (Below.step HB.out HB6.out)).mono ?_); rintro e w7 ⟨rfl, hb⟩; have HB7 := Lib.hid (Below.step HB6.out hb); clear hb)
              | fail)
            go_ret
            exact ⟨rfl, Below.step HBW.out HB7.out⟩
  · clear hr
    as_aux_lemma =>
      go_wp2_with (go_at_call 9; (with_reducible refine (HWK.out _ (Below.refl _ _)).mono ?_); rintro e w4 ⟨rfl, hb4⟩; have HB4 := Lib.hid (Below.step HB3.out hb4); clear hb4)
      go_ret
      exact ⟨rfl, HB4.out⟩
end Go.Proofs.YtdcgbcdmkhleoaaDoor
