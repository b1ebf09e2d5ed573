/- The walk of PrintTells. -/
import Derived.Test.YtdcgbcdmkhleoaaDoorRe
import Derived.Test.YtdcgbcdmkhleoaaDoorRl
import Derived.Test.YtdcgbcdmkhleoaaDoorUk
import Derived.Test.YtdcgbcdmkhleoaaDoorVa
import Derived.Test.YtdcgbcdmkhleoaaDoorEg
namespace Go.Proofs.YtdcgbcdmkhleoaaDoor
open Go.RowKit
set_option linter.unusedSimpArgs false
set_option linter.unusedVariables false

theorem kidsOf_le : ∀ (l : List Nd) (m : Nat), (∀ n ∈ l, n.kids.length ≤ m) → (kidsOf l).length ≤ l.length * m
  | [], m, _ => by simp [kidsOf]
  | n :: l, m, h => by
    have h1 := kidsOf_le l m fun x hx => h x (List.mem_cons_of_mem _ hx)
    have h2 := h n List.mem_cons_self
    have h3 : kidsOf (n :: l) = n.kids ++ kidsOf l := by simp [kidsOf]
    rw [h3, List.length_append, List.length_cons, Nat.succ_mul]
    omega
theorem mod8_of {t : Lt} {m : Nat} (h : t.ls.length ≤ m) (hk : ∀ l ∈ t.ls, l.nd.kids.length ≤ m) (hm : m ≤ 100000) : Mod8 t := by
  refine ⟨by omega, fun l hl => by have := hk l hl; omega, ?_⟩
  have h1 := kidsOf_le (t.ls.map Ln.nd) m (fun n hn => by
    obtain ⟨l, hl, rfl⟩ := List.mem_map.1 hn
    exact hk l hl)
  rw [List.length_map] at h1
  have h2 : t.ls.length * m ≤ 100000 * 100000 := Nat.mul_le_mul (by omega) hm
  omega
set_option maxRecDepth 100000 in
set_option maxHeartbeats 12800000 in
theorem tells_walk (t : Lt) (lo hi : Int) (S : Nat → Prop) (w : World) (hA : t.inn w S) (hp : PTabs w) :
    Calls Tryd.prog 3 #[.agg #[.slice t.A t.ls.length t.c, .int .i64 t.root], .int .i64 lo, .int .i64 hi] w fun e w' => e = .returned (.bool true) ∧ Below w.heap.size w w' := by
  have HA := Lib.hid hA; have HP := Lib.hid hp
  clear hA hp
  have HB0 := Lib.hid (bx1 w (.cells #[.slice t.A t.ls.length t.c, .int .i64 t.root] 24))
  have HK0 := Lib.hid (bx_new w (.cells #[.slice t.A t.ls.length t.c, .int .i64 t.root] 24))
  have HRW := Lib.hid (show ttL.row ((w.alloc (.cells #[.slice t.A t.ls.length t.c, .int .i64 t.root] 24)).alloc (.cells #[.slice t.A t.ls.length t.c, .int .i64 t.root] 24)) (fun _ => True) (some ⟨w.heap.size + 1, 0, none⟩) [t] from by
    refine ⟨⟨?_, fun _ _ _ => trivial⟩, fun x hx => ?_⟩
    · have h := bx_new (w.alloc (.cells #[.slice t.A t.ls.length t.c, .int .i64 t.root] 24)) (.cells #[.slice t.A t.ls.length t.c, .int .i64 t.root] 24)
      rw [World.size_alloc] at h
      exact row_blk (cs := [.slice t.A t.ls.length t.c, .int .i64 t.root]) h
    · obtain rfl := List.mem_singleton.1 hx
      exact (HA.out.below (bx2 w _ _)).mono (fun _ _ _ => trivial))
  obtain ⟨p1, p2, _, _⟩ := blk2 HK0.out
  go_enter Tryd.func3, Tryd.ntmps3
  go_wp2_with fail
  refine (long_any [t] (some ⟨w.heap.size + 1, 0, none⟩) 1 (fun _ => True) _ HRW.out (by simp)).mono ?_
  rintro e w1 ⟨r, rfl, hr, hb⟩
  have HB1 := Lib.hid (Below.step (bx2 w (.cells #[.slice t.A t.ls.length t.c, .int .i64 t.root] 24) (.cells #[.slice t.A t.ls.length t.c, .int .i64 t.root] 24)) hb)
  have HK1 := Lib.hid (bx_kept hb (bx_old HK0.out))
  clear hb HRW p1 p2 HK0 HB0
  cases r
  · have HS := Lib.hid (hr rfl t (by simp))
    clear hr
    have HM := Lib.hid (mod8_of HS.out.1 HS.out.2 (by omega))
    obtain ⟨p1, p2, _, _⟩ := blk2 HK1.out
    go_wp2_with fail
    refine (own8_any t.A t.c t.ls t.root S w1 (HA.out.below HB1.out).2 (by have := HS.out.1; omega) (fun l hl => by have := HS.out.2 l hl; omega)).mono ?_
    rintro e w2 ⟨⟨A2, c2, l2, r2⟩, he, htr, hto, hb⟩
    simp only [Lt.val] at he; subst he
    have hr2 : r2 = t.root := congrArg Tr.root htr
    subst hr2
    have HL2 := Lib.hid (show l2.map Ln.nd = t.ls.map Ln.nd from congrArg Tr.nodes htr)
    have HTR := Lib.hid (show Lt.tr ⟨A2, c2, l2, t.root⟩ = t.tr from htr)
    have HT2 := Lib.hid (hto.inn)
    have HB2 := Lib.hid (Below.step HB1.out hb); have HK2 := Lib.hid (bx_kept hb HK1.out)
    clear hb hto htr HB1 HK1 p1 p2
    have hlt2 := heap_lt' HK2.out
    go_upto_region 4 with (fail)
    have HK3 := Lib.hid (bx_old (p := .cells #[.slice A2 l2.length c2, .int .i64 t.root] 24) HK2.out)
    have HN3 := Lib.hid (bx_new w2 (.cells #[.slice A2 l2.length c2, .int .i64 t.root] 24))
    have HB3 := Lib.hid (Below.step HB2.out (bx1 w2 (.cells #[.slice A2 l2.length c2, .int .i64 t.root] 24)))
    have HT3 := Lib.hid (HT2.out.below (bx1 w2 (.cells #[.slice A2 l2.length c2, .int .i64 t.root] 24)))
    generalize w2.alloc (.cells #[.slice A2 l2.length c2, .int .i64 t.root] 24) = W at *
    have hll : l2.length = t.ls.length := by have h := congrArg List.length HL2.out; simpa using h
    have HC1 := Lib.hid (show ∀ w', Below W.heap.size W w' → _ from fun w' hb => ptree_t ⟨A2, c2, l2, t.root⟩ _ w' (HT3.out.below hb) (by show l2.length ≤ _; have := HS.out.1; omega) (HP.out.below (Below.step HB3.out hb)))
    have HC2 := Lib.hid (show ∀ w', Below W.heap.size W w' → _ from fun w' hb => rtree_any t S w' (HA.out.below (Below.step HB3.out hb)) HM.out)
    have HC3 := Lib.hid (show ∀ w', Below W.heap.size W w' → _ from fun w' hb => count_any lo hi w' (HP.out.below (Below.step HB3.out hb)).ta (HP.out.below (Below.step HB3.out hb)).pw (HP.out.below (Below.step HB3.out hb)).co (HP.out.below (Below.step HB3.out hb)).cn)
    have HC4 := Lib.hid (fun w' => rcount_any lo hi w')
    have HC5 := Lib.hid (show ∀ w', Below W.heap.size W w' → _ from fun w' hb => exact4_any A2 t.A c2 t.c l2 t.ls t.root _ S w' (HT3.out.below hb).2 (HA.out.below (Below.step HB3.out hb)).2 HL2.out (HT3.out.below hb).1)
    have HC6 := Lib.hid (show ∀ w', Below W.heap.size W w' → _ from fun w' hb => works_any w' (HP.out.below (Below.step HB3.out hb)))
    rw [HTR.out] at HC1
    simp only [Lt.val] at HC1
    unfold TextPost at HC1 HC2 HC3 HC4
    generalize treeB t.tr = T1 at *
    generalize countB lo hi = T2 at *
    have HCL := Lib.hid (show ∀ w', Below W.heap.size W w' → w'.cell? ⟨w.heap.size, 0, none⟩ = some (.slice t.A t.ls.length t.c) ∧ w'.cell? ⟨w.heap.size, 1, none⟩ = some (.int .i64 t.root) ∧ w'.cell? ⟨w2.heap.size, 0, none⟩ = some (.slice A2 l2.length c2) ∧ w'.cell? ⟨w2.heap.size, 1, none⟩ = some (.int .i64 t.root) from fun w' hb => by
      obtain ⟨g1, g2, _, _⟩ := blk2 (bx_kept hb HK3.out)
      obtain ⟨g3, g4, _, _⟩ := blk2 (bx_kept hb HN3.out)
      exact ⟨g1, g2, g3, g4⟩)
    have HE := Lib.hid (Below.refl W.heap.size W)
    clear HT3 HK3 HN3 HK2 HB2 HT2 HA HP HM HL2 HTR HS hlt2 hll
    as_aux_lemma =>
      go_cut [6] (fun v6 wx => v6 = .bool true ∧ Hid (Below W.heap.size W wx))
      case first =>
        go_region_held3 (fun w' => w'.cell? ⟨w.heap.size, 0, none⟩ = some (.slice t.A t.ls.length t.c) ∧ w'.cell? ⟨w.heap.size, 1, none⟩ = some (.int .i64 t.root) ∧ w'.cell? ⟨w2.heap.size, 0, none⟩ = some (.slice A2 l2.length c2) ∧ w'.cell? ⟨w2.heap.size, 1, none⟩ = some (.int .i64 t.root))
          (exact HCL.out _ (by first | exact HE.out | exact HE.out.drew))
          (first
            | (go_at_call 11; (with_reducible refine (HC1.out _ (by first | exact HE.out | exact HE.out.drew)).mono ?_); rintro e wx ⟨rfl, hb⟩; have HE' := Lib.hid (Below.step (by first | exact HE.out | exact HE.out.drew) hb); clear HE; have HE := HE'; clear HE' hb)
            | (go_at_call 12; (with_reducible refine (HC2.out _ (by first | exact HE.out | exact HE.out.drew)).mono ?_); rintro e wx ⟨rfl, hb⟩; have HE' := Lib.hid (Below.step (by first | exact HE.out | exact HE.out.drew) hb); clear HE; have HE := HE'; clear HE' hb)
            | (go_at_call 13; (with_reducible refine (HC3.out _ (by first | exact HE.out | exact HE.out.drew)).mono ?_); rintro e wx ⟨rfl, hb⟩; have HE' := Lib.hid (Below.step (by first | exact HE.out | exact HE.out.drew) hb); clear HE; have HE := HE'; clear HE' hb)
            | (go_at_call 14; (with_reducible refine (HC4.out _).mono ?_); rintro e wx ⟨rfl, hb⟩; have HE' := Lib.hid (Below.step (by first | exact HE.out | exact HE.out.drew) hb); clear HE; have HE := HE'; clear HE' hb)
            | (go_at_call 15; (with_reducible refine (HC5.out _ (by first | exact HE.out | exact HE.out.drew)).mono ?_); rintro e wx ⟨rfl, hb⟩; have HE' := Lib.hid (Below.step (by first | exact HE.out | exact HE.out.drew) hb); clear HE; have HE := HE'; clear HE' hb)
            | (go_at_call 9; (with_reducible refine (HC6.out _ (by first | exact HE.out | exact HE.out.drew)).mono ?_); rintro e wx ⟨rfl, hb⟩; have HE' := Lib.hid (Below.step (by first | exact HE.out | exact HE.out.drew) hb); clear HE; have HE := HE'; clear HE' hb)
            | fail)
        all_goals go_wp2_with fail
        all_goals go_meet
        all_goals exact ⟨rfl, HE⟩
      case rest =>
        obtain ⟨rfl, HD⟩ := hcut
        go_wp2_with fail
        go_ret
        exact ⟨rfl, Below.step HB3.out HD.out⟩
  · clear hr
    go_wp2_with fail
    refine (works_any _ (HP.out.below HB1.out)).mono ?_
    rintro e w2 ⟨rfl, hb⟩
    have HB2 := Lib.hid (Below.step HB1.out hb)
    go_wp2_with fail
    go_ret
    exact ⟨rfl, HB2.out⟩
end Go.Proofs.YtdcgbcdmkhleoaaDoor
