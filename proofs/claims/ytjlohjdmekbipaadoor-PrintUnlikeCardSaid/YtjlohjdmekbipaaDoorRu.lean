/- The walk of PrintUnlike. -/
import Derived.Test.YtjlohjdmekbipaaDoorRe
import Derived.Test.YtjlohjdmekbipaaDoorRl
import Derived.Test.YtjlohjdmekbipaaDoorHe
import Derived.Test.YtjlohjdmekbipaaDoorDs
namespace Go.Proofs.YtjlohjdmekbipaaDoor
open Go.RowKit
set_option linter.unusedSimpArgs false
set_option linter.unusedVariables false

set_option maxRecDepth 100000 in
set_option maxHeartbeats 12800000 in
theorem unlike_walk (a b : Lt) (S T : Nat → Prop) (w : World) (hA : a.inn w S) (hB : b.inn w T) (hp : PTabs w) :
    Calls Tryd.prog 7 #[.agg #[.slice a.A a.ls.length a.c, .int .i64 a.root], .agg #[.slice b.A b.ls.length b.c, .int .i64 b.root]] w fun e w' => e = .returned (.bool true) ∧ Below w.heap.size w w' := by
  have HA := Lib.hid hA; have HB := Lib.hid hB; have HP := Lib.hid hp
  clear hA hB hp
  have HRW := Lib.hid (show ∀ (l : Lt) (R : Nat → Prop) (w' : World), l.inn w' R → (∀ n ∈ l.tr.nodes, wordOk n) from fun l R w' h n hn => by
    obtain ⟨y, hy, rfl⟩ := List.mem_map.1 hn
    have h1 := (h.2.2 y hy).1
    exact ⟨h1.2.2.2.1, h1.2.2.2.2.1, h1.2.2.2.2.2.1, h1.2.2.2.2.2.2⟩)
  have HW1 := Lib.hid (HRW.out a S w HA.out); have HW2 := Lib.hid (HRW.out b T w HB.out)
  clear HRW
  have HB0 := Lib.hid (bx2 w (.cells #[.slice a.A a.ls.length a.c, .int .i64 a.root] 24) (.cells #[.slice b.A b.ls.length b.c, .int .i64 b.root] 24))
  have HK0 := Lib.hid (show ∀ w', Below ((w.alloc (.cells #[.slice a.A a.ls.length a.c, .int .i64 a.root] 24)).alloc (.cells #[.slice b.A b.ls.length b.c, .int .i64 b.root] 24)).heap.size ((w.alloc (.cells #[.slice a.A a.ls.length a.c, .int .i64 a.root] 24)).alloc (.cells #[.slice b.A b.ls.length b.c, .int .i64 b.root] 24)) w' → w'.heap[w.heap.size]? = some (.cells #[.slice a.A a.ls.length a.c, .int .i64 a.root] 24 (0, 0)) ∧ w'.heap[w.heap.size + 1]? = some (.cells #[.slice b.A b.ls.length b.c, .int .i64 b.root] 24 (0, 0)) from fun w' hb => by
    refine ⟨bx_kept hb (bx_old (bx_new w _)), bx_kept hb ?_⟩
    have h := bx_new (w.alloc (.cells #[.slice a.A a.ls.length a.c, .int .i64 a.root] 24)) (.cells #[.slice b.A b.ls.length b.c, .int .i64 b.root] 24)
    rw [World.size_alloc] at h; exact h)
  go_enter Tryd.func7, Tryd.ntmps7
  go_wp2_with fail
  refine (works_any _ (HP.out.below HB0.out)).mono ?_
  rintro e w1 ⟨rfl, hb⟩
  have HK1 := Lib.hid (HK0.out _ hb); have HB1 := Lib.hid (Below.step HB0.out hb)
  clear hb HB0 HK0
  obtain ⟨p1, p2, _, _⟩ := blk2 HK1.out.1
  obtain ⟨p3, p4, _, _⟩ := blk2 HK1.out.2
  go_wp2_with fail
  have HRW := Lib.hid (show ttL.row (w1.alloc (.cells #[.slice a.A a.ls.length a.c, .int .i64 a.root, .slice b.A b.ls.length b.c, .int .i64 b.root] 24)) (fun _ => True) (some ⟨w1.heap.size, 0, none⟩) [a, b] from by
    refine ⟨⟨row_blk (cs := [.slice a.A a.ls.length a.c, .int .i64 a.root, .slice b.A b.ls.length b.c, .int .i64 b.root]) (bx_new w1 _), fun _ _ _ => trivial⟩, fun t ht => ?_⟩
    simp only [List.mem_cons, List.not_mem_nil, or_false] at ht
    rcases ht with rfl | rfl
    · exact ((HA.out.below HB1.out).below (bx1 w1 _)).mono (fun _ _ _ => trivial)
    · exact ((HB.out.below HB1.out).below (bx1 w1 _)).mono (fun _ _ _ => trivial))
  refine (long_any [a, b] (some ⟨w1.heap.size, 0, none⟩) 2 (fun _ => True) _ HRW.out (by simp)).mono ?_
  rintro e w2 ⟨r, rfl, hr, hb⟩
  have HB2 := Lib.hid (Below.step HB1.out (Below.step (bx1 w1 _) hb))
  have HK2 := Lib.hid (And.intro (bx_kept hb (bx_old HK1.out.1)) (bx_kept hb (bx_old HK1.out.2)))
  clear hb HRW p1 p2 p3 p4 HK1 HB1
  cases r
  · have HS := Lib.hid (And.intro (hr rfl a (by simp)) (hr rfl b (by simp)))
    clear hr
    have HSB := Lib.hid (show ∀ w', Below w2.heap.size w2 w' → w'.cell? ⟨w.heap.size, 0, none⟩ = some (.slice a.A a.ls.length a.c) ∧ w'.cell? ⟨w.heap.size, 1, none⟩ = some (.int .i64 a.root) ∧ w'.cell? ⟨w.heap.size + 1, 0, none⟩ = some (.slice b.A b.ls.length b.c) ∧ w'.cell? ⟨w.heap.size + 1, 1, none⟩ = some (.int .i64 b.root) from fun w' h => by
      obtain ⟨a1, a2, _⟩ := blk2 (bx_kept h HK2.out.1)
      obtain ⟨a3, a4, _⟩ := blk2 (bx_kept h HK2.out.2)
      exact ⟨a1, a2, a3, a4⟩)
    have HTA := Lib.hid (show ∀ w', Below w.heap.size w w' → Calls Tryd.prog 16 #[.agg #[.slice a.A a.ls.length a.c, .int .i64 a.root]] w' fun e w'' => e = .returned (.string ⟨(treeB a.tr).toArray⟩) ∧ Below w'.heap.size w' w'' from fun w' h => ptree_t a S w' (HA.out.below h) (by have := HS.out.1.1; omega) (HP.out.below h))
    have HTB := Lib.hid (show ∀ w', Below w.heap.size w w' → Calls Tryd.prog 16 #[.agg #[.slice b.A b.ls.length b.c, .int .i64 b.root]] w' fun e w'' => e = .returned (.string ⟨(treeB b.tr).toArray⟩) ∧ Below w'.heap.size w' w'' from fun w' h => ptree_t b T w' (HB.out.below h) (by have := HS.out.2.1; omega) (HP.out.below h))
    have HRA := Lib.hid (show ∀ w', Below w.heap.size w w' → _ from fun w' h => right_any a.A a.c a.ls a.root S w' (HA.out.below h).2 HA.out.1 (HP.out.below h).cn)
    have HRB := Lib.hid (show ∀ w', Below w.heap.size w w' → _ from fun w' h => right_any b.A b.c b.ls b.root T w' (HB.out.below h).2 HB.out.1 (HP.out.below h).cn)
    have HSM := Lib.hid (show ∀ w', Below w.heap.size w w' → _ from fun w' h => tsame_any a.A b.A a.c b.c a.ls b.ls a.root b.root S T w' (HA.out.below h).2 (HB.out.below h).2 (by have := HS.out.1.1; omega) (by have := HS.out.2.1; omega) (HP.out.below h).cn)
    have HE := Lib.hid (Below.refl w2.heap.size w2)
    go_upto_region 3 with (fail)
    go_cut [5, 6] (fun v5 v6 wx => v5 = .string ⟨(treeB a.tr).toArray⟩ ∧ v6 = .string ⟨(treeB b.tr).toArray⟩ ∧ Hid (Below w2.heap.size w2 wx))
    case first =>
      go_region_held3 (fun w' => w'.cell? ⟨w.heap.size, 0, none⟩ = some (.slice a.A a.ls.length a.c) ∧ w'.cell? ⟨w.heap.size, 1, none⟩ = some (.int .i64 a.root) ∧ w'.cell? ⟨w.heap.size + 1, 0, none⟩ = some (.slice b.A b.ls.length b.c) ∧ w'.cell? ⟨w.heap.size + 1, 1, none⟩ = some (.int .i64 b.root))
        (exact HSB.out _ (by first | exact HE.out | exact HE.out.drew))
        (first
          | (go_at_call 16; (with_reducible refine (HTA.out _ (Below.step HB2.out (by first | exact HE.out | exact HE.out.drew))).mono ?_); rintro e wx ⟨rfl, hb⟩; have HE' := Lib.hid (Below.step (by first | exact HE.out | exact HE.out.drew) hb); clear HE; have HE := HE'; clear HE' hb)
          | (go_at_call 16; (with_reducible refine (HTB.out _ (Below.step HB2.out (by first | exact HE.out | exact HE.out.drew))).mono ?_); rintro e wx ⟨rfl, hb⟩; have HE' := Lib.hid (Below.step (by first | exact HE.out | exact HE.out.drew) hb); clear HE; have HE := HE'; clear HE' hb)
          | fail)
      all_goals go_wp2_with fail
      all_goals go_meet
      all_goals exact ⟨rfl, rfl, HE⟩
    case rest =>
      obtain ⟨rfl, rfl, HD⟩ := hcut
      clear HE
      have HE := HD
      clear HD
      obtain ⟨p1, p2, p3, p4⟩ := HSB.out _ HE.out
      have HRT := Lib.hid (show rightT ⟨a.ls.map Ln.nd, a.root⟩ = rightT a.tr ∧ rightT ⟨b.ls.map Ln.nd, b.root⟩ = rightT b.tr ∧ sameT ⟨a.ls.map Ln.nd, a.root⟩ ⟨b.ls.map Ln.nd, b.root⟩ = sameT a.tr b.tr from ⟨rfl, rfl, rfl⟩)
      rw [HRT.out.1] at HRA
      rw [HRT.out.2.1] at HRB
      rw [HRT.out.2.2] at HSM
      clear HRT
      cases hra : rightT a.tr
      · rw [hra] at HRA
        rw [str_nil _ (treeB_no hra)]
        clear hra
        cases hrb : rightT b.tr
        · rw [hrb] at HRB
          rw [str_nil _ (treeB_no hrb)]
          clear hrb
          go_wp2_with (first
          | (go_at_call 32; (with_reducible refine (HRA.out _ (Below.step HB2.out HE.out)).mono ?_); rintro e wx ⟨rfl, hb⟩; have HE' := Lib.hid (Below.step HE.out hb); clear HE; have HE := HE'; clear HE' hb p1 p2 p3 p4; obtain ⟨p1, p2, p3, p4⟩ := HSB.out _ HE.out)
          | (go_at_call 32; (with_reducible refine (HRB.out _ (Below.step HB2.out HE.out)).mono ?_); rintro e wx ⟨rfl, hb⟩; have HE' := Lib.hid (Below.step HE.out hb); clear HE; have HE := HE'; clear HE' hb p1 p2 p3 p4; obtain ⟨p1, p2, p3, p4⟩ := HSB.out _ HE.out)
          | (go_at_call 33; (with_reducible refine (HSM.out _ (Below.step HB2.out HE.out)).mono ?_); rintro e wx ⟨rfl, hb⟩; have HE' := Lib.hid (Below.step HE.out hb); clear HE; have HE := HE'; clear HE' hb p1 p2 p3 p4; obtain ⟨p1, p2, p3, p4⟩ := HSB.out _ HE.out)
          | fail)
          go_ret
          exact ⟨ret_bool (by simp), Below.step HB2.out HE.out⟩
        · rw [hrb] at HRB
          obtain ⟨b1, b2⟩ := bytes_ne ⟨(treeB b.tr).toArray⟩ (by rw [size_mk]; exact List.length_pos_iff.2 (treeB_ne hrb))
          clear hrb
          generalize (⟨(treeB b.tr).toArray⟩ : ByteArray) = sb at *
          go_wp2_with (first
          | (go_at_call 32; (with_reducible refine (HRA.out _ (Below.step HB2.out HE.out)).mono ?_); rintro e wx ⟨rfl, hb⟩; have HE' := Lib.hid (Below.step HE.out hb); clear HE; have HE := HE'; clear HE' hb p1 p2 p3 p4; obtain ⟨p1, p2, p3, p4⟩ := HSB.out _ HE.out)
          | (go_at_call 32; (with_reducible refine (HRB.out _ (Below.step HB2.out HE.out)).mono ?_); rintro e wx ⟨rfl, hb⟩; have HE' := Lib.hid (Below.step HE.out hb); clear HE; have HE := HE'; clear HE' hb p1 p2 p3 p4; obtain ⟨p1, p2, p3, p4⟩ := HSB.out _ HE.out)
          | (go_at_call 33; (with_reducible refine (HSM.out _ (Below.step HB2.out HE.out)).mono ?_); rintro e wx ⟨rfl, hb⟩; have HE' := Lib.hid (Below.step HE.out hb); clear HE; have HE := HE'; clear HE' hb p1 p2 p3 p4; obtain ⟨p1, p2, p3, p4⟩ := HSB.out _ HE.out)
          | fail)
          go_ret
          exact ⟨ret_bool (by simp), Below.step HB2.out HE.out⟩
      · rw [hra] at HRA
        obtain ⟨a1, a2⟩ := bytes_ne ⟨(treeB a.tr).toArray⟩ (by rw [size_mk]; exact List.length_pos_iff.2 (treeB_ne hra))
        cases hrb : rightT b.tr
        · clear hra
          rw [hrb] at HRB
          rw [str_nil _ (treeB_no hrb)]
          clear hrb
          generalize (⟨(treeB a.tr).toArray⟩ : ByteArray) = sa at *
          go_wp2_with (first
          | (go_at_call 32; (with_reducible refine (HRA.out _ (Below.step HB2.out HE.out)).mono ?_); rintro e wx ⟨rfl, hb⟩; have HE' := Lib.hid (Below.step HE.out hb); clear HE; have HE := HE'; clear HE' hb p1 p2 p3 p4; obtain ⟨p1, p2, p3, p4⟩ := HSB.out _ HE.out)
          | (go_at_call 32; (with_reducible refine (HRB.out _ (Below.step HB2.out HE.out)).mono ?_); rintro e wx ⟨rfl, hb⟩; have HE' := Lib.hid (Below.step HE.out hb); clear HE; have HE := HE'; clear HE' hb p1 p2 p3 p4; obtain ⟨p1, p2, p3, p4⟩ := HSB.out _ HE.out)
          | (go_at_call 33; (with_reducible refine (HSM.out _ (Below.step HB2.out HE.out)).mono ?_); rintro e wx ⟨rfl, hb⟩; have HE' := Lib.hid (Below.step HE.out hb); clear HE; have HE := HE'; clear HE' hb p1 p2 p3 p4; obtain ⟨p1, p2, p3, p4⟩ := HSB.out _ HE.out)
          | fail)
          go_ret
          exact ⟨ret_bool (by simp), Below.step HB2.out HE.out⟩
        · rw [hrb] at HRB
          obtain ⟨b1, b2⟩ := bytes_ne ⟨(treeB b.tr).toArray⟩ (by rw [size_mk]; exact List.length_pos_iff.2 (treeB_ne hrb))
          have hEQ : ((⟨(treeB a.tr).toArray⟩ : ByteArray).toList == (⟨(treeB b.tr).toArray⟩ : ByteArray).toList) = sameT a.tr b.tr := by
            rw [Bool.eq_iff_iff, beq_iff_eq, Lib.toList_data, Lib.toList_data]
            exact unlike_tree hra hrb HW1.out HW2.out
          clear hra hrb
          generalize (⟨(treeB a.tr).toArray⟩ : ByteArray) = sa at *
          generalize (⟨(treeB b.tr).toArray⟩ : ByteArray) = sb at *
          generalize sameT a.tr b.tr = sm at *
          go_wp2_with (first
          | (go_at_call 32; (with_reducible refine (HRA.out _ (Below.step HB2.out HE.out)).mono ?_); rintro e wx ⟨rfl, hb⟩; have HE' := Lib.hid (Below.step HE.out hb); clear HE; have HE := HE'; clear HE' hb p1 p2 p3 p4; obtain ⟨p1, p2, p3, p4⟩ := HSB.out _ HE.out)
          | (go_at_call 32; (with_reducible refine (HRB.out _ (Below.step HB2.out HE.out)).mono ?_); rintro e wx ⟨rfl, hb⟩; have HE' := Lib.hid (Below.step HE.out hb); clear HE; have HE := HE'; clear HE' hb p1 p2 p3 p4; obtain ⟨p1, p2, p3, p4⟩ := HSB.out _ HE.out)
          | (go_at_call 33; (with_reducible refine (HSM.out _ (Below.step HB2.out HE.out)).mono ?_); rintro e wx ⟨rfl, hb⟩; have HE' := Lib.hid (Below.step HE.out hb); clear HE; have HE := HE'; clear HE' hb p1 p2 p3 p4; obtain ⟨p1, p2, p3, p4⟩ := HSB.out _ HE.out)
          | fail)
          go_ret
          exact ⟨ret_bool (by simp [hEQ]), Below.step HB2.out HE.out⟩
  · as_aux_lemma =>
      go_wp2_with (go_at_call 14; refine (works_any _ (HP.out.below HB2.out)).mono ?_; rintro e w3 ⟨rfl, hb3⟩; have HB3 := Lib.hid (Below.step HB2.out hb3); clear hb3)
      go_ret
      exact ⟨rfl, HB3.out⟩
end Go.Proofs.YtjlohjdmekbipaaDoor
