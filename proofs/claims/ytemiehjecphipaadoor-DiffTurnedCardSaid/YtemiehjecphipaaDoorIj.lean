/- The walk of DiffTurned: it returns true. -/
import Derived.Test.YtemiehjecphipaaDoorEa
import Derived.Test.YtemiehjecphipaaDoorEb
import Derived.Test.YtemiehjecphipaaDoorDa
import Derived.Test.YtemiehjecphipaaDoorIh
namespace Go.Proofs.YtemiehjecphipaaDoor
open Go.RowKit
set_option linter.unusedSimpArgs false
set_option linter.unusedVariables false

theorem ofL_len (a b : List Df) : (ofL a b).length ≤ a.length + b.length := by
  have := of_counts _ a b (Nat.le_refl _)
  omega
/-- The three counts of a diff. -/
def Cnt3 (l : List Ed) : Value := .tuple #[.int .i64 (countK 0 l : Nat), .int .i64 (countK 1 l : Nat), .int .i64 (countK 2 l : Nat)]
theorem ofc_any (la lb : List Ld) (A B : Option Addr) (c d : Nat) (S T : Nat → Prop) (w : World) (hA : dfL.row w S A la) (hB : dfL.row w T B lb) (h1 : SmallG la) (h2 : SmallG lb) (ht : CntTab w) :
    Calls Tryd.prog 57 #[.agg #[.slice A la.length c], .agg #[.slice B lb.length d]] w fun e w' => ∃ (V : Option Addr) (n vc : Nat), e = .returned (.slice V n vc) ∧ Below w.heap.size w w' ∧
      Calls Tryd.prog 56 #[.slice V n vc] w' fun e w'' => e = .returned (Cnt3 (ofL (la.map Ld.df) (lb.map Ld.df))) ∧ Below w'.heap.size w' w'' := by
  have hs1 := h1.1; have hs2 := h2.1
  refine (of_any la lb A B c d S T w hA hB (by omega) (by omega) (fun x hx => ((h1.2 x hx).mod).1) (fun x hx => (h2.2 x hx).mod) ht).mono ?_
  rintro e w' ⟨V, vc, es, rfl, hes, heo, hb⟩
  refine ⟨V, es.length, vc, rfl, hb, ?_⟩
  rw [← hes]
  refine ecount_any es V vc _ w' heo.inn ?_
  have h3 := ofL_len (la.map Ld.df) (lb.map Ld.df)
  rw [← hes] at h3
  simp only [List.length_map] at h3
  omega

set_option maxRecDepth 100000 in
set_option maxHeartbeats 12800000 in
theorem turned_walk (A B C : Option Addr) (c d f : Nat) (la lb lc : List Ld) (S T U : Nat → Prop) (w : World) (hA : dfL.row w S A la) (hB : dfL.row w T B lb) (hC : dfL.row w U C lc) (hl1 : la.length ≤ 281474976710656) (hl2 : lb.length ≤ 281474976710656) (hl3 : lc.length ≤ 281474976710656) (hp : PTabs w) :
    Calls Tryd.prog 13 #[.agg #[.slice A la.length c], .agg #[.slice B lb.length d], .agg #[.slice C lc.length f]] w fun e w' => e = .returned (.bool true) ∧ Below w.heap.size w w' := by
  have HA := Lib.hid hA; have HB := Lib.hid hB; have HC := Lib.hid hC; have HP := Lib.hid hp
  clear hA hB hC hp
  generalize ho1 : Obj.cells #[.slice A la.length c] 34 (0, 0) = o1
  generalize ho2 : Obj.cells #[.slice B lb.length d] 34 (0, 0) = o2
  generalize ho3 : Obj.cells #[.slice C lc.length f] 34 (0, 0) = o3
  have HB3 := Lib.hid ((bx3 w o1 o2 o3).trans ((bx1 (((w.alloc o1).alloc o2).alloc o3) (.cells #[.slice A la.length c, .slice B lb.length d, .slice C lc.length f] 34)).mono (by simp; omega)))
  have HGR := Lib.hid (show grL.row ((((w.alloc o1).alloc o2).alloc o3).alloc (.cells #[.slice A la.length c, .slice B lb.length d, .slice C lc.length f] 34)) (fun _ => True) (some ⟨w.heap.size + 1 + 1 + 1, 0, none⟩) [⟨A, c, la⟩, ⟨B, d, lb⟩, ⟨C, f, lc⟩] from by
    refine ⟨⟨?_, fun _ _ _ => trivial⟩, fun g hg => ?_⟩
    · have h := bx_new (((w.alloc o1).alloc o2).alloc o3) (.cells #[.slice A la.length c, .slice B lb.length d, .slice C lc.length f] 34)
      rw [World.size_alloc, World.size_alloc, World.size_alloc] at h
      have h2 := row_blk (cs := [.slice A la.length c, .slice B lb.length d, .slice C lc.length f]) h
      have e : grL.all [⟨A, c, la⟩, ⟨B, d, lb⟩, ⟨C, f, lc⟩] = [.slice A la.length c, .slice B lb.length d, .slice C lc.length f] := rfl
      rw [e]; exact h2
    · simp only [List.mem_cons, List.not_mem_nil, or_false] at hg
      rcases hg with rfl | rfl | rfl
      · exact ⟨hl1, (HA.out.below HB3.out).mono (fun _ _ _ => trivial)⟩
      · exact ⟨hl2, (HB.out.below HB3.out).mono (fun _ _ _ => trivial)⟩
      · exact ⟨hl3, (HC.out.below HB3.out).mono (fun _ _ _ => trivial)⟩)
  have HKK := Lib.hid (show ∀ o w', Below ((((w.alloc o1).alloc o2).alloc o3).alloc o).heap.size ((((w.alloc o1).alloc o2).alloc o3).alloc o) w' → w'.heap[w.heap.size]? = some o1 ∧ w'.heap[w.heap.size + 1]? = some o2 ∧ w'.heap[w.heap.size + 1 + 1]? = some o3 from fun o w' hb => by
    refine ⟨bx_kept hb (bx_old (bx_old (bx_old (bx_new w o1)))), bx_kept hb (bx_old (bx_old ?_)), bx_kept hb (bx_old ?_)⟩
    · have h := bx_new (w.alloc o1) o2
      rw [World.size_alloc] at h; exact h
    · have h := bx_new ((w.alloc o1).alloc o2) o3
      rw [World.size_alloc, World.size_alloc] at h; exact h)
  subst ho1 ho2 ho3
  go_enter Tryd.func13, Tryd.ntmps13
  go_wp2_with fail
  refine (large_any [⟨A, c, la⟩, ⟨B, d, lb⟩, ⟨C, f, lc⟩] (some ⟨w.heap.size + 1 + 1 + 1, 0, none⟩) 3 (fun _ => True) _ HGR.out (by simp)).mono ?_
  rintro e w1 ⟨r, rfl, hr1, hb1⟩
  have HB1 := Lib.hid (Below.step HB3.out hb1)
  have HK1 := Lib.hid (HKK.out _ _ hb1)
  clear hb1 HGR HKK HB3
  cases r
  · have HS1 := Lib.hid (show SmallG la ∧ SmallG lb ∧ SmallG lc from ⟨hr1 rfl ⟨A, c, la⟩ (by simp), hr1 rfl ⟨B, d, lb⟩ (by simp), hr1 rfl ⟨C, f, lc⟩ (by simp)⟩)
    clear hr1
    have hs1 := HS1.out.1.1
    have h1 := counts_turned (la.map Ld.df) (lb.map Ld.df)
    have h2 := counts_tri (la.map Ld.df) (lb.map Ld.df) (lc.map Ld.df)
    have hq : ∀ (k : Int) (a b : List Ld), a.length ≤ 500 → b.length ≤ 500 → countK k (ofL (a.map Ld.df) (b.map Ld.df)) ≤ 1000 := fun k a b h1 h2 => by
      have h3 : countK k (ofL (a.map Ld.df) (b.map Ld.df)) ≤ (ofL (a.map Ld.df) (b.map Ld.df)).length := List.countP_le_length
      have h4 := ofL_len (a.map Ld.df) (b.map Ld.df)
      simp only [List.length_map] at h4
      omega
    have q1 := hq 1 la lb HS1.out.1.1 HS1.out.2.1.1
    have q2 := hq 2 la lb HS1.out.1.1 HS1.out.2.1.1
    have q3 := hq 1 lb lc HS1.out.2.1.1 HS1.out.2.2.1
    have q4 := hq 2 lb lc HS1.out.2.1.1 HS1.out.2.2.1
    have q5 := hq 1 la lc HS1.out.1.1 HS1.out.2.2.1
    have q6 := hq 2 la lc HS1.out.1.1 HS1.out.2.2.1
    have q7 := hq 1 la la HS1.out.1.1 HS1.out.1.1
    have q8 := hq 2 la la HS1.out.1.1 HS1.out.1.1
    have h3 : mayG (la.map Ld.df) = 0 → countK 0 (ofL (la.map Ld.df) (la.map Ld.df)) = la.length ∧ countK 1 (ofL (la.map Ld.df) (la.map Ld.df)) = 0 ∧ countK 2 (ofL (la.map Ld.df) (la.map Ld.df)) = 0 := fun h => by
      have h4 := counts_self (la.map Ld.df) (fun x hx => ((mayG_ok h).ok x hx).2)
      simpa using h4
    clear hq
    have HC1 := Lib.hid (show ∀ w', Below w.heap.size w w' → _ from fun w' hb => ofc_any la lb A B c d S T w' (HA.out.below hb) (HB.out.below hb) HS1.out.1 HS1.out.2.1 (HP.out.cn.below hb))
    have HC2 := Lib.hid (show ∀ w', Below w.heap.size w w' → _ from fun w' hb => ofc_any lb la B A d c T S w' (HB.out.below hb) (HA.out.below hb) HS1.out.2.1 HS1.out.1 (HP.out.cn.below hb))
    have HC3 := Lib.hid (show ∀ w', Below w.heap.size w w' → _ from fun w' hb => ofc_any la la A A c c S S w' (HA.out.below hb) (HA.out.below hb) HS1.out.1 HS1.out.1 (HP.out.cn.below hb))
    have HC4 := Lib.hid (show ∀ w', Below w.heap.size w w' → _ from fun w' hb => ofc_any lb lc B C d f T U w' (HB.out.below hb) (HC.out.below hb) HS1.out.2.1 HS1.out.2.2 (HP.out.cn.below hb))
    have HC5 := Lib.hid (show ∀ w', Below w.heap.size w w' → _ from fun w' hb => ofc_any la lc A C c f S U w' (HA.out.below hb) (HC.out.below hb) HS1.out.1 HS1.out.2.2 (HP.out.cn.below hb))
    have HM := Lib.hid (show ∀ w', Below w.heap.size w w' → _ from fun w' hb => gmay_any A c la S w' (HA.out.below hb) (by omega) (fun d hd => by have := (HS1.out.1.2 d hd).1; omega) (HP.out.below hb))
    unfold Cnt3 at HC1 HC2 HC3 HC4 HC5
    generalize ofL (la.map Ld.df) (lb.map Ld.df) = l1 at *
    generalize ofL (lb.map Ld.df) (la.map Ld.df) = l2 at *
    generalize ofL (la.map Ld.df) (la.map Ld.df) = l3 at *
    generalize ofL (lb.map Ld.df) (lc.map Ld.df) = l4 at *
    generalize ofL (la.map Ld.df) (lc.map Ld.df) = l5 at *
    obtain ⟨e1, e2, e3⟩ := h1
    rw [e1, e2, e3] at HC2
    clear e1 e2 e3
    generalize mayG (la.map Ld.df) = mg at *
    generalize countK 0 l1 = n10 at *
    generalize countK 1 l1 = n11 at *
    generalize countK 2 l1 = n12 at *
    generalize countK 0 l3 = n30 at *
    generalize countK 1 l3 = n31 at *
    generalize countK 2 l3 = n32 at *
    generalize countK 0 l4 = n40 at *
    generalize countK 1 l4 = n41 at *
    generalize countK 2 l4 = n42 at *
    generalize countK 0 l5 = n50 at *
    generalize countK 1 l5 = n51 at *
    generalize countK 2 l5 = n52 at *
    have i9 : (n51 : Int) + (n52 : Int) ≤ (n11 : Int) + (n12 : Int) + (n41 : Int) + (n42 : Int) := by omega
    go_wp2_with (go_at_call 55; refine (awake_any _ (HP.out.cn.below HB1.out)).mono ?_; rintro e w2 ⟨rfl, hb2⟩; have HK2 := Lib.hid (And.intro (bx_kept hb2 HK1.out.1) (And.intro (bx_kept hb2 HK1.out.2.1) (bx_kept hb2 HK1.out.2.2))); have HB2 := Lib.hid (Below.step HB1.out hb2); obtain ⟨p1, p2⟩ := blk1 HK2.out.1; obtain ⟨p3, p4⟩ := blk1 HK2.out.2.1; obtain ⟨p5, p6⟩ := blk1 HK2.out.2.2; clear hb2)
    refine (HC1.out w2 HB2.out).mono ?_
    rintro e w3 ⟨V3, m3, c3, rfl, hb3, hc3⟩
    have HK3 := Lib.hid (And.intro (bx_kept hb3 HK2.out.1) (And.intro (bx_kept hb3 HK2.out.2.1) (bx_kept hb3 HK2.out.2.2))); have HB3 := Lib.hid (Below.step HB2.out hb3)
    clear hb3 p1 p2 p3 p4 p5 p6 HK1 HK2 HB1 HB2
    go_wp2_with fail
    refine hc3.mono ?_
    rintro e w4 ⟨rfl, hb4⟩
    have HK4 := Lib.hid (And.intro (bx_kept hb4 HK3.out.1) (And.intro (bx_kept hb4 HK3.out.2.1) (bx_kept hb4 HK3.out.2.2))); have HB4 := Lib.hid (Below.step HB3.out hb4)
    clear hb4 HK3 HB3 hc3
    obtain ⟨p1, p2⟩ := blk1 HK4.out.1; obtain ⟨p3, p4⟩ := blk1 HK4.out.2.1; obtain ⟨p5, p6⟩ := blk1 HK4.out.2.2
    go_wp2_with fail
    refine (HC2.out w4 HB4.out).mono ?_
    rintro e w3 ⟨V3, m3, c3, rfl, hb3, hc3⟩
    have HK3 := Lib.hid (And.intro (bx_kept hb3 HK4.out.1) (And.intro (bx_kept hb3 HK4.out.2.1) (bx_kept hb3 HK4.out.2.2))); have HB3 := Lib.hid (Below.step HB4.out hb3)
    clear hb3 p1 p2 p3 p4 p5 p6 HK4 HB4
    go_wp2_with fail
    refine hc3.mono ?_
    rintro e w4 ⟨rfl, hb4⟩
    have HK4 := Lib.hid (And.intro (bx_kept hb4 HK3.out.1) (And.intro (bx_kept hb4 HK3.out.2.1) (bx_kept hb4 HK3.out.2.2))); have HB4 := Lib.hid (Below.step HB3.out hb4)
    clear hb4 HK3 HB3 hc3
    obtain ⟨p1, p2⟩ := blk1 HK4.out.1; obtain ⟨p3, p4⟩ := blk1 HK4.out.2.1; obtain ⟨p5, p6⟩ := blk1 HK4.out.2.2
    go_wp2_with fail
    refine (HC3.out w4 HB4.out).mono ?_
    rintro e w3 ⟨V3, m3, c3, rfl, hb3, hc3⟩
    have HK3 := Lib.hid (And.intro (bx_kept hb3 HK4.out.1) (And.intro (bx_kept hb3 HK4.out.2.1) (bx_kept hb3 HK4.out.2.2))); have HB3 := Lib.hid (Below.step HB4.out hb3)
    clear hb3 p1 p2 p3 p4 p5 p6 HK4 HB4
    go_wp2_with fail
    refine hc3.mono ?_
    rintro e w4 ⟨rfl, hb4⟩
    have HK4 := Lib.hid (And.intro (bx_kept hb4 HK3.out.1) (And.intro (bx_kept hb4 HK3.out.2.1) (bx_kept hb4 HK3.out.2.2))); have HB4 := Lib.hid (Below.step HB3.out hb4)
    clear hb4 HK3 HB3 hc3
    obtain ⟨p1, p2⟩ := blk1 HK4.out.1; obtain ⟨p3, p4⟩ := blk1 HK4.out.2.1; obtain ⟨p5, p6⟩ := blk1 HK4.out.2.2
    go_wp2_with fail
    refine (HM.out w4 HB4.out).mono ?_
    rintro e w5 ⟨rfl, hb5⟩
    have HK5 := Lib.hid (And.intro (bx_kept hb5 HK4.out.1) (And.intro (bx_kept hb5 HK4.out.2.1) (bx_kept hb5 HK4.out.2.2))); have HB5 := Lib.hid (Below.step HB4.out hb5)
    clear hb5 p1 p2 p3 p4 p5 p6 HK4 HB4
    obtain ⟨p1, p2⟩ := blk1 HK5.out.1; obtain ⟨p3, p4⟩ := blk1 HK5.out.2.1; obtain ⟨p5, p6⟩ := blk1 HK5.out.2.2
    have HR := Lib.hid (show ∀ w', Below w.heap.size w w' → w'.cell? ⟨w.heap.size, 0, none⟩ = some (.slice A la.length c) → w'.cell? ⟨w.heap.size + 1, 0, none⟩ = some (.slice B lb.length d) → True from fun _ _ _ _ => trivial)
    by_cases hmg : mg = 0
    · obtain ⟨r1, r2, r3⟩ := h3 hmg
      subst hmg r1 r2 r3
      clear h3 q7 q8
      go_wp2_with fail
      refine (HC4.out w5 HB5.out).mono ?_
      rintro e w3 ⟨V3, m3, c3, rfl, hb3, hc3⟩
      have HK3 := Lib.hid (And.intro (bx_kept hb3 HK5.out.1) (And.intro (bx_kept hb3 HK5.out.2.1) (bx_kept hb3 HK5.out.2.2))); have HB3 := Lib.hid (Below.step HB5.out hb3)
      clear hb3 p1 p2 p3 p4 p5 p6 HK5 HB5
      go_wp2_with fail
      refine hc3.mono ?_
      rintro e w4 ⟨rfl, hb4⟩
      have HK4 := Lib.hid (And.intro (bx_kept hb4 HK3.out.1) (And.intro (bx_kept hb4 HK3.out.2.1) (bx_kept hb4 HK3.out.2.2))); have HB4 := Lib.hid (Below.step HB3.out hb4)
      clear hb4 HK3 HB3 hc3
      obtain ⟨p1, p2⟩ := blk1 HK4.out.1; obtain ⟨p3, p4⟩ := blk1 HK4.out.2.1; obtain ⟨p5, p6⟩ := blk1 HK4.out.2.2
      go_wp2_with fail
      refine (HC5.out w4 HB4.out).mono ?_
      rintro e w3 ⟨V3, m3, c3, rfl, hb3, hc3⟩
      have HK3 := Lib.hid (And.intro (bx_kept hb3 HK4.out.1) (And.intro (bx_kept hb3 HK4.out.2.1) (bx_kept hb3 HK4.out.2.2))); have HB3 := Lib.hid (Below.step HB4.out hb3)
      clear hb3 p1 p2 p3 p4 p5 p6 HK4 HB4
      go_wp2_with fail
      refine hc3.mono ?_
      rintro e w4 ⟨rfl, hb4⟩
      have HB4 := Lib.hid (Below.step HB3.out hb4)
      clear hb4 HK3 HB3 hc3
      go_wp2_with fail
      go_ret
      exact ⟨rfl, HB4.out⟩
    · have hmb : (mg == 0) = false := by simpa using hmg
      go_wp2_with fail
      refine (HC4.out w5 HB5.out).mono ?_
      rintro e w3 ⟨V3, m3, c3, rfl, hb3, hc3⟩
      have HK3 := Lib.hid (And.intro (bx_kept hb3 HK5.out.1) (And.intro (bx_kept hb3 HK5.out.2.1) (bx_kept hb3 HK5.out.2.2))); have HB3 := Lib.hid (Below.step HB5.out hb3)
      clear hb3 p1 p2 p3 p4 p5 p6 HK5 HB5
      go_wp2_with fail
      refine hc3.mono ?_
      rintro e w4 ⟨rfl, hb4⟩
      have HK4 := Lib.hid (And.intro (bx_kept hb4 HK3.out.1) (And.intro (bx_kept hb4 HK3.out.2.1) (bx_kept hb4 HK3.out.2.2))); have HB4 := Lib.hid (Below.step HB3.out hb4)
      clear hb4 HK3 HB3 hc3
      obtain ⟨p1, p2⟩ := blk1 HK4.out.1; obtain ⟨p3, p4⟩ := blk1 HK4.out.2.1; obtain ⟨p5, p6⟩ := blk1 HK4.out.2.2
      go_wp2_with fail
      refine (HC5.out w4 HB4.out).mono ?_
      rintro e w3 ⟨V3, m3, c3, rfl, hb3, hc3⟩
      have HK3 := Lib.hid (And.intro (bx_kept hb3 HK4.out.1) (And.intro (bx_kept hb3 HK4.out.2.1) (bx_kept hb3 HK4.out.2.2))); have HB3 := Lib.hid (Below.step HB4.out hb3)
      clear hb3 p1 p2 p3 p4 p5 p6 HK4 HB4
      go_wp2_with fail
      refine hc3.mono ?_
      rintro e w4 ⟨rfl, hb4⟩
      have HB4 := Lib.hid (Below.step HB3.out hb4)
      clear hb4 HK3 HB3 hc3
      go_wp2_with fail
      go_ret
      exact ⟨rfl, HB4.out⟩
  · as_aux_lemma =>
      go_wp2_with (go_at_call 55; refine (awake_any _ (HP.out.cn.below HB1.out)).mono ?_; rintro e w3 ⟨rfl, hb3⟩; have HB3 := Lib.hid (Below.step HB1.out hb3); clear hb3)
      go_ret
      exact ⟨rfl, HB3.out⟩
end Go.Proofs.YtemiehjecphipaaDoor
