/- What PathAll says of places, plain; no program in sight. -/
import Derived.Test.YtmjkgnknfgoadaaGreatDoorWi
import Derived.Test.YtmjkgnknfgoadaaGreatDoorBf
import Derived.Test.YtmjkgnknfgoadaaGreatDoorBb
import Derived.Test.YtmjkgnknfgoadaaGreatDoorId
import Derived.BigQuiet
namespace Go.Proofs.YtmjkgnknfgoadaaGreatDoor
set_option linter.unusedSimpArgs false
set_option linter.unusedVariables false

theorem cmpI_cases (x y : Int) : (x < y ∧ Lib.compareInt x y = -1) ∨ (x = y ∧ Lib.compareInt x y = 0) ∨ (y < x ∧ Lib.compareInt x y = 1) := by
  unfold Lib.compareInt
  rcases Int.lt_trichotomy x y with h | h | h
  · exact .inl ⟨h, by simp [h]⟩
  · exact .inr (.inl ⟨h, by simp [h]⟩)
  · exact .inr (.inr ⟨h, by simp [h, Int.not_lt.2 (Int.le_of_lt h), show ¬ x = y by omega, show ¬ x < y by omega]⟩)
theorem cmpL_neg : ∀ l m : List Int, cmpL m l = - cmpL l m
  | [], [] => by simp [cmpL]
  | [], _ :: _ => by simp [cmpL]
  | _ :: _, [] => by simp [cmpL]
  | x :: xs, y :: ys => by
    rw [cmpL, cmpL]
    by_cases h : x = y
    · rw [if_pos h, if_pos h.symm, cmpL_neg xs ys]
    · rw [if_neg h, if_neg (fun e => h e.symm)]
      rcases cmpI_cases x y with ⟨h1, h2⟩ | ⟨h1, h2⟩ | ⟨h1, h2⟩ <;> rcases cmpI_cases y x with ⟨h3, h4⟩ | ⟨h3, h4⟩ | ⟨h3, h4⟩ <;> omega
theorem cmpL_le : ∀ l m n : List Int, cmpL l m ≤ 0 → cmpL m n ≤ 0 → cmpL l n ≤ 0
  | [], m, [], _, _ => by simp [cmpL]
  | [], m, _ :: _, _, _ => by simp [cmpL]
  | _ :: _, [], n, h, _ => by simp [cmpL] at h
  | _ :: _, _ :: _, [], _, h => by simp [cmpL] at h
  | x :: xs, y :: ys, z :: zs, h, k => by
    rw [cmpL] at h k ⊢
    by_cases hxy : x = y
    · subst hxy
      rw [if_pos rfl] at h
      by_cases hxz : x = z
      · subst hxz
        rw [if_pos rfl] at k ⊢
        exact cmpL_le xs ys zs h k
      · rw [if_neg hxz] at k ⊢; exact k
    · rw [if_neg hxy] at h
      by_cases hyz : y = z
      · subst hyz
        rw [if_neg hxy]; exact h
      · rw [if_neg hyz] at k
        have hxz : x < z := by
          rcases cmpI_cases x y with ⟨h1, h2⟩ | ⟨h1, h2⟩ | ⟨h1, h2⟩ <;> rcases cmpI_cases y z with ⟨h3, h4⟩ | ⟨h3, h4⟩ | ⟨h3, h4⟩ <;> omega
        rw [if_neg (by omega)]
        rcases cmpI_cases x z with ⟨h1, h2⟩ | ⟨h1, h2⟩ | ⟨h1, h2⟩ <;> omega
theorem cmpP_neg (r s : Int) (p q : List Int) : cmpP s q r p = - cmpP r p s q := by
  unfold cmpP
  by_cases h : r = s
  · rw [if_pos h, if_pos h.symm]; exact cmpL_neg p q
  · rw [if_neg h, if_neg (fun e => h e.symm)]
    rcases cmpI_cases r s with ⟨h1, h2⟩ | ⟨h1, h2⟩ | ⟨h1, h2⟩ <;> rcases cmpI_cases s r with ⟨h3, h4⟩ | ⟨h3, h4⟩ | ⟨h3, h4⟩ <;> omega
theorem cmpP_le (r s t : Int) (p q u : List Int) (h : cmpP r p s q ≤ 0) (k : cmpP s q t u ≤ 0) : cmpP r p t u ≤ 0 := by
  unfold cmpP at *
  by_cases hrs : r = s
  · subst hrs
    rw [if_pos rfl] at h
    by_cases hrt : r = t
    · subst hrt
      rw [if_pos rfl] at k ⊢
      exact cmpL_le p q u h k
    · rw [if_neg hrt] at k ⊢; exact k
  · rw [if_neg hrs] at h
    by_cases hst : s = t
    · subst hst
      rw [if_neg hrs]; exact h
    · rw [if_neg hst] at k
      have hrt : r < t := by
        rcases cmpI_cases r s with ⟨h1, h2⟩ | ⟨h1, h2⟩ | ⟨h1, h2⟩ <;> rcases cmpI_cases s t with ⟨h3, h4⟩ | ⟨h3, h4⟩ | ⟨h3, h4⟩ <;> omega
      rw [if_neg (by omega)]
      rcases cmpI_cases r t with ⟨h1, h2⟩ | ⟨h1, h2⟩ | ⟨h1, h2⟩ <;> omega
theorem cmpP_self (r : Int) (p : List Int) : cmpP r p r p = 0 := cmpP_zero.2 ⟨rfl, rfl⟩
theorem allPs_mem : ∀ (g : List Df) (i : Nat) (q : Int × List Int), q ∈ allPs g i → ∃ k, ∃ hk : k < g.length, q.1 = ((i + k : Nat) : Int) ∧ q.2 ∈ allTT (den g[k].body.nodes g[k].body.root.toNat) []
  | [], _, _, h => by simp [allPs] at h
  | d :: g, i, q, h => by
    rw [allPs] at h
    rcases List.mem_append.1 h with h | h
    · obtain ⟨p, hp, rfl⟩ := List.mem_map.1 h
      exact ⟨0, by simp, by simp, by simpa using hp⟩
    · obtain ⟨k, hk, h1, h2⟩ := allPs_mem g (i + 1) q h
      exact ⟨k + 1, by simpa using hk, by rw [h1]; congr 1; omega, by simpa using h2⟩
theorem allPs_sorted : ∀ (g : List Df) (i : Nat), (allPs g i).Pairwise fun a b => cmpP a.1 a.2 b.1 b.2 = -1
  | [], _ => by simp [allPs]
  | d :: g, i => by
    rw [allPs, List.pairwise_append]
    refine ⟨?_, allPs_sorted g (i + 1), fun a ha b hb => ?_⟩
    · rw [List.pairwise_map]
      refine (allTT_sorted _ _).imp fun {a b} h => ?_
      unfold cmpP
      rw [if_pos rfl]; exact h
    · obtain ⟨p, hp, rfl⟩ := List.mem_map.1 ha
      obtain ⟨k, hk, h1, h2⟩ := allPs_mem g (i + 1) b hb
      unfold cmpP
      rw [if_neg (by rw [h1]; omega)]
      rcases cmpI_cases (i : Int) b.1 with ⟨h3, h4⟩ | ⟨h3, h4⟩ | ⟨h3, h4⟩
      · exact h4
      · omega
      · omega
theorem allPs_find {g : List Df} (hok : ∀ d ∈ g, rightT d.body = true) (q : Int × List Int) (h : q ∈ allPs g 0) : (findP g q.1 q.2).isSome = true := by
  obtain ⟨k, hk, h1, h2⟩ := allPs_mem g 0 q h
  obtain ⟨s, y, h3, h4, _⟩ := allTT_mem _ _ _ h2
  unfold findP
  rw [if_pos (by omega)]
  have e : q.1.toNat = k := by omega
  rw [e, List.getElem?_eq_getElem hk]
  simp only [Option.map_some, Option.getD_some, Option.isSome_map]
  unfold atT
  rw [if_pos (hok _ (List.getElem_mem hk)), h3, List.nil_append, h4]
  rfl
theorem sz_den_eq {t : Tr} (h : rightP t) : szTT (den t.nodes t.root.toNat) = t.nodes.length := by
  have hr : t.root.toNat < t.nodes.length := by have := h.1; omega
  unfold szTT
  rw [← taken_flat (rightP_ahead h) _ (post_nodup h _ hr), taken_length]
  exact root_length h
theorem allPs_nodes : ∀ (g : List Df) (i : Nat), (∀ d ∈ g, rightT d.body = true) → (allPs g i).length = nodesG g
  | [], _, _ => rfl
  | d :: g, i, h => by
    have h1 := allPs_nodes g (i + 1) fun x hx => h x (List.mem_cons_of_mem _ hx)
    have h2 := h d List.mem_cons_self
    rw [allPs, List.length_append, List.length_map, allTT_length, sz_den_eq ((rightT_iff _).1 h2), h1]
    simp only [nodesG, List.map_cons, List.sum_cons, sizeT, h2, if_true]
theorem cmpL_range : ∀ l m : List Int, cmpL l m = -1 ∨ cmpL l m = 0 ∨ cmpL l m = 1
  | [], [] => by simp [cmpL]
  | [], _ :: _ => by simp [cmpL]
  | _ :: _, [] => by simp [cmpL]
  | x :: xs, y :: ys => by
    rw [cmpL]
    split
    · exact cmpL_range xs ys
    · rcases cmpI_cases x y with ⟨h1, h2⟩ | ⟨h1, h2⟩ | ⟨h1, h2⟩ <;> omega
theorem cmpP_range (r s : Int) (p q : List Int) : cmpP r p s q = -1 ∨ cmpP r p s q = 0 ∨ cmpP r p s q = 1 := by
  unfold cmpP
  split
  · exact cmpL_range p q
  · rcases cmpI_cases r s with ⟨h1, h2⟩ | ⟨h1, h2⟩ | ⟨h1, h2⟩ <;> omega
theorem allPs_short {g : List Df} {B : Nat} (hok : ∀ d ∈ g, rightT d.body = true ∧ d.body.nodes.length ≤ B) (q : Int × List Int) (h : q ∈ allPs g 0) : q.2.length ≤ B := by
  obtain ⟨k, hk, h1, h2⟩ := allPs_mem g 0 q h
  obtain ⟨s, y, h3, h4, h5⟩ := allTT_mem _ _ _ h2
  have h6 := hok _ (List.getElem_mem hk)
  have h7 := sz_den ((rightT_iff _).1 h6.1)
  rw [h3, List.nil_append]; omega
end Go.Proofs.YtmjkgnknfgoadaaGreatDoor

/- The walk of PathAll. -/
namespace Go.Proofs.YtmjkgnknfgoadaaGreatDoor
open Go.RowKit
set_option linter.unusedSimpArgs false
set_option linter.unusedVariables false

theorem long_three {w : World} {A PA QA RA : Option Addr} {ds : List Ld} {p q u : List Int} (hG : dfL.row w (fun _ => True) A ds) (hP : intL.row w (fun _ => True) PA p) (hQ : intL.row w (fun _ => True) QA q) (hU : intL.row w (fun _ => True) RA u) (hdl : ds.length ≤ 281474976710656) (hpl : p.length ≤ 281474976710656) (hql : q.length ≤ 281474976710656) (hul : u.length ≤ 281474976710656) (c pc qc rc : Nat) :
    Calls Tryz.prog 34 #[.agg #[.slice A ds.length c], .slice none 0 0, .slice (some ⟨w.heap.size, 0, none⟩) 3 3] (w.alloc (.cells #[.slice PA p.length pc, .slice QA q.length qc, .slice RA u.length rc] 54)) fun e w' => ∃ r, e = .returned (.bool r) ∧ (r = false → ds.length ≤ 1500 ∧ (∀ d ∈ ds, d.t.ls.length ≤ 1500) ∧ p.length ≤ 1500 ∧ q.length ≤ 1500 ∧ u.length ≤ 1500) ∧ Below w.heap.size w w' := by
  have hn := bx_new w (.cells #[.slice PA p.length pc, .slice QA q.length qc, .slice RA u.length rc] 54)
  have hb := bx1 w (.cells #[.slice PA p.length pc, .slice QA q.length qc, .slice RA u.length rc] 54)
  generalize (w.alloc (.cells #[.slice PA p.length pc, .slice QA q.length qc, .slice RA u.length rc] 54)) = X at *
  have hk : ∀ w', KeptL X.heap.size none X w' → Below w.heap.size w w' := fun w' h => hb.trans (h.1.mono hb.size)
  refine (long_any A c ds none 0 [] (some ⟨w.heap.size, 0, none⟩) 3 [⟨PA, pc, p⟩, ⟨QA, qc, q⟩, ⟨RA, rc, u⟩] X.heap.size X (Nat.le_refl _) (fun w' h => hG.below (hk w' h)) (World.ownsRow_nil _ _ _ _) (fun _ _ t ht => by cases ht)
    (fun w' h => ⟨⟨row_blk (cs := [.slice PA p.length pc, .slice QA q.length qc, .slice RA u.length rc]) ((h.1.block _ (heap_lt' hn)).trans hn), fun _ _ _ => trivial⟩, fun x hx => ?_⟩) hdl (by simp) (by simp)).mono ?_
  · simp only [List.mem_cons, List.not_mem_nil, or_false] at hx
    rcases hx with rfl | rfl | rfl
    · exact ⟨hpl, hP.below (hk w' h)⟩
    · exact ⟨hql, hQ.below (hk w' h)⟩
    · exact ⟨hul, hU.below (hk w' h)⟩
  · rintro e w' ⟨r, rfl, hr, hb2⟩
    refine ⟨r, rfl, fun h => ?_, hb.trans (hb2.mono hb.size)⟩
    obtain ⟨h0, h1, _, h2⟩ := hr h
    exact ⟨h0, fun d hd => (h1 d hd).1, h2 ⟨PA, pc, p⟩ (by simp), h2 ⟨QA, qc, q⟩ (by simp), h2 ⟨RA, rc, u⟩ (by simp)⟩
theorem kA {wr wd : World} {o : Obj} (h : Below (wr.alloc o).drew.heap.size (wr.alloc o).drew wd) : wd.heap[wr.heap.size]? = some o := bx_kept h (bx_new wr o)
theorem kB {wr wd : World} {o : Obj} (h : Below (wr.alloc o).heap.size (wr.alloc o) wd) : wd.heap[wr.heap.size]? = some o := bx_kept h (bx_new wr o)
set_option maxRecDepth 100000 in
set_option maxHeartbeats 12800000 in
theorem pathall_walk (A : Option Addr) (c : Nat) (ds : List Ld) (r1 : Int) (PA : Option Addr) (pc : Nat) (p : List Int) (r2 : Int) (QA : Option Addr) (qc : Nat) (q : List Int) (r3 : Int) (RA : Option Addr) (rc : Nat) (u : List Int) (S0 S1 S2 S3 : Nat → Prop) (W : World)
    (hG : dfL.row W S0 A ds) (hdl : ds.length ≤ 281474976710656) (hP : intL.row W S1 PA p) (hpl : p.length ≤ 281474976710656) (hQ : intL.row W S2 QA q) (hql : q.length ≤ 281474976710656) (hU : intL.row W S3 RA u) (hul : u.length ≤ 281474976710656) (hp : PTabs W) :
    Calls Tryz.prog 5 #[.agg #[.slice A ds.length c], .agg #[.int .i64 r1, .slice PA p.length pc], .agg #[.int .i64 r2, .slice QA q.length qc], .agg #[.int .i64 r3, .slice RA u.length rc]] W fun e w' => e = .returned (.bool true) ∧ Below W.heap.size W w' := by
  have HG := Lib.hid hG; have HPp := Lib.hid hP; have HQq := Lib.hid hQ; have HUu := Lib.hid hU; have HPT := Lib.hid hp
  clear hG hP hQ hU hp
  go_enter Tryz.func5, Tryz.ntmps5
  go_upto_region 1 with (fail)
  have hb0 : Below W.heap.size W ((((W.alloc (.cells #[.slice A ds.length c] 24)).alloc (.cells #[.int .i64 r1, .slice PA p.length pc] 56)).alloc (.cells #[.int .i64 r2, .slice QA q.length qc] 56)).alloc (.cells #[.int .i64 r3, .slice RA u.length rc] 56)) :=
    (bx3 W _ _ _).trans ((bx1 _ _).mono (by simp; omega))
  have hcf : ∀ w', Below ((((W.alloc (.cells #[.slice A ds.length c] 24)).alloc (.cells #[.int .i64 r1, .slice PA p.length pc] 56)).alloc (.cells #[.int .i64 r2, .slice QA q.length qc] 56)).alloc (.cells #[.int .i64 r3, .slice RA u.length rc] 56)).heap.size ((((W.alloc (.cells #[.slice A ds.length c] 24)).alloc (.cells #[.int .i64 r1, .slice PA p.length pc] 56)).alloc (.cells #[.int .i64 r2, .slice QA q.length qc] 56)).alloc (.cells #[.int .i64 r3, .slice RA u.length rc] 56)) w' →
      w'.cell? ⟨W.heap.size, 0, none⟩ = some (.slice A ds.length c) ∧ w'.cell? ⟨W.heap.size + 1, 0, none⟩ = some (.int .i64 r1) ∧ w'.cell? ⟨W.heap.size + 1, 1, none⟩ = some (.slice PA p.length pc) ∧ w'.cell? ⟨W.heap.size + 1 + 1, 0, none⟩ = some (.int .i64 r2) ∧ w'.cell? ⟨W.heap.size + 1 + 1, 1, none⟩ = some (.slice QA q.length qc) ∧ w'.cell? ⟨W.heap.size + 1 + 1 + 1, 0, none⟩ = some (.int .i64 r3) ∧ w'.cell? ⟨W.heap.size + 1 + 1 + 1, 1, none⟩ = some (.slice RA u.length rc) := fun w' hb => by
    have h1 := bx_new (W.alloc (.cells #[.slice A ds.length c] 24)) (.cells #[.int .i64 r1, .slice PA p.length pc] 56)
    have h2 := bx_new ((W.alloc (.cells #[.slice A ds.length c] 24)).alloc (.cells #[.int .i64 r1, .slice PA p.length pc] 56)) (.cells #[.int .i64 r2, .slice QA q.length qc] 56)
    have h3 := bx_new (((W.alloc (.cells #[.slice A ds.length c] 24)).alloc (.cells #[.int .i64 r1, .slice PA p.length pc] 56)).alloc (.cells #[.int .i64 r2, .slice QA q.length qc] 56)) (.cells #[.int .i64 r3, .slice RA u.length rc] 56)
    simp only [World.size_alloc] at h1 h2 h3
    obtain ⟨a0, _⟩ := blk1 (bx_kept hb (bx_old (bx_old (bx_old (bx_new W _)))))
    obtain ⟨b0, b1, _, _⟩ := blk2 (bx_kept hb (bx_old (bx_old h1)))
    obtain ⟨c0, c1, _, _⟩ := blk2 (bx_kept hb (bx_old h2))
    obtain ⟨d0, d1, _, _⟩ := blk2 (bx_kept hb h3)
    exact ⟨a0, b0, b1, c0, c1, d0, d1⟩
  generalize ((((W.alloc (.cells #[.slice A ds.length c] 24)).alloc (.cells #[.int .i64 r1, .slice PA p.length pc] 56)).alloc (.cells #[.int .i64 r2, .slice QA q.length qc] 56)).alloc (.cells #[.int .i64 r3, .slice RA u.length rc] 56)) = W0 at *
  have HB0 := Lib.hid hb0; have HC0 := Lib.hid hcf
  clear hb0 hcf
  go_cut [30] (fun v wx => ∃ r : Bool, v = .bool r ∧ Hid (r = false → ds.length ≤ 1500 ∧ (∀ d ∈ ds, d.t.ls.length ≤ 1500) ∧ p.length ≤ 1500 ∧ q.length ≤ 1500 ∧ u.length ≤ 1500) ∧ Hid (Below W0.heap.size W0 wx))
  case first =>
    go_wp2_with fail
    refine (works18_any W0 (HPT.out.below HB0.out).cn).mono ?_
    rintro e w1 ⟨rfl, hb1⟩
    obtain ⟨a0, b0, b1, c0, c1, d0, d1⟩ := HC0.out w1 hb1
    have hbw := Below.step HB0.out hb1
    have HL := Lib.hid (long_three (w := w1) ((HG.out.below hbw).mono (fun _ _ _ => trivial)) ((HPp.out.below hbw).mono (fun _ _ _ => trivial)) ((HQq.out.below hbw).mono (fun _ _ _ => trivial)) ((HUu.out.below hbw).mono (fun _ _ _ => trivial)) hdl hpl hql hul c pc qc rc)
    have HB1 := Lib.hid hb1
    clear hb1 hbw
    go_wp2_with fail
    refine HL.out.mono ?_
    rintro e w2 ⟨r, rfl, hr, hb2⟩
    have HR := Lib.hid hr; have HB2 := Lib.hid (Below.step HB1.out hb2)
    clear hr hb2 a0 b0 b1 c0 c1 d0 d1
    as_aux_lemma =>
      go_wp2_with fail
      all_goals go_meet
      exact ⟨r, rfl, HR, HB2⟩
  case rest =>
    obtain ⟨r, rfl, HR, HBC⟩ := hcut
    obtain ⟨W1, rfl⟩ : ∃ W1 : World, W1 = wc := ⟨_, rfl⟩
    have HCF := Lib.hid (show ∀ w', Below W1.heap.size W1 w' → _ from fun w' hb => HC0.out w' (Below.step HBC.out hb))
    have HBW := Lib.hid (Below.step HB0.out HBC.out)
    clear HC0 HB0 HBC
    cases r
    · have hsm := HR.out rfl
      have HDS := Lib.hid hsm.2.1
      obtain ⟨hd5, _, hp5, hq5, hu5⟩ := hsm
      clear HR
      have HWX := Lib.hid (show ∀ w', Below W1.heap.size W1 w' → Below W.heap.size W w' from fun w' hb => Below.step HBW.out hb)
      have HML := Lib.hid (show ∀ d ∈ ds, d.t.ls.length ≤ 1000000 from fun d hd => by have := HDS.out d hd; omega)
      have HRWG := Lib.hid (show ∀ w', Below W1.heap.size W1 w' → dfL.row w' S0 A ds from fun w' hb => HG.out.below (HWX.out w' hb))
      have HPTX := Lib.hid (show ∀ w', Below W1.heap.size W1 w' → PTabs w' from fun w' hb => HPT.out.below (HWX.out w' hb))
      obtain ⟨a0, _⟩ := HCF.out W1 (Below.refl _ _)
      go_wp2_with (go_at_call 35; refine (pall_any A c ds S0 W1 (HRWG.out W1 (Below.refl _ _)) (by omega) HML.out (HPTX.out W1 (Below.refl _ _))).mono ?_; rintro e w2 ⟨V, vc, pls, rfl, hpe, hrow, hpt, hb2⟩; have HPE := Lib.hid hpe; have HROW := Lib.hid hrow; have HPTS := Lib.hid hpt; have HB2 := Lib.hid hb2; clear hpe hrow hpt hb2; obtain ⟨a1, _⟩ := HCF.out w2 HB2.out)
      clear a0 a1
      have HKP := Lib.hid (show ∀ w', Below w2.heap.size w2 w' → RowIn w' (W1.heap.size ≤ ·) V (plL.all pls) ∧ ∀ q ∈ pls, intL.row w' (W1.heap.size ≤ ·) q.A q.li from fun w' hb => ⟨HROW.out.agree (below_all hb), fun q hq => (HPTS.out q hq).1.below hb⟩)
      clear HROW HPTS
      go_loopw [11, 10] (fun i s wr => ∃ k : Nat, k ≤ ds.length ∧ i = .int .i64 k ∧ s = .int .i64 (nodesG ((ds.map Ld.df).take k) : Nat) ∧ Hid (Below w2.heap.size w2 wr)) (fun i _ _ => ds.length - (intOf i).toNat)
      case atStart => exact ⟨0, by omega, rfl, rfl, Lib.hid (Below.refl _ _)⟩
      case round =>
        obtain ⟨wo, rfl⟩ : ∃ wo : World, wo = wr := ⟨_, rfl⟩
        obtain ⟨k, hk, rfl, rfl, HB⟩ := hrel
        have HB1 := Lib.hid (Below.step HB2.out HB.out)
        obtain ⟨a0, _⟩ := HCF.out wo HB1.out
        have hb1 : nodesG ((ds.map Ld.df).take k) ≤ 1500 * 4294967296 := by
          refine Nat.le_trans (nodesG_le _ fun d hd => ?_) ?_
          · obtain ⟨x, hx, rfl⟩ := List.mem_map.1 (List.mem_of_mem_take hd)
            have := HML.out x hx
            simp only [Ld.df, Lt.tr, List.length_map]; omega
          · simp only [List.length_take, List.length_map]; exact Nat.mul_le_mul_right _ (by omega)
        by_cases hlt : k < ds.length
        · obtain ⟨b, o, rfl, _, _, x0, x1, x2⟩ := dfRow (HRWG.out wo HB1.out) k hlt
          have i1 : (k : Int) < (ds.length : Int) := by omega
          have i2 : (0 : Int) ≤ (k : Int) := by omega
          have HNT := Lib.hid (nodesG_take (ds.map Ld.df) k (by simpa using hlt))
          have HI := Lib.hid (dfSub (HRWG.out wo HB1.out) k hlt)
          have hb2 : sizeT ((ds.map Ld.df)[k]'(by simpa using hlt)).body ≤ 4294967296 := by
            refine Nat.le_trans (sizeT_le _) ?_
            have := HML.out ds[k] (List.getElem_mem hlt)
            simp only [List.getElem_map, Ld.df, Lt.tr, List.length_map]; omega
          have hbd : ((ds.map Ld.df)[k]'(by simpa using hlt)).body = ds[k].t.tr := by simp [Ld.df]
          rw [hbd] at hb2
          have HNT2 := Lib.hid (HNT.out.trans (by rw [hbd]))
          clear HNT hbd
          generalize nodesG ((ds.map Ld.df).take k) = sm at *
          generalize ds[k] = d at *
          have HTS := Lib.hid (tsize_any d.t S0 wo HI.out (HPTX.out wo HB1.out).cn)
          as_aux_lemma =>
            go_wp2_with (go_at_call 36; refine (HTS.out).mono ?_; rintro e w3 ⟨rfl, hb⟩; have HB3 := Lib.hid (Below.step HB.out hb); clear hb)
            exact ⟨⟨k + 1, by omega, by go_num, by rw [HNT2.out]; go_num, HB3⟩, by simp only [intOf]; omega⟩
        · have i1 : ¬ (k : Int) < (ds.length : Int) := by omega
          rw [show (ds.map Ld.df).take k = ds.map Ld.df from List.take_of_length_le (by simp; omega)] at *
          have HMC := Lib.hid (gmay_any A c ds S0 wo (HRWG.out wo HB1.out) (by omega) HML.out (HPTX.out wo HB1.out))
          have HOKG := Lib.hid (show mayG (ds.map Ld.df) = 0 → OkG (ds.map Ld.df) from mayG_ok)
          generalize hmg : mayG (ds.map Ld.df) = mg at *
          clear hmg
          by_cases hm0 : mg = 0
          · have e0 : (mg != 0) = false := by simp [hm0]
            have HOK := Lib.hid (HOKG.out hm0)
            have HPE2 := Lib.hid (show pls.map Pl.pl = allPs (ds.map Ld.df) 0 from by rw [HPE.out, if_pos hm0])
            clear hm0 HOKG HPE
            have hok : ∀ d ∈ ds.map Ld.df, rightT d.body = true := fun d hd => (HOK.out.ok d hd).2
            have HLEN := Lib.hid (show pls.length = nodesG (ds.map Ld.df) from by
              have h := congrArg List.length HPE2.out
              rw [List.length_map, allPs_nodes _ _ hok] at h; exact h)
            have HFIN := Lib.hid (show ∀ q ∈ pls, (findP (ds.map Ld.df) q.r q.li).isSome = true from fun q hq => allPs_find hok q.pl (by rw [← HPE2.out]; exact List.mem_map_of_mem hq))
            have HSH := Lib.hid (show ∀ q ∈ pls, q.li.length ≤ 1500 from fun q hq => allPs_short (g := ds.map Ld.df) (fun d hd => ⟨hok d hd, by
              obtain ⟨x, hx, rfl⟩ := List.mem_map.1 hd
              have := HDS.out x hx
              simpa [Ld.df, Lt.tr] using this⟩) q.pl (by rw [← HPE2.out]; exact List.mem_map_of_mem hq))
            have HSO := Lib.hid (show ∀ j (h : j + 1 < pls.length), cmpP pls[j].r pls[j].li pls[j + 1].r pls[j + 1].li = -1 from fun j h => by
              have h1 := allPs_sorted (ds.map Ld.df) 0
              rw [← HPE2.out, List.pairwise_map] at h1
              exact (List.pairwise_iff_getElem.1 h1) j (j + 1) (by omega) h (by omega))
            have HPLR := Lib.hid (show ∀ w', Below w2.heap.size w2 w' → plL.row w' (W1.heap.size ≤ ·) V pls from fun w' hb => ⟨(HKP.out w' hb).1, fun q hq => ⟨by have := HSH.out q hq; omega, (HKP.out w' hb).2 q hq⟩⟩)
            clear HKP HPE2 hok
            rw [← HLEN.out] at hb1
            have HNG := HLEN.out
            generalize nodesG (ds.map Ld.df) = ng at *
            subst HNG
            go_wp2_with (go_at_call 14; refine (HMC.out).mono ?_; rintro e w3 ⟨rfl, hb⟩; have HB3 := Lib.hid (Below.step HB.out hb); clear hb)
            clear a0 i1 e0
            go_loopw [12] (fun i wr => ∃ k : Nat, k ≤ pls.length ∧ i = .int .i64 k ∧ Hid (Below w3.heap.size w3 wr)) (fun i _ => pls.length - (intOf i).toNat)
            case atStart => exact ⟨0, by omega, rfl, Lib.hid (Below.refl _ _)⟩
            case round =>
              obtain ⟨wo, rfl⟩ : ∃ wo : World, wo = wr := ⟨_, rfl⟩
              obtain ⟨k, hk, rfl, HBO⟩ := hrel
              have HB5 := Lib.hid (Below.step HB3.out HBO.out)
              have HB6 := Lib.hid (Below.step HB2.out HB5.out)
              by_cases hlt : k < pls.length
              · have i1 : (k : Int) < (pls.length : Int) := by omega
                have i2 : (0 : Int) ≤ (k : Int) := by omega
                obtain ⟨b, o, rfl, _⟩ := plRow (HPLR.out wo HB5.out) k hlt
                have HPC := Lib.hid (show ∀ w', Below wo.heap.size wo w' → ∀ j (hj : j < pls.length), w'.cell? ⟨b, o + j * 2, none⟩ = some (.int .i64 pls[j].r) ∧ w'.cell? ⟨b, o + j * 2 + 1, none⟩ = some (.slice pls[j].A pls[j].li.length pls[j].c) from fun w' hb j hj => plAt (HPLR.out w' (Below.step HB5.out hb)) j hj)
                have HPR := Lib.hid (show ∀ w', Below wo.heap.size wo w' → ∀ j (hj : j < pls.length), intL.row w' (W1.heap.size ≤ ·) pls[j].A pls[j].li from fun w' hb j hj => ((HPLR.out w' (Below.step HB5.out hb)).2 _ (List.getElem_mem hj)).2)
                have HCW := Lib.hid (show ∀ w', Below wo.heap.size wo w' → _ from fun w' hb => HCF.out w' (Below.step HB6.out hb))
                have HBW6 := Lib.hid (HWX.out wo HB6.out)
                go_upto_region 14 with (fail)
                go_cut [14] (fun v wx => v = .bool true ∧ Hid (Below wo.heap.size wo wx))
                case first =>
                  have HFC := Lib.hid (show ∀ w', Below wo.heap.size wo w' → Calls Tryz.prog 37 #[.agg #[.slice A ds.length c], .agg #[.int .i64 pls[k].r, .slice pls[k].A pls[k].li.length pls[k].c]] w' (TupOr (findP (ds.map Ld.df) pls[k].r pls[k].li) w') from fun w' hb =>
                    pfind_any A c ds pls[k].r pls[k].A pls[k].c pls[k].li S0 w' (HRWG.out w' (Below.step HB6.out hb)) (fun i hi w'' hb2 => at_or (T := ds[i].t.tr) ⟨(dfSub (HRWG.out w'' (Below.step HB6.out (Below.step hb hb2))) i hi).2.mono (fun _ _ _ => trivial), rfl⟩ ((HPR.out w'' (Below.step hb hb2) k hlt).mono (fun _ _ _ => trivial)) (by have := HML.out ds[i] (List.getElem_mem hi); omega) (by have := HSH.out pls[k] (List.getElem_mem hlt); omega) (HPTX.out w'' (Below.step HB6.out (Below.step hb hb2))).cn))
                  have HSB := Lib.hid (show ∀ w', Below wo.heap.size wo w' → w'.cell? ⟨W.heap.size, 0, none⟩ = some (.slice A ds.length c) ∧ w'.cell? ⟨b, o + k * 2, none⟩ = some (.int .i64 pls[k].r) ∧ w'.cell? ⟨b, o + k * 2 + 1, none⟩ = some (.slice pls[k].A pls[k].li.length pls[k].c) from fun w' hb => ⟨(HCW.out w' hb).1, HPC.out w' hb k hlt⟩)
                  have HIS := Lib.hid (HFIN.out pls[k] (List.getElem_mem hlt))
                  generalize pls[k] = pk at *
                  generalize findP (ds.map Ld.df) pk.r pk.li = fp at *
                  rcases fp with _ | fp
                  · have := HIS.out; cases this
                  clear HIS HFIN HSO HSH HPLR HPC HPR HCW HCF HRWG HPTX HML HDS HWX HG HPp HQq HUu HPT HOK
                  unfold TupOr at HFC
                  simp only [Option.isSome_some] at HFC
                  have HBs := Lib.hid (Below.refl wo.heap.size wo)
                  go_region_held3 (fun w' => w'.cell? ⟨W.heap.size, 0, none⟩ = some (.slice A ds.length c) ∧ w'.cell? ⟨b, o + k * 2, none⟩ = some (.int .i64 pk.r) ∧ w'.cell? ⟨b, o + k * 2 + 1, none⟩ = some (.slice pk.A pk.li.length pk.c))
                    (exact HSB.out _ (by first | exact HBs.out | exact HBs.out.drew | exact below_al18 HBs.out _ (Nat.le_refl _) | exact below_al18 HBs.out.drew _ (Nat.le_refl _) | exact (below_al18 HBs.out _ (Nat.le_refl _)).drew | exact (HBs.out.setCell (p := ⟨_, 0, none⟩) (Nat.le_refl _) _).setCell (p := ⟨_, 1, none⟩) (Nat.le_refl _) _))
                    (first
                      | (go_at_call 37; (with_reducible refine (HFC.out _ (by first | exact HBs.out | exact HBs.out.drew | exact below_al18 HBs.out _ (Nat.le_refl _) | exact below_al18 HBs.out.drew _ (Nat.le_refl _) | exact (below_al18 HBs.out _ (Nat.le_refl _)).drew)).mono ?_); rintro e wd ⟨Ah, ch, lh, rh, rfl, -, hbq⟩; have HBS' := Lib.hid (Below.step (by first | exact HBs.out | exact HBs.out.drew | exact below_al18 HBs.out _ (Nat.le_refl _) | exact below_al18 HBs.out.drew _ (Nat.le_refl _) | exact (below_al18 HBs.out _ (Nat.le_refl _)).drew) hbq); clear HBs; have HBs := HBS'; clear HBS'; (first | ((with_reducible have HXg := Lib.hid (kA hbq)); obtain ⟨s0, s1, s2, s3⟩ := blk2 HXg.out) | ((with_reducible have HXg := Lib.hid (kB hbq)); obtain ⟨s0, s1, s2, s3⟩ := blk2 HXg.out) | skip); clear hbq)
                      | fail)
                  all_goals go_wp2_with fail
                  all_goals go_meet
                  all_goals exact ⟨rfl, Lib.hid (by first | exact HBs.out | exact HBs.out.drew | exact below_al18 HBs.out _ (Nat.le_refl _) | exact below_al18 HBs.out.drew _ (Nat.le_refl _) | exact (HBs.out.setCell (p := ⟨_, 0, none⟩) (Nat.le_refl _) _).setCell (p := ⟨_, 1, none⟩) (Nat.le_refl _) _)⟩
                case rest =>
                  obtain ⟨rfl, HBF⟩ := hcut
                  obtain ⟨wf, rfl⟩ : ∃ wf : World, wf = wc := ⟨_, rfl⟩
                  go_upto_region 15 with (fail)
                  go_cut [89] (fun v wx => v = .bool false ∧ Hid (Below wf.heap.size wf wx))
                  case first =>
                    have HE0 := Lib.hid (Below.refl wf.heap.size wf)
                    have hund : undef = Value.tuple #[] := rfl
                    by_cases hk0 : k = 0
                    · subst hk0
                      have n1 : ¬ (0 : Int) < ((0 : Nat) : Int) := by omega
                      have HS3 := Lib.hid (show ∀ w', Below wf.heap.size wf w' → True from fun _ _ => trivial)
                      obtain ⟨SP, HSD⟩ : ∃ SP : World → Prop, Hid (SP = fun _ => True) := ⟨_, Lib.hid rfl⟩
                      clear HFIN HSO HSH HPLR HPC HPR HCW HCF HRWG HPTX HML HDS HWX HG HPp HQq HUu HPT HOK
                      as_aux_lemma =>
                        refine wp_region_held_drew (S := SP) (by kernel_rfl) (by rw [HSD.out]; exact HS3.out _ (by first | exact HE0.out | exact HE0.out.drew)) (fun hHeld => ?_)
                        try simp only [Act.put, List.setIfInBounds_toArray, List.set_cons_zero, List.set_cons_succ]
                        (refine wpAnyH_take (i := 0) (oi := { dst := some 71, op := Go.Op.move (Go.Operand.tmp 14), type := 4, pos := "outright.go:128", after := #[], guard := none }) (v := ?_) rfl (by kernel_rfl) (by kernel_rfl) (by kernel_rfl) (fun _ _ _ h => h) (Or.inl ⟨by rfl, ?_⟩) (by assumption) ?_; rotate_left 1; (focus (intro w hSw; rw [HSD.out] at hSw; (try dsimp only at hSw); go_simp; (try with_reducible rfl))); (try simp only [Act.put, List.setIfInBounds_toArray, List.set_cons_zero, List.set_cons_succ]))
                        (refine wpAnyH_take (i := 1) (oi := { dst := some 72, op := Go.Op.unOp Go.UnOp.not 4 (Go.Operand.tmp 71), type := 4, pos := "outright.go:128", after := #[{ on := 0, ground := Go.Ground.data }], guard := none }) (v := ?_) rfl (by kernel_rfl) (by kernel_rfl) (by kernel_rfl) (fun _ _ _ h => h) (Or.inl ⟨by rfl, ?_⟩) (by assumption) ?_; rotate_left 1; (focus (intro w hSw; rw [HSD.out] at hSw; (try dsimp only at hSw); go_simp; (try with_reducible rfl))); (try simp only [Act.put, List.setIfInBounds_toArray, List.set_cons_zero, List.set_cons_succ]))
                        (refine wpAnyH_take (i := 2) (oi := { dst := some 73, op := Go.Op.move (Go.Operand.tmp 72), type := 4, pos := "outright.go:128", after := #[{ on := 1, ground := Go.Ground.data }], guard := none }) (v := ?_) rfl (by kernel_rfl) (by kernel_rfl) (by kernel_rfl) (fun _ _ _ h => h) (Or.inl ⟨by rfl, ?_⟩) (by assumption) ?_; rotate_left 1; (focus (intro w hSw; rw [HSD.out] at hSw; (try dsimp only at hSw); go_simp; (try with_reducible rfl))); (try simp only [Act.put, List.setIfInBounds_toArray, List.set_cons_zero, List.set_cons_succ]))
                        (refine wpAnyH_take (i := 3) (oi := { dst := some 74, op := Go.Op.move (Go.Operand.tmp 12), type := 3, pos := "outright.go:128", after := #[{ on := 2, ground := Go.Ground.guard }], guard := some (2, false) }) (v := ?_) rfl (by kernel_rfl) (by kernel_rfl) (by kernel_rfl) (fun _ _ _ h => h) (Or.inl ⟨by rfl, ?_⟩) (by assumption) ?_; rotate_left 1; (focus (intro w hSw; rw [HSD.out] at hSw; (try dsimp only at hSw); go_simp; (try with_reducible rfl))); (try simp only [Act.put, List.setIfInBounds_toArray, List.set_cons_zero, List.set_cons_succ]))
                        (refine wpAnyH_take (i := 4) (oi := { dst := some 75, op := Go.Op.binOp Go.BinOp.gtr 3 (Go.Operand.tmp 74) (Go.Operand.const (Go.Value.int Go.IntKind.i64 0)) 3, type := 4, pos := "outright.go:128", after := #[{ on := 3, ground := Go.Ground.data }, { on := 2, ground := Go.Ground.guard }], guard := some (2, false) }) (v := ?_) rfl (by kernel_rfl) (by kernel_rfl) (by kernel_rfl) (fun _ _ _ h => h) (Or.inl ⟨by rfl, ?_⟩) (by assumption) ?_; rotate_left 1; (focus (intro w hSw; rw [HSD.out] at hSw; (try dsimp only at hSw); go_simp; (try with_reducible rfl))); (try simp only [Act.put, List.setIfInBounds_toArray, List.set_cons_zero, List.set_cons_succ]))
                        (refine wpAnyH_take (i := 5) (oi := { dst := some 76, op := Go.Op.move (Go.Operand.tmp 75), type := 4, pos := "outright.go:128", after := #[{ on := 4, ground := Go.Ground.data }, { on := 2, ground := Go.Ground.chain }, { on := 2, ground := Go.Ground.guard }], guard := some (2, false) }) (v := ?_) rfl (by kernel_rfl) (by kernel_rfl) (by kernel_rfl) (fun _ _ _ h => h) (Or.inl ⟨by rfl, ?_⟩) (by assumption) ?_; rotate_left 1; (focus (intro w hSw; rw [HSD.out] at hSw; (try dsimp only at hSw); go_simp; (try with_reducible rfl))); (try simp only [Act.put, List.setIfInBounds_toArray, List.set_cons_zero, List.set_cons_succ]))
                        (refine wpAnyH_take (i := 6) (oi := { dst := some 77, op := Go.Op.move (Go.Operand.tmp 9), type := 58, pos := "outright.go:128", after := #[{ on := 5, ground := Go.Ground.guard }], guard := some (5, true) }) (v := undef) rfl (by kernel_rfl) (by kernel_rfl) (by kernel_rfl) (fun _ _ _ h => h) (Or.inr ⟨by rfl, rfl⟩) (by assumption) ?_; (try simp only [Act.put, List.setIfInBounds_toArray, List.set_cons_zero, List.set_cons_succ]))
                        (refine wpAnyH_take (i := 7) (oi := { dst := some 78, op := Go.Op.move (Go.Operand.tmp 12), type := 3, pos := "outright.go:128", after := #[{ on := 5, ground := Go.Ground.guard }], guard := some (5, true) }) (v := undef) rfl (by kernel_rfl) (by kernel_rfl) (by kernel_rfl) (fun _ _ _ h => h) (Or.inr ⟨by rfl, rfl⟩) (by assumption) ?_; (try simp only [Act.put, List.setIfInBounds_toArray, List.set_cons_zero, List.set_cons_succ]))
                        (refine wpAnyH_take (i := 8) (oi := { dst := some 79, op := Go.Op.binOp Go.BinOp.sub 3 (Go.Operand.tmp 78) (Go.Operand.const (Go.Value.int Go.IntKind.i64 1)) 3, type := 3, pos := "outright.go:128", after := #[{ on := 7, ground := Go.Ground.data }, { on := 5, ground := Go.Ground.guard }], guard := some (5, true) }) (v := undef) rfl (by kernel_rfl) (by kernel_rfl) (by kernel_rfl) (fun _ _ _ h => h) (Or.inr ⟨by rfl, rfl⟩) (by assumption) ?_; (try simp only [Act.put, List.setIfInBounds_toArray, List.set_cons_zero, List.set_cons_succ]))
                        (refine wpAnyH_take (i := 9) (oi := { dst := some 80, op := Go.Op.indexAddr 58 (Go.Operand.tmp 77) (Go.Operand.tmp 79), type := 0, pos := "outright.go:128", after := #[{ on := 6, ground := Go.Ground.data }, { on := 8, ground := Go.Ground.data }, { on := 5, ground := Go.Ground.guard }], guard := some (5, true) }) (v := undef) rfl (by kernel_rfl) (by kernel_rfl) (by kernel_rfl) (fun _ _ _ h => h) (Or.inr ⟨by rfl, rfl⟩) (by assumption) ?_; (try simp only [Act.put, List.setIfInBounds_toArray, List.set_cons_zero, List.set_cons_succ]))
                        (refine wpAnyH_take (i := 10) (oi := { dst := some 81, op := Go.Op.load 56 (Go.Operand.tmp 80), type := 56, pos := "outright.go:128", after := #[{ on := 9, ground := Go.Ground.data }, { on := 5, ground := Go.Ground.guard }], guard := some (5, true) }) (v := undef) rfl (by kernel_rfl) (by kernel_rfl) (by kernel_rfl) (fun _ _ _ h => h) (Or.inr ⟨by rfl, rfl⟩) (by assumption) ?_; (try simp only [Act.put, List.setIfInBounds_toArray, List.set_cons_zero, List.set_cons_succ]))
                        (refine wpAnyH_take (i := 11) (oi := { dst := some 82, op := Go.Op.move (Go.Operand.tmp 9), type := 58, pos := "outright.go:128", after := #[{ on := 5, ground := Go.Ground.guard }], guard := some (5, true) }) (v := undef) rfl (by kernel_rfl) (by kernel_rfl) (by kernel_rfl) (fun _ _ _ h => h) (Or.inr ⟨by rfl, rfl⟩) (by assumption) ?_; (try simp only [Act.put, List.setIfInBounds_toArray, List.set_cons_zero, List.set_cons_succ]))
                        (refine wpAnyH_take (i := 12) (oi := { dst := some 83, op := Go.Op.move (Go.Operand.tmp 12), type := 3, pos := "outright.go:128", after := #[{ on := 5, ground := Go.Ground.guard }], guard := some (5, true) }) (v := undef) rfl (by kernel_rfl) (by kernel_rfl) (by kernel_rfl) (fun _ _ _ h => h) (Or.inr ⟨by rfl, rfl⟩) (by assumption) ?_; (try simp only [Act.put, List.setIfInBounds_toArray, List.set_cons_zero, List.set_cons_succ]))
                        (refine wpAnyH_take (i := 13) (oi := { dst := some 84, op := Go.Op.indexAddr 58 (Go.Operand.tmp 82) (Go.Operand.tmp 83), type := 0, pos := "outright.go:128", after := #[{ on := 11, ground := Go.Ground.data }, { on := 12, ground := Go.Ground.data }, { on := 5, ground := Go.Ground.guard }], guard := some (5, true) }) (v := undef) rfl (by kernel_rfl) (by kernel_rfl) (by kernel_rfl) (fun _ _ _ h => h) (Or.inr ⟨by rfl, rfl⟩) (by assumption) ?_; (try simp only [Act.put, List.setIfInBounds_toArray, List.set_cons_zero, List.set_cons_succ]))
                        (refine wpAnyH_take (i := 14) (oi := { dst := some 85, op := Go.Op.load 56 (Go.Operand.tmp 84), type := 56, pos := "outright.go:128", after := #[{ on := 13, ground := Go.Ground.data }, { on := 5, ground := Go.Ground.guard }], guard := some (5, true) }) (v := undef) rfl (by kernel_rfl) (by kernel_rfl) (by kernel_rfl) (fun _ _ _ h => h) (Or.inr ⟨by rfl, rfl⟩) (by assumption) ?_; (try simp only [Act.put, List.setIfInBounds_toArray, List.set_cons_zero, List.set_cons_succ]))
                        (refine wpAnyH_take (i := 15) (oi := { dst := some 86, op := Go.Op.call { callee := Go.Callee.value (Go.Operand.func 38), args := #[Go.Operand.tmp 81, Go.Operand.tmp 85], argTypes := #[56, 56] }, type := 3, pos := "outright.go:128", after := #[{ on := 10, ground := Go.Ground.data }, { on := 14, ground := Go.Ground.data }, { on := 5, ground := Go.Ground.chain }, { on := 5, ground := Go.Ground.guard }], guard := some (5, true) }) (v := undef) rfl (by kernel_rfl) (by kernel_rfl) (by kernel_rfl) (fun _ _ _ h => h) (Or.inr ⟨by rfl, rfl⟩) (by assumption) ?_; (try simp only [Act.put, List.setIfInBounds_toArray, List.set_cons_zero, List.set_cons_succ]))
                        (refine wpAnyH_take (i := 16) (oi := { dst := some 87, op := Go.Op.binOp Go.BinOp.neq 3 (Go.Operand.tmp 86) (Go.Operand.const (Go.Value.int Go.IntKind.i64 (-1))) 3, type := 4, pos := "outright.go:128", after := #[{ on := 15, ground := Go.Ground.data }, { on := 5, ground := Go.Ground.guard }], guard := some (5, true) }) (v := undef) rfl (by kernel_rfl) (by kernel_rfl) (by kernel_rfl) (fun _ _ _ h => h) (Or.inr ⟨by rfl, rfl⟩) (by assumption) ?_; (try simp only [Act.put, List.setIfInBounds_toArray, List.set_cons_zero, List.set_cons_succ]))
                        (refine wpAnyH_take (i := 17) (oi := { dst := some 88, op := Go.Op.pick (Go.Operand.tmp 76) (Go.Operand.tmp 87) (Go.Operand.const (Go.Value.bool false)), type := 4, pos := "outright.go:128", after := #[{ on := 5, ground := Go.Ground.data }, { on := 16, ground := Go.Ground.data }, { on := 2, ground := Go.Ground.guard }], guard := some (2, false) }) (v := ?_) rfl (by kernel_rfl) (by kernel_rfl) (by kernel_rfl) (fun _ _ _ h => h) (Or.inl ⟨by rfl, ?_⟩) (by assumption) ?_; rotate_left 1; (focus (intro w hSw; rw [HSD.out] at hSw; (try dsimp only at hSw); go_simp; (try with_reducible rfl))); (try simp only [Act.put, List.setIfInBounds_toArray, List.set_cons_zero, List.set_cons_succ]))
                        (refine wpAnyH_take (i := 18) (oi := { dst := some 89, op := Go.Op.pick (Go.Operand.tmp 73) (Go.Operand.const (Go.Value.bool true)) (Go.Operand.tmp 88), type := 4, pos := "outright.go:128", after := #[{ on := 2, ground := Go.Ground.data }, { on := 17, ground := Go.Ground.data }], guard := none }) (v := ?_) rfl (by kernel_rfl) (by kernel_rfl) (by kernel_rfl) (fun _ _ _ h => h) (Or.inl ⟨by rfl, ?_⟩) (by assumption) ?_; rotate_left 1; (focus (intro w hSw; rw [HSD.out] at hSw; (try dsimp only at hSw); go_simp; (try with_reducible rfl))); (try simp only [Act.put, List.setIfInBounds_toArray, List.set_cons_zero, List.set_cons_succ]))
                        refine wpAnyH_done (by kernel_rfl) ?_ _
                        go_wp2_with fail
                        go_meet
                        exact ⟨rfl, by first | exact HE0 | exact Lib.hid HE0.out.drew⟩
                    · obtain ⟨j, hjk⟩ : ∃ j, j + 1 = k := ⟨k - 1, by omega⟩
                      have n1 : (0 : Int) < (k : Int) := by omega
                      have n2 : 0 < k := by omega
                      have n3 : decide (0 < k) = true := decide_eq_true n2
                      have e5 : IntKind.i64.wrap ((k : Int) - 1) = (j : Int) := by rw [IntWalk.i64_in _ (by omega)]; omega
                      have hjl : j < pls.length := by omega
                      have i3 : (j : Int) < (pls.length : Int) := by omega
                      have i4 : (0 : Int) ≤ (j : Int) := by omega
                      have HCM := Lib.hid (show ∀ w', Below wf.heap.size wf w' → Calls Tryz.prog 38 #[.agg #[.int .i64 pls[j].r, .slice pls[j].A pls[j].li.length pls[j].c], .agg #[.int .i64 pls[k].r, .slice pls[k].A pls[k].li.length pls[k].c]] w' fun e w'' => e = .returned (.int .i64 (-1)) ∧ Below w'.heap.size w' w'' from fun w' hb => by
                        have h := cmpP_any pls[j].r pls[k].r pls[j].li pls[k].li pls[j].A pls[k].A pls[j].c pls[k].c _ _ w' (HPR.out w' (Below.step HBF.out hb) j hjl) (HPR.out w' (Below.step HBF.out hb) k hlt) (by have := HSH.out pls[j] (List.getElem_mem (by omega)); omega) (by have := HSH.out pls[k] (List.getElem_mem hlt); omega)
                        rw [show cmpP pls[j].r pls[j].li pls[k].r pls[k].li = -1 from by subst hjk; exact HSO.out j hlt] at h
                        exact h)
                      have HS3 := Lib.hid (show ∀ w', Below wf.heap.size wf w' → w'.cell? ⟨b, o + j * 2, none⟩ = some (.int .i64 pls[j].r) ∧ w'.cell? ⟨b, o + j * 2 + 1, none⟩ = some (.slice pls[j].A pls[j].li.length pls[j].c) ∧ w'.cell? ⟨b, o + k * 2, none⟩ = some (.int .i64 pls[k].r) ∧ w'.cell? ⟨b, o + k * 2 + 1, none⟩ = some (.slice pls[k].A pls[k].li.length pls[k].c) from fun w' hb => by
                        obtain ⟨g1, g2⟩ := HPC.out w' (Below.step HBF.out hb) j hjl
                        obtain ⟨g3, g4⟩ := HPC.out w' (Below.step HBF.out hb) k hlt
                        exact ⟨g1, g2, g3, g4⟩)
                      have HJK := Lib.hid hjk
                      clear hjk hk0
                      clear HFIN HSO HSH HPLR HPC HPR HCW HCF HRWG HPTX HML HDS HWX HG HPp HQq HUu HPT HOK
                      generalize pls[j] = pa at *
                      generalize pls[k] = pb at *
                      obtain ⟨SP, HSD⟩ : ∃ SP : World → Prop, Hid (SP = fun w' => w'.cell? ⟨b, o + j * 2, none⟩ = some (.int .i64 pa.r) ∧ w'.cell? ⟨b, o + j * 2 + 1, none⟩ = some (.slice pa.A pa.li.length pa.c) ∧ w'.cell? ⟨b, o + k * 2, none⟩ = some (.int .i64 pb.r) ∧ w'.cell? ⟨b, o + k * 2 + 1, none⟩ = some (.slice pb.A pb.li.length pb.c)) := ⟨_, Lib.hid rfl⟩
                      as_aux_lemma =>
                        refine wp_region_held_drew (S := SP) (by kernel_rfl) (by rw [HSD.out]; exact HS3.out _ (by first | exact HE0.out | exact HE0.out.drew)) (fun hHeld => ?_)
                        try simp only [Act.put, List.setIfInBounds_toArray, List.set_cons_zero, List.set_cons_succ]
                        (refine wpAnyH_take (i := 0) (oi := { dst := some 71, op := Go.Op.move (Go.Operand.tmp 14), type := 4, pos := "outright.go:128", after := #[], guard := none }) (v := ?_) rfl (by kernel_rfl) (by kernel_rfl) (by kernel_rfl) (fun _ _ _ h => h) (Or.inl ⟨by rfl, ?_⟩) (by assumption) ?_; rotate_left 1; (focus (intro w hSw; rw [HSD.out] at hSw; (try dsimp only at hSw); go_simp; (try with_reducible rfl))); (try simp only [Act.put, List.setIfInBounds_toArray, List.set_cons_zero, List.set_cons_succ]))
                        (refine wpAnyH_take (i := 1) (oi := { dst := some 72, op := Go.Op.unOp Go.UnOp.not 4 (Go.Operand.tmp 71), type := 4, pos := "outright.go:128", after := #[{ on := 0, ground := Go.Ground.data }], guard := none }) (v := ?_) rfl (by kernel_rfl) (by kernel_rfl) (by kernel_rfl) (fun _ _ _ h => h) (Or.inl ⟨by rfl, ?_⟩) (by assumption) ?_; rotate_left 1; (focus (intro w hSw; rw [HSD.out] at hSw; (try dsimp only at hSw); go_simp; (try with_reducible rfl))); (try simp only [Act.put, List.setIfInBounds_toArray, List.set_cons_zero, List.set_cons_succ]))
                        (refine wpAnyH_take (i := 2) (oi := { dst := some 73, op := Go.Op.move (Go.Operand.tmp 72), type := 4, pos := "outright.go:128", after := #[{ on := 1, ground := Go.Ground.data }], guard := none }) (v := ?_) rfl (by kernel_rfl) (by kernel_rfl) (by kernel_rfl) (fun _ _ _ h => h) (Or.inl ⟨by rfl, ?_⟩) (by assumption) ?_; rotate_left 1; (focus (intro w hSw; rw [HSD.out] at hSw; (try dsimp only at hSw); go_simp; (try with_reducible rfl))); (try simp only [Act.put, List.setIfInBounds_toArray, List.set_cons_zero, List.set_cons_succ]))
                        (refine wpAnyH_take (i := 3) (oi := { dst := some 74, op := Go.Op.move (Go.Operand.tmp 12), type := 3, pos := "outright.go:128", after := #[{ on := 2, ground := Go.Ground.guard }], guard := some (2, false) }) (v := ?_) rfl (by kernel_rfl) (by kernel_rfl) (by kernel_rfl) (fun _ _ _ h => h) (Or.inl ⟨by rfl, ?_⟩) (by assumption) ?_; rotate_left 1; (focus (intro w hSw; rw [HSD.out] at hSw; (try dsimp only at hSw); go_simp; (try with_reducible rfl))); (try simp only [Act.put, List.setIfInBounds_toArray, List.set_cons_zero, List.set_cons_succ]))
                        (refine wpAnyH_take (i := 4) (oi := { dst := some 75, op := Go.Op.binOp Go.BinOp.gtr 3 (Go.Operand.tmp 74) (Go.Operand.const (Go.Value.int Go.IntKind.i64 0)) 3, type := 4, pos := "outright.go:128", after := #[{ on := 3, ground := Go.Ground.data }, { on := 2, ground := Go.Ground.guard }], guard := some (2, false) }) (v := ?_) rfl (by kernel_rfl) (by kernel_rfl) (by kernel_rfl) (fun _ _ _ h => h) (Or.inl ⟨by rfl, ?_⟩) (by assumption) ?_; rotate_left 1; (focus (intro w hSw; rw [HSD.out] at hSw; (try dsimp only at hSw); go_simp; (try with_reducible rfl))); (try simp only [Act.put, List.setIfInBounds_toArray, List.set_cons_zero, List.set_cons_succ]))
                        (refine wpAnyH_take (i := 5) (oi := { dst := some 76, op := Go.Op.move (Go.Operand.tmp 75), type := 4, pos := "outright.go:128", after := #[{ on := 4, ground := Go.Ground.data }, { on := 2, ground := Go.Ground.chain }, { on := 2, ground := Go.Ground.guard }], guard := some (2, false) }) (v := ?_) rfl (by kernel_rfl) (by kernel_rfl) (by kernel_rfl) (fun _ _ _ h => h) (Or.inl ⟨by rfl, ?_⟩) (by assumption) ?_; rotate_left 1; (focus (intro w hSw; rw [HSD.out] at hSw; (try dsimp only at hSw); go_simp; (try with_reducible rfl))); (try simp only [Act.put, List.setIfInBounds_toArray, List.set_cons_zero, List.set_cons_succ]))
                        (refine wpAnyH_take (i := 6) (oi := { dst := some 77, op := Go.Op.move (Go.Operand.tmp 9), type := 58, pos := "outright.go:128", after := #[{ on := 5, ground := Go.Ground.guard }], guard := some (5, true) }) (v := ?_) rfl (by kernel_rfl) (by kernel_rfl) (by kernel_rfl) (fun _ _ _ h => h) (Or.inl ⟨by rfl, ?_⟩) (by assumption) ?_; rotate_left 1; (focus (intro w hSw; rw [HSD.out] at hSw; (try dsimp only at hSw); go_simp; (try with_reducible rfl))); (try simp only [Act.put, List.setIfInBounds_toArray, List.set_cons_zero, List.set_cons_succ]))
                        (refine wpAnyH_take (i := 7) (oi := { dst := some 78, op := Go.Op.move (Go.Operand.tmp 12), type := 3, pos := "outright.go:128", after := #[{ on := 5, ground := Go.Ground.guard }], guard := some (5, true) }) (v := ?_) rfl (by kernel_rfl) (by kernel_rfl) (by kernel_rfl) (fun _ _ _ h => h) (Or.inl ⟨by rfl, ?_⟩) (by assumption) ?_; rotate_left 1; (focus (intro w hSw; rw [HSD.out] at hSw; (try dsimp only at hSw); go_simp; (try with_reducible rfl))); (try simp only [Act.put, List.setIfInBounds_toArray, List.set_cons_zero, List.set_cons_succ]))
                        (refine wpAnyH_take (i := 8) (oi := { dst := some 79, op := Go.Op.binOp Go.BinOp.sub 3 (Go.Operand.tmp 78) (Go.Operand.const (Go.Value.int Go.IntKind.i64 1)) 3, type := 3, pos := "outright.go:128", after := #[{ on := 7, ground := Go.Ground.data }, { on := 5, ground := Go.Ground.guard }], guard := some (5, true) }) (v := ?_) rfl (by kernel_rfl) (by kernel_rfl) (by kernel_rfl) (fun _ _ _ h => h) (Or.inl ⟨by rfl, ?_⟩) (by assumption) ?_; rotate_left 1; (focus (intro w hSw; rw [HSD.out] at hSw; (try dsimp only at hSw); go_simp; (try with_reducible rfl))); (try simp only [Act.put, List.setIfInBounds_toArray, List.set_cons_zero, List.set_cons_succ]))
                        (refine wpAnyH_take (i := 9) (oi := { dst := some 80, op := Go.Op.indexAddr 58 (Go.Operand.tmp 77) (Go.Operand.tmp 79), type := 0, pos := "outright.go:128", after := #[{ on := 6, ground := Go.Ground.data }, { on := 8, ground := Go.Ground.data }, { on := 5, ground := Go.Ground.guard }], guard := some (5, true) }) (v := ?_) rfl (by kernel_rfl) (by kernel_rfl) (by kernel_rfl) (fun _ _ _ h => h) (Or.inl ⟨by rfl, ?_⟩) (by assumption) ?_; rotate_left 1; (focus (intro w hSw; rw [HSD.out] at hSw; (try dsimp only at hSw); go_simp; (try with_reducible rfl))); (try simp only [Act.put, List.setIfInBounds_toArray, List.set_cons_zero, List.set_cons_succ]))
                        (refine wpAnyH_take (i := 10) (oi := { dst := some 81, op := Go.Op.load 56 (Go.Operand.tmp 80), type := 56, pos := "outright.go:128", after := #[{ on := 9, ground := Go.Ground.data }, { on := 5, ground := Go.Ground.guard }], guard := some (5, true) }) (v := ?_) rfl (by kernel_rfl) (by kernel_rfl) (by kernel_rfl) (fun _ _ _ h => h) (Or.inl ⟨by rfl, ?_⟩) (by assumption) ?_; rotate_left 1; (focus (intro w hSw; rw [HSD.out] at hSw; (try dsimp only at hSw); go_simp; (try with_reducible rfl))); (try simp only [Act.put, List.setIfInBounds_toArray, List.set_cons_zero, List.set_cons_succ]))
                        (refine wpAnyH_take (i := 11) (oi := { dst := some 82, op := Go.Op.move (Go.Operand.tmp 9), type := 58, pos := "outright.go:128", after := #[{ on := 5, ground := Go.Ground.guard }], guard := some (5, true) }) (v := ?_) rfl (by kernel_rfl) (by kernel_rfl) (by kernel_rfl) (fun _ _ _ h => h) (Or.inl ⟨by rfl, ?_⟩) (by assumption) ?_; rotate_left 1; (focus (intro w hSw; rw [HSD.out] at hSw; (try dsimp only at hSw); go_simp; (try with_reducible rfl))); (try simp only [Act.put, List.setIfInBounds_toArray, List.set_cons_zero, List.set_cons_succ]))
                        (refine wpAnyH_take (i := 12) (oi := { dst := some 83, op := Go.Op.move (Go.Operand.tmp 12), type := 3, pos := "outright.go:128", after := #[{ on := 5, ground := Go.Ground.guard }], guard := some (5, true) }) (v := ?_) rfl (by kernel_rfl) (by kernel_rfl) (by kernel_rfl) (fun _ _ _ h => h) (Or.inl ⟨by rfl, ?_⟩) (by assumption) ?_; rotate_left 1; (focus (intro w hSw; rw [HSD.out] at hSw; (try dsimp only at hSw); go_simp; (try with_reducible rfl))); (try simp only [Act.put, List.setIfInBounds_toArray, List.set_cons_zero, List.set_cons_succ]))
                        (refine wpAnyH_take (i := 13) (oi := { dst := some 84, op := Go.Op.indexAddr 58 (Go.Operand.tmp 82) (Go.Operand.tmp 83), type := 0, pos := "outright.go:128", after := #[{ on := 11, ground := Go.Ground.data }, { on := 12, ground := Go.Ground.data }, { on := 5, ground := Go.Ground.guard }], guard := some (5, true) }) (v := ?_) rfl (by kernel_rfl) (by kernel_rfl) (by kernel_rfl) (fun _ _ _ h => h) (Or.inl ⟨by rfl, ?_⟩) (by assumption) ?_; rotate_left 1; (focus (intro w hSw; rw [HSD.out] at hSw; (try dsimp only at hSw); go_simp; (try with_reducible rfl))); (try simp only [Act.put, List.setIfInBounds_toArray, List.set_cons_zero, List.set_cons_succ]))
                        (refine wpAnyH_take (i := 14) (oi := { dst := some 85, op := Go.Op.load 56 (Go.Operand.tmp 84), type := 56, pos := "outright.go:128", after := #[{ on := 13, ground := Go.Ground.data }, { on := 5, ground := Go.Ground.guard }], guard := some (5, true) }) (v := ?_) rfl (by kernel_rfl) (by kernel_rfl) (by kernel_rfl) (fun _ _ _ h => h) (Or.inl ⟨by rfl, ?_⟩) (by assumption) ?_; rotate_left 1; (focus (intro w hSw; rw [HSD.out] at hSw; (try dsimp only at hSw); go_simp; (try with_reducible rfl))); (try simp only [Act.put, List.setIfInBounds_toArray, List.set_cons_zero, List.set_cons_succ]))
                        (refine wpAnyH_ready (rs := [15]) (by kernel_rfl) (by simp) ?_; refine AllReadyH.cons (o := { dst := some 86, op := Go.Op.call { callee := Go.Callee.value (Go.Operand.func 38), args := #[Go.Operand.tmp 81, Go.Operand.tmp 85], argTypes := #[56, 56] }, type := 3, pos := "outright.go:128", after := #[{ on := 10, ground := Go.Ground.data }, { on := 14, ground := Go.Ground.data }, { on := 5, ground := Go.Ground.chain }, { on := 5, ground := Go.Ground.guard }], guard := some (5, true) }) rfl (fun K hK => ?_) AllReadyH.nil; go_simp; (go_at_call 38; (with_reducible refine (HCM.out _ (by first | exact HE0.out | exact HE0.out.drew)).mono ?_); rintro e wx ⟨rfl, hb⟩; have HE' := Lib.hid (Below.step (by first | exact HE0.out | exact HE0.out.drew) hb); clear HE0; have HE0 := HE'; clear HE'; clear hb); (try go_wp2_with fail); refine hK.out _ _ (by rw [HSD.out]; exact HS3.out _ (by first | exact HE0.out | exact HE0.out.drew)) (fun hHeld => ?_); clear hK K; (try simp only [Act.put, List.setIfInBounds_toArray, List.set_cons_zero, List.set_cons_succ]))
                        (refine wpAnyH_take (i := 16) (oi := { dst := some 87, op := Go.Op.binOp Go.BinOp.neq 3 (Go.Operand.tmp 86) (Go.Operand.const (Go.Value.int Go.IntKind.i64 (-1))) 3, type := 4, pos := "outright.go:128", after := #[{ on := 15, ground := Go.Ground.data }, { on := 5, ground := Go.Ground.guard }], guard := some (5, true) }) (v := ?_) rfl (by kernel_rfl) (by kernel_rfl) (by kernel_rfl) (fun _ _ _ h => h) (Or.inl ⟨by rfl, ?_⟩) (by assumption) ?_; rotate_left 1; (focus (intro w hSw; rw [HSD.out] at hSw; (try dsimp only at hSw); go_simp; (try with_reducible rfl))); (try simp only [Act.put, List.setIfInBounds_toArray, List.set_cons_zero, List.set_cons_succ]))
                        (refine wpAnyH_take (i := 17) (oi := { dst := some 88, op := Go.Op.pick (Go.Operand.tmp 76) (Go.Operand.tmp 87) (Go.Operand.const (Go.Value.bool false)), type := 4, pos := "outright.go:128", after := #[{ on := 5, ground := Go.Ground.data }, { on := 16, ground := Go.Ground.data }, { on := 2, ground := Go.Ground.guard }], guard := some (2, false) }) (v := ?_) rfl (by kernel_rfl) (by kernel_rfl) (by kernel_rfl) (fun _ _ _ h => h) (Or.inl ⟨by rfl, ?_⟩) (by assumption) ?_; rotate_left 1; (focus (intro w hSw; rw [HSD.out] at hSw; (try dsimp only at hSw); go_simp; (try with_reducible rfl))); (try simp only [Act.put, List.setIfInBounds_toArray, List.set_cons_zero, List.set_cons_succ]))
                        (refine wpAnyH_take (i := 18) (oi := { dst := some 89, op := Go.Op.pick (Go.Operand.tmp 73) (Go.Operand.const (Go.Value.bool true)) (Go.Operand.tmp 88), type := 4, pos := "outright.go:128", after := #[{ on := 2, ground := Go.Ground.data }, { on := 17, ground := Go.Ground.data }], guard := none }) (v := ?_) rfl (by kernel_rfl) (by kernel_rfl) (by kernel_rfl) (fun _ _ _ h => h) (Or.inl ⟨by rfl, ?_⟩) (by assumption) ?_; rotate_left 1; (focus (intro w hSw; rw [HSD.out] at hSw; (try dsimp only at hSw); go_simp; (try with_reducible rfl))); (try simp only [Act.put, List.setIfInBounds_toArray, List.set_cons_zero, List.set_cons_succ]))
                        refine wpAnyH_done (by kernel_rfl) ?_ _
                        go_wp2_with fail
                        go_meet
                        exact ⟨rfl, by first | exact HE0 | exact Lib.hid HE0.out.drew⟩
                  case rest =>
                    obtain ⟨rfl, HBG⟩ := hcut
                    as_aux_lemma =>
                      go_wp2_with fail
                      exact ⟨⟨k + 1, by omega, by go_num, Lib.hid (Below.step HBO.out (Below.step HBF.out HBG.out))⟩, by simp only [intOf]; omega⟩
              · have i1 : ¬ (k : Int) < (pls.length : Int) := by omega
                have HM1 := Lib.hid (show ∀ w', Below wo.heap.size wo w' → _ from fun w' hb => cmpP_any r1 r2 p q PA QA pc qc S1 S2 w' (HPp.out.below (HWX.out w' (Below.step HB6.out hb))) (HQq.out.below (HWX.out w' (Below.step HB6.out hb))) hpl hql)
                have HM2 := Lib.hid (show ∀ w', Below wo.heap.size wo w' → _ from fun w' hb => cmpP_any r2 r3 q u QA RA qc rc S2 S3 w' (HQq.out.below (HWX.out w' (Below.step HB6.out hb))) (HUu.out.below (HWX.out w' (Below.step HB6.out hb))) hql hul)
                have HM3 := Lib.hid (show ∀ w', Below wo.heap.size wo w' → _ from fun w' hb => cmpP_any r1 r3 p u PA RA pc rc S1 S3 w' (HPp.out.below (HWX.out w' (Below.step HB6.out hb))) (HUu.out.below (HWX.out w' (Below.step HB6.out hb))) hpl hul)
                have HM4 := Lib.hid (show ∀ w', Below wo.heap.size wo w' → _ from fun w' hb => cmpP_any r2 r1 q p QA PA qc pc S2 S1 w' (HQq.out.below (HWX.out w' (Below.step HB6.out hb))) (HPp.out.below (HWX.out w' (Below.step HB6.out hb))) hql hpl)
                have HM5 := Lib.hid (show ∀ w', Below wo.heap.size wo w' → _ from fun w' hb => cmpP_any r1 r1 p p PA PA pc pc S1 S1 w' (HPp.out.below (HWX.out w' (Below.step HB6.out hb))) (HPp.out.below (HWX.out w' (Below.step HB6.out hb))) hpl hpl)
                have hx := cmpP_range r1 r2 p q
                have hlaw := cmpP_le r1 r2 r3 p q u
                rw [cmpP_neg r1 r2 p q] at HM4
                rw [cmpP_self] at HM5
                have HCX := Lib.hid (show ∀ w', Below wo.heap.size wo w' → _ from fun w' hb => HCF.out w' (Below.step HB6.out hb))
                have HWO := Lib.hid (HWX.out wo HB6.out)
                generalize cmpP r1 p r2 q = x at *
                generalize cmpP r2 q r3 u = y at *
                generalize cmpP r1 p r3 u = z at *
                clear HFIN HSO HSH HPLR HCF HRWG HPTX HML HDS HWX HG HPp HQq HUu HPT HOK
                go_upto_region 17 with (fail)
                go_cut [15, 16, 17] (fun v15 v16 v17 wx => v15 = .int .i64 x ∧ v16 = .int .i64 y ∧ v17 = .int .i64 z ∧ Hid (Below wo.heap.size wo wx))
                case first =>
                  have HE0 := Lib.hid (Below.refl wo.heap.size wo)
                  obtain ⟨SP, HSD⟩ : ∃ SP : World → Prop, Hid (SP = fun w' => w'.cell? ⟨W.heap.size + 1, 0, none⟩ = some (.int .i64 r1) ∧ w'.cell? ⟨W.heap.size + 1, 1, none⟩ = some (.slice PA p.length pc) ∧ w'.cell? ⟨W.heap.size + 1 + 1, 0, none⟩ = some (.int .i64 r2) ∧ w'.cell? ⟨W.heap.size + 1 + 1, 1, none⟩ = some (.slice QA q.length qc) ∧ w'.cell? ⟨W.heap.size + 1 + 1 + 1, 0, none⟩ = some (.int .i64 r3) ∧ w'.cell? ⟨W.heap.size + 1 + 1 + 1, 1, none⟩ = some (.slice RA u.length rc)) := ⟨_, Lib.hid rfl⟩
                  refine wp_region_held_drew (S := SP) (by kernel_rfl) (by rw [HSD.out]; exact (HCX.out _ (by first | exact HE0.out | exact HE0.out.drew)).2) (fun hHeld => ?_)
                  try simp only [Act.put, List.setIfInBounds_toArray, List.set_cons_zero, List.set_cons_succ]
                  (refine wpAnyH_take (i := 0) (oi := { dst := some 90, op := Go.Op.load 56 (Go.Operand.tmp 5), type := 56, pos := "outright.go:132", after := #[], guard := none }) (v := ?_) rfl (by kernel_rfl) (by kernel_rfl) (by kernel_rfl) (fun _ _ _ h => h) (Or.inl ⟨by rfl, ?_⟩) (by assumption) ?_; rotate_left 1; (focus (intro w hSw; rw [HSD.out] at hSw; (try dsimp only at hSw); go_simp; (try with_reducible rfl))); (try simp only [Act.put, List.setIfInBounds_toArray, List.set_cons_zero, List.set_cons_succ]))
                  (refine wpAnyH_take (i := 1) (oi := { dst := some 91, op := Go.Op.load 56 (Go.Operand.tmp 6), type := 56, pos := "outright.go:132", after := #[], guard := none }) (v := ?_) rfl (by kernel_rfl) (by kernel_rfl) (by kernel_rfl) (fun _ _ _ h => h) (Or.inl ⟨by rfl, ?_⟩) (by assumption) ?_; rotate_left 1; (focus (intro w hSw; rw [HSD.out] at hSw; (try dsimp only at hSw); go_simp; (try with_reducible rfl))); (try simp only [Act.put, List.setIfInBounds_toArray, List.set_cons_zero, List.set_cons_succ]))
                  (refine wpAnyH_take (i := 3) (oi := { dst := some 93, op := Go.Op.load 56 (Go.Operand.tmp 6), type := 56, pos := "outright.go:132", after := #[], guard := none }) (v := ?_) rfl (by kernel_rfl) (by kernel_rfl) (by kernel_rfl) (fun _ _ _ h => h) (Or.inl ⟨by rfl, ?_⟩) (by assumption) ?_; rotate_left 1; (focus (intro w hSw; rw [HSD.out] at hSw; (try dsimp only at hSw); go_simp; (try with_reducible rfl))); (try simp only [Act.put, List.setIfInBounds_toArray, List.set_cons_zero, List.set_cons_succ]))
                  (refine wpAnyH_take (i := 4) (oi := { dst := some 94, op := Go.Op.load 56 (Go.Operand.tmp 7), type := 56, pos := "outright.go:132", after := #[], guard := none }) (v := ?_) rfl (by kernel_rfl) (by kernel_rfl) (by kernel_rfl) (fun _ _ _ h => h) (Or.inl ⟨by rfl, ?_⟩) (by assumption) ?_; rotate_left 1; (focus (intro w hSw; rw [HSD.out] at hSw; (try dsimp only at hSw); go_simp; (try with_reducible rfl))); (try simp only [Act.put, List.setIfInBounds_toArray, List.set_cons_zero, List.set_cons_succ]))
                  (refine wpAnyH_take (i := 6) (oi := { dst := some 96, op := Go.Op.load 56 (Go.Operand.tmp 5), type := 56, pos := "outright.go:132", after := #[], guard := none }) (v := ?_) rfl (by kernel_rfl) (by kernel_rfl) (by kernel_rfl) (fun _ _ _ h => h) (Or.inl ⟨by rfl, ?_⟩) (by assumption) ?_; rotate_left 1; (focus (intro w hSw; rw [HSD.out] at hSw; (try dsimp only at hSw); go_simp; (try with_reducible rfl))); (try simp only [Act.put, List.setIfInBounds_toArray, List.set_cons_zero, List.set_cons_succ]))
                  (refine wpAnyH_take (i := 7) (oi := { dst := some 97, op := Go.Op.load 56 (Go.Operand.tmp 7), type := 56, pos := "outright.go:132", after := #[], guard := none }) (v := ?_) rfl (by kernel_rfl) (by kernel_rfl) (by kernel_rfl) (fun _ _ _ h => h) (Or.inl ⟨by rfl, ?_⟩) (by assumption) ?_; rotate_left 1; (focus (intro w hSw; rw [HSD.out] at hSw; (try dsimp only at hSw); go_simp; (try with_reducible rfl))); (try simp only [Act.put, List.setIfInBounds_toArray, List.set_cons_zero, List.set_cons_succ]))
                  (refine wpAnyH_ready (rs := [2]) (by kernel_rfl) (by simp) ?_; refine AllReadyH.cons (o := { dst := some 92, op := Go.Op.call { callee := Go.Callee.value (Go.Operand.func 38), args := #[Go.Operand.tmp 90, Go.Operand.tmp 91], argTypes := #[56, 56] }, type := 3, pos := "outright.go:132", after := #[{ on := 0, ground := Go.Ground.data }, { on := 1, ground := Go.Ground.data }], guard := none }) rfl (fun K hK => ?_) AllReadyH.nil; go_simp; (go_at_call 38; (with_reducible refine (HM1.out _ (by first | exact HE0.out | exact HE0.out.drew)).mono ?_); rintro e wx ⟨rfl, hb⟩; have HE' := Lib.hid (Below.step (by first | exact HE0.out | exact HE0.out.drew) hb); clear HE0; have HE0 := HE'; clear HE'; clear hb HM1); (try go_wp2_with fail); refine hK.out _ _ (by rw [HSD.out]; exact (HCX.out _ (by first | exact HE0.out | exact HE0.out.drew)).2) (fun hHeld => ?_); clear hK K; (try simp only [Act.put, List.setIfInBounds_toArray, List.set_cons_zero, List.set_cons_succ]))
                  (refine wpAnyH_ready (rs := [5]) (by kernel_rfl) (by simp) ?_; refine AllReadyH.cons (o := { dst := some 95, op := Go.Op.call { callee := Go.Callee.value (Go.Operand.func 38), args := #[Go.Operand.tmp 93, Go.Operand.tmp 94], argTypes := #[56, 56] }, type := 3, pos := "outright.go:132", after := #[{ on := 3, ground := Go.Ground.data }, { on := 4, ground := Go.Ground.data }, { on := 2, ground := Go.Ground.chain }], guard := none }) rfl (fun K hK => ?_) AllReadyH.nil; go_simp; (go_at_call 38; (with_reducible refine (HM2.out _ (by first | exact HE0.out | exact HE0.out.drew)).mono ?_); rintro e wx ⟨rfl, hb⟩; have HE' := Lib.hid (Below.step (by first | exact HE0.out | exact HE0.out.drew) hb); clear HE0; have HE0 := HE'; clear HE'; clear hb HM2); (try go_wp2_with fail); refine hK.out _ _ (by rw [HSD.out]; exact (HCX.out _ (by first | exact HE0.out | exact HE0.out.drew)).2) (fun hHeld => ?_); clear hK K; (try simp only [Act.put, List.setIfInBounds_toArray, List.set_cons_zero, List.set_cons_succ]))
                  (refine wpAnyH_ready (rs := [8]) (by kernel_rfl) (by simp) ?_; refine AllReadyH.cons (o := { dst := some 98, op := Go.Op.call { callee := Go.Callee.value (Go.Operand.func 38), args := #[Go.Operand.tmp 96, Go.Operand.tmp 97], argTypes := #[56, 56] }, type := 3, pos := "outright.go:132", after := #[{ on := 6, ground := Go.Ground.data }, { on := 7, ground := Go.Ground.data }, { on := 5, ground := Go.Ground.chain }], guard := none }) rfl (fun K hK => ?_) AllReadyH.nil; go_simp; (go_at_call 38; (with_reducible refine (HM3.out _ (by first | exact HE0.out | exact HE0.out.drew)).mono ?_); rintro e wx ⟨rfl, hb⟩; have HE' := Lib.hid (Below.step (by first | exact HE0.out | exact HE0.out.drew) hb); clear HE0; have HE0 := HE'; clear HE'; clear hb HM3); (try go_wp2_with fail); refine hK.out _ _ (by rw [HSD.out]; exact (HCX.out _ (by first | exact HE0.out | exact HE0.out.drew)).2) (fun hHeld => ?_); clear hK K; (try simp only [Act.put, List.setIfInBounds_toArray, List.set_cons_zero, List.set_cons_succ]))
                  (refine wpAnyH_take (i := 9) (oi := { dst := some 15, op := Go.Op.assign (Go.Operand.tmp 92), type := 3, pos := "outright.go:132", after := #[{ on := 2, ground := Go.Ground.data }, { on := 8, ground := Go.Ground.chain }, { on := 0, ground := Go.Ground.phase }, { on := 1, ground := Go.Ground.phase }, { on := 2, ground := Go.Ground.phase }, { on := 3, ground := Go.Ground.textOnly Go.Departure.lateStores }, { on := 4, ground := Go.Ground.textOnly Go.Departure.lateStores }, { on := 5, ground := Go.Ground.textOnly Go.Departure.lateStoresUnsure }, { on := 6, ground := Go.Ground.textOnly Go.Departure.lateStores }, { on := 7, ground := Go.Ground.textOnly Go.Departure.lateStores }, { on := 8, ground := Go.Ground.textOnly Go.Departure.lateStoresUnsure }], guard := none }) (v := ?_) rfl (by kernel_rfl) (by kernel_rfl) (by kernel_rfl) (fun _ _ _ h => h) (Or.inl ⟨by rfl, ?_⟩) (by assumption) ?_; rotate_left 1; (focus (intro w hSw; rw [HSD.out] at hSw; (try dsimp only at hSw); go_simp; (try with_reducible rfl))); (try simp only [Act.put, List.setIfInBounds_toArray, List.set_cons_zero, List.set_cons_succ]))
                  (refine wpAnyH_take (i := 10) (oi := { dst := some 16, op := Go.Op.assign (Go.Operand.tmp 95), type := 3, pos := "outright.go:132", after := #[{ on := 5, ground := Go.Ground.data }, { on := 9, ground := Go.Ground.chain }, { on := 0, ground := Go.Ground.phase }, { on := 1, ground := Go.Ground.phase }, { on := 2, ground := Go.Ground.phase }, { on := 3, ground := Go.Ground.phase }, { on := 4, ground := Go.Ground.phase }, { on := 5, ground := Go.Ground.phase }, { on := 6, ground := Go.Ground.textOnly Go.Departure.lateStores }, { on := 7, ground := Go.Ground.textOnly Go.Departure.lateStores }, { on := 8, ground := Go.Ground.textOnly Go.Departure.lateStoresUnsure }, { on := 9, ground := Go.Ground.phase }], guard := none }) (v := ?_) rfl (by kernel_rfl) (by kernel_rfl) (by kernel_rfl) (fun _ _ _ h => h) (Or.inl ⟨by rfl, ?_⟩) (by assumption) ?_; rotate_left 1; (focus (intro w hSw; rw [HSD.out] at hSw; (try dsimp only at hSw); go_simp; (try with_reducible rfl))); (try simp only [Act.put, List.setIfInBounds_toArray, List.set_cons_zero, List.set_cons_succ]))
                  (refine wpAnyH_take (i := 11) (oi := { dst := some 17, op := Go.Op.assign (Go.Operand.tmp 98), type := 3, pos := "outright.go:132", after := #[{ on := 8, ground := Go.Ground.data }, { on := 10, ground := Go.Ground.chain }, { on := 0, ground := Go.Ground.phase }, { on := 1, ground := Go.Ground.phase }, { on := 2, ground := Go.Ground.phase }, { on := 3, ground := Go.Ground.phase }, { on := 4, ground := Go.Ground.phase }, { on := 5, ground := Go.Ground.phase }, { on := 6, ground := Go.Ground.phase }, { on := 7, ground := Go.Ground.phase }, { on := 8, ground := Go.Ground.phase }, { on := 9, ground := Go.Ground.phase }, { on := 10, ground := Go.Ground.phase }], guard := none }) (v := ?_) rfl (by kernel_rfl) (by kernel_rfl) (by kernel_rfl) (fun _ _ _ h => h) (Or.inl ⟨by rfl, ?_⟩) (by assumption) ?_; rotate_left 1; (focus (intro w hSw; rw [HSD.out] at hSw; (try dsimp only at hSw); go_simp; (try with_reducible rfl))); (try simp only [Act.put, List.setIfInBounds_toArray, List.set_cons_zero, List.set_cons_succ]))
                  refine wpAnyH_done (by kernel_rfl) ?_ _
                  go_wp2_with fail
                  go_meet
                  exact ⟨rfl, rfl, rfl, HE0⟩
                case rest =>
                  obtain ⟨rfl, rfl, rfl, HBQ⟩ := hcut
                  obtain ⟨a0, b0, b1, c0, c1, d0, d1⟩ := HCX.out wc HBQ.out
                  have e7 : IntKind.i64.wrap (-x) = -x := IntWalk.i64_in _ (by omega)
                  have e6 : IntKind.i64.wrap (0 - x) = -x := by rw [Int.zero_sub]; exact e7
                  have hxa : -1 ≤ x := by omega
                  have hxb : x ≤ 1 := by omega
                  have e8 : (-x == -x) = true := by simp
                  have e9 : ((pls.length : Int) == (pls.length : Int)) = true := by simp
                  have HLW := Lib.hid hlaw
                  clear hlt hk i1 hx hlaw hpl hql hul hdl hd5 hp5 hq5 hu5 hb1 e9 d0 d1
                  clear HM1 HM2 HM3 HB HBO HB3 HB5 HB6 HMC HLEN HB1 HB2
                  by_cases hx1 : 0 < x
                  · clear HLW
                    as_aux_lemma =>
                      go_wp2_with (first
                        | (go_at_call 38; (with_reducible refine (HM4.out _ HBQ.out).mono ?_); clear HM4; rintro e wa ⟨rfl, hb⟩; have HBR := Lib.hid (Below.step HBQ.out hb); clear hb; obtain ⟨a0, b0, b1, c0, c1, d0, d1⟩ := HCX.out wa HBR.out)
                        | (go_at_call 38; (with_reducible refine (HM5.out _ HBR.out).mono ?_); rintro e wb ⟨rfl, hb⟩; have HBS := Lib.hid (Below.step HBR.out hb); clear hb)
                        | fail)
                      go_ret
                      exact ⟨rfl, Below.step HWO.out HBS.out⟩
                  · by_cases hy1 : 0 < y
                    · as_aux_lemma =>
                        go_wp2_with (first
                          | (go_at_call 38; (with_reducible refine (HM4.out _ HBQ.out).mono ?_); clear HM4; rintro e wa ⟨rfl, hb⟩; have HBR := Lib.hid (Below.step HBQ.out hb); clear hb; obtain ⟨a0, b0, b1, c0, c1, d0, d1⟩ := HCX.out wa HBR.out)
                          | (go_at_call 38; (with_reducible refine (HM5.out _ HBR.out).mono ?_); rintro e wb ⟨rfl, hb⟩; have HBS := Lib.hid (Below.step HBR.out hb); clear hb)
                          | fail)
                        go_ret
                        exact ⟨rfl, Below.step HWO.out HBS.out⟩
                    · have hz1 : z ≤ 0 := HLW.out (by omega) (by omega)
                      clear HLW
                      as_aux_lemma =>
                        go_wp2_with (first
                          | (go_at_call 38; (with_reducible refine (HM4.out _ HBQ.out).mono ?_); clear HM4; rintro e wa ⟨rfl, hb⟩; have HBR := Lib.hid (Below.step HBQ.out hb); clear hb; obtain ⟨a0, b0, b1, c0, c1, d0, d1⟩ := HCX.out wa HBR.out)
                          | (go_at_call 38; (with_reducible refine (HM5.out _ HBR.out).mono ?_); rintro e wb ⟨rfl, hb⟩; have HBS := Lib.hid (Below.step HBR.out hb); clear hb)
                          | fail)
                        go_ret
                        exact ⟨rfl, Below.step HWO.out HBS.out⟩
          · have e0 : (mg != 0) = true := by simpa using hm0
            have hpn : pls = [] := by have h := HPE.out; rw [if_neg hm0] at h; simpa using h
            subst hpn
            as_aux_lemma =>
              go_wp2_with (go_at_call 14; refine (HMC.out).mono ?_; rintro e w3 ⟨rfl, hb⟩; have HB3 := Lib.hid (Below.step HB1.out hb); clear hb)
              go_ret
              exact ⟨rfl, HWX.out _ HB3.out⟩
    · clear HR
      as_aux_lemma =>
        go_wp2_with (go_at_call 33; refine (works18_any _ (HPT.out.below HBW.out).cn).mono ?_; rintro e w2 ⟨rfl, hb2⟩; have HB2 := Lib.hid (Below.step HBW.out hb2); clear hb2)
        go_ret
        exact ⟨rfl, HB2.out⟩
end Go.Proofs.YtmjkgnknfgoadaaGreatDoor
