/- The contract of gram.With. -/
import Derived.Test.YtmjkgnknfgoadaaGreatDoorDw
namespace Go.Proofs.YtmjkgnknfgoadaaGreatDoor
open Go.RowKit
set_option linter.unusedSimpArgs false
set_option linter.unusedVariables false

theorem TreePost.out' {t : Tr} {w : World} {e : Ending} {w' : World} (h : TreePost t w e w') : ∃ A c l r, e = .returned (.agg #[.slice A l.length c, .int .i64 r]) ∧ Lt.tr ⟨A, c, l, r⟩ = t ∧ TreeOwn w' (w.heap.size ≤ ·) ⟨A, c, l, r⟩ ∧ Below w.heap.size w w' := by
  obtain ⟨⟨A, c, l, r⟩, h1, h2, h3, h4⟩ := h
  exact ⟨A, c, l, r, h1, h2, h3, h4⟩
/-- A row of the call's own does not lie in a block of another type. -/
theorem OwnS.ne {w : World} {S : Nat → Prop} {e e' : TypeId} {size n c g : Nat} {V : Option Addr} {xs : List Value} {cs : Array Value} {fz : Nat × Nat} (h : OwnS w S e size V n c xs) (hg : w.heap[g]? = some (.cells cs e' fz)) (hne : e ≠ e') : OwnS w (fun x => S x ∧ x ≠ g) e size V n c xs :=
  ⟨h.1, fun k hk => ⟨h.2 k hk, fun ek => by
    rcases h.1.2 with ⟨hv, _⟩ | ⟨g', cap, cur, hv, _, hh, _⟩
    · cases hv; cases hk
    · cases hv
      cases hk
      subst ek
      rw [hg] at hh
      injection hh with hh
      injection hh with _ h2
      exact hne h2.symm⟩⟩
theorem TreeOwn.ne {w : World} {S : Nat → Prop} {t : Lt} {g : Nat} {cs : Array Value} {fz : Nat × Nat} (h : TreeOwn w S t) (hg : w.heap[g]? = some (.cells cs 50 fz)) : TreeOwn w (fun x => S x ∧ x ≠ g) t :=
  ⟨h.len, h.row.ne hg (by decide), fun l hl => ⟨(h.kids l hl).1, (h.kids l hl).2.ne hg (by decide)⟩⟩
/-- What gram.With tells where there is such a rule. -/
def WithPost (g : List Df) (r : Nat) (b : Tr) (w : World) (e : Ending) (w' : World) : Prop := ∃ (V : Option Addr) (vc : Nat) (ds : List Ld), e = .returned (.tuple #[.agg #[.slice V ds.length vc], .bool true]) ∧
  ds.map Ld.df = g.set r ⟨(g[r]?.map Df.name).getD ⟨#[]⟩, b⟩ ∧ GramOwn w' (w.heap.size ≤ ·) V vc ds ∧ Below w.heap.size w w'
/-- What gram.With and gram.Drop tell where there is none. -/
def NoRule (w : World) (e : Ending) (w' : World) : Prop := e = .returned (.tuple #[.agg #[.slice none 0 0], .bool false]) ∧ Below w.heap.size w w'

set_option maxRecDepth 100000 in
set_option maxHeartbeats 3200000 in
theorem with_no (A : Option Addr) (c : Nat) (ds : List Ld) (r : Int) (t : Lt) (w : World) (hr : r < 0 ∨ (ds.length : Int) ≤ r) :
    Calls Tryz.prog 56 #[.agg #[.slice A ds.length c], .int .i64 r, .agg #[.slice t.A t.ls.length t.c, .int .i64 t.root]] w (NoRule w) := by
  unfold NoRule
  have HB := Lib.hid (bx3 w (.cells #[.slice A ds.length c] 24) (.cells #[.slice t.A t.ls.length t.c, .int .i64 t.root] 48) (.cells #[.slice none 0 0] 24))
  have hk := bx_new ((w.alloc (.cells #[.slice A ds.length c] 24)).alloc (.cells #[.slice t.A t.ls.length t.c, .int .i64 t.root] 48)) (.cells #[.slice none 0 0] 24)
  rw [World.size_alloc, World.size_alloc] at hk
  obtain ⟨s1, s2⟩ := blk1 hk
  clear hk
  go_enter Tryz.func56, Tryz.ntmps56
  by_cases h0 : r < 0
  · have e0 : decide (r < 0) = true := by simpa using h0
    go_wp2_with fail
    exact bodyPost_ret (v := .tuple #[.agg #[.slice none 0 0], .bool false]) (by simp [results, Tryz.results56, go_sem, s1]) rfl ⟨rfl, HB.out⟩
  · have e0 : decide (r < 0) = false := by simpa using h0
    have h1 : (ds.length : Int) ≤ r := by omega
    have e1 : decide ((ds.length : Int) ≤ r) = true := by simpa using h1
    go_wp2_with fail
    exact bodyPost_ret (v := .tuple #[.agg #[.slice none 0 0], .bool false]) (by simp [results, Tryz.results56, go_sem, s1]) rfl ⟨rfl, HB.out⟩

set_option maxRecDepth 100000 in
set_option maxHeartbeats 6400000 in
theorem with_any (A : Option Addr) (c : Nat) (ds : List Ld) (r : Nat) (t : Lt) (S T : Nat → Prop) (w : World) (hA : dfL.row w S A ds) (hT : t.inn w T) (hl : ds.length ≤ 4294967296) (hm : ∀ d ∈ ds, DMod d) (hr : r < ds.length) (htl : t.ls.length ≤ 4294967296) (htk : ∀ l ∈ t.ls, l.nd.kids.length ≤ 4294967296) :
    Calls Tryz.prog 56 #[.agg #[.slice A ds.length c], .int .i64 r, .agg #[.slice t.A t.ls.length t.c, .int .i64 t.root]] w (WithPost (ds.map Ld.df) r t.tr w) := by
  have HA := Lib.hid hA; have HT := Lib.hid hT; have HM := Lib.hid hm; have HTK := Lib.hid htk
  clear hA hT hm htk
  unfold WithPost
  have HB0 := Lib.hid (bx3 w (.cells #[.slice A ds.length c] 24) (.cells #[.slice t.A t.ls.length t.c, .int .i64 t.root] 48) (.cells #[.slice none 0 0] 24))
  have HK0 := Lib.hid (show ∀ w', Below (((w.alloc (.cells #[.slice A ds.length c] 24)).alloc (.cells #[.slice t.A t.ls.length t.c, .int .i64 t.root] 48)).alloc (.cells #[.slice none 0 0] 24)).heap.size (((w.alloc (.cells #[.slice A ds.length c] 24)).alloc (.cells #[.slice t.A t.ls.length t.c, .int .i64 t.root] 48)).alloc (.cells #[.slice none 0 0] 24)) w' →
      w'.heap[w.heap.size]? = some (.cells #[.slice A ds.length c] 24 (0, 0)) ∧ w'.heap[w.heap.size + 1]? = some (.cells #[.slice t.A t.ls.length t.c, .int .i64 t.root] 48 (0, 0)) ∧ w'.heap[w.heap.size + 1 + 1]? = some (.cells #[.slice none 0 0] 24 (0, 0)) from fun w' hb => by
    refine ⟨bx_kept hb (bx_old (bx_old (bx_new w _))), bx_kept hb (bx_old ?_), bx_kept hb ?_⟩
    · have h := bx_new (w.alloc (.cells #[.slice A ds.length c] 24)) (.cells #[.slice t.A t.ls.length t.c, .int .i64 t.root] 48)
      rw [World.size_alloc] at h; exact h
    · have h := bx_new ((w.alloc (.cells #[.slice A ds.length c] 24)).alloc (.cells #[.slice t.A t.ls.length t.c, .int .i64 t.root] 48)) (.cells #[.slice none 0 0] 24)
      rw [World.size_alloc, World.size_alloc] at h; exact h)
  go_enter Tryz.func56, Tryz.ntmps56
  have i1 : decide ((r : Int) < 0) = false := by simp
  have i2 : decide ((ds.length : Int) ≤ (r : Int)) = false := by simp; omega
  have i3 : (r : Int) < (ds.length : Int) := by omega
  have i4 : (0 : Int) ≤ (r : Int) := by omega
  go_wp2_with fail
  refine (gcopy_any A c ds S _ (HA.out.below HB0.out) hl HM.out).mono ?_
  rintro e w1 ⟨V, vc, d1, rfl, hd1, hgo, hb1⟩
  have hn1 : d1.length = ds.length := by have h := congrArg List.length hd1; simpa using h
  rw [hn1]
  have HN1 := Lib.hid hn1; have HD1 := Lib.hid hd1; have HG1 := Lib.hid hgo; have HB1 := Lib.hid (Below.step HB0.out hb1); have HK1 := Lib.hid (HK0.out _ hb1)
  have HZ1 := Lib.hid (show w.heap.size + 3 ≤ w1.heap.size ∧ ∀ x, ((((w.alloc (.cells #[.slice A ds.length c] 24)).alloc (.cells #[.slice t.A t.ls.length t.c, .int .i64 t.root] 48)).alloc (.cells #[.slice none 0 0] 24)).heap.size ≤ x ↔ w.heap.size + 3 ≤ x) from ⟨by have := hb1.size; simp at this; omega, fun x => by simp⟩)
  clear hn1 hd1 hgo hb1 HB0 HK0
  obtain ⟨p1, p2⟩ := blk1 HK1.out.1
  go_upto_region 4 with (fail)
  have HX := Lib.hid (set_blk1 (u := .slice V ds.length vc) HK1.out.1)
  have HE := Lib.hid (show ∀ x, x ≠ w.heap.size → (w1.setCell ⟨w.heap.size, 0, none⟩ (.slice V ds.length vc)).heap[x]? = w1.heap[x]? from fun x hx => Below.heap_setCell _ _ _ _ hx)
  have HZW := Lib.hid (show (w1.setCell ⟨w.heap.size, 0, none⟩ (.slice V ds.length vc)).heap.size = w1.heap.size from by simp)
  have HBW := Lib.hid (show Below w.heap.size w (w1.setCell ⟨w.heap.size, 0, none⟩ (.slice V ds.length vc)) from HB1.out.setCell (p := ⟨w.heap.size, 0, none⟩) (Nat.le_refl _) _)
  generalize w1.setCell ⟨w.heap.size, 0, none⟩ (.slice V ds.length vc) = W at *
  clear p1 p2
  have HY := Lib.hid ((HE.out (w.heap.size + 1) (by omega)).trans HK1.out.2.1)
  have HR := Lib.hid ((HE.out (w.heap.size + 1 + 1) (by omega)).trans HK1.out.2.2)
  have hgw : GramOwn W (fun x => w.heap.size + 3 ≤ x) V vc d1 := by
    have h := HG1.out.agree (w' := W) (fun x hx _ => HE.out x (by have := (HZ1.out.2 x).1 hx; omega))
    obtain ⟨h1, h2, Q, h3, h4, h5⟩ := h
    exact ⟨h1, h2.mono (fun x _ hx => (HZ1.out.2 x).1 hx), Q, h3, fun i x hx => (HZ1.out.2 x).1 (h4 i x hx), h5⟩
  have hrow := hgw.row
  rw [HN1.out] at hrow
  obtain ⟨g, rfl, _, hg2⟩ := own_some hrow.1 (by omega)
  have hg3 : w.heap.size + 3 ≤ g := hrow.2 g rfl
  have hr1 : r < d1.length := by rw [HN1.out]; exact hr
  have HGW := Lib.hid hgw; have HRW := Lib.hid hrow
  clear hgw hrow HG1 HB1 HK1 HE
  have HGN := Lib.hid (show g ≠ w.heap.size ∧ g ≠ w.heap.size + 1 ∧ g ≠ w.heap.size + 1 + 1 ∧ w.heap.size + 3 ≤ W.heap.size ∧ g < W.heap.size from ⟨by omega, by omega, by omega, by omega, hg2⟩)
  have HSB := Lib.hid (show ∀ w', Agree (fun x => x = w.heap.size ∨ x = w.heap.size + 1) W w' → w'.cell? ⟨w.heap.size, 0, none⟩ = some (.slice (some ⟨g, 0, none⟩) ds.length vc) ∧ w'.cell? ⟨w.heap.size + 1, 0, none⟩ = some (.slice t.A t.ls.length t.c) ∧ w'.cell? ⟨w.heap.size + 1, 1, none⟩ = some (.int .i64 t.root) from fun w' ha => by
    have h1 := (blk1 ((ha w.heap.size (Or.inl rfl) (by have := HGN.out; omega)).trans HX.out)).1
    have h2 := blk2 ((ha (w.heap.size + 1) (Or.inr rfl) (by have := HGN.out; omega)).trans HY.out)
    exact ⟨h1, h2.1, h2.2.1⟩)
  have HTC := Lib.hid (show ∀ w', Below W.heap.size W w' → w'.cell? ⟨g, r * 3 + 1, none⟩ = some (.slice d1[r].t.A d1[r].t.ls.length d1[r].t.c) ∧ w'.cell? ⟨g, r * 3 + 2, none⟩ = some (.int .i64 d1[r].t.root) ∧ w'.frozen? ⟨g, r * 3 + 1, none⟩ = false ∧ w'.frozen? ⟨g, r * 3 + 2, none⟩ = false from fun w' hb => by
    have hown := own_agree HRW.out.1 (w' := w') (fun x hx => by cases hx; exact hb.block g HGN.out.2.2.2.2)
    have h1 := (own_at3 hown r hr1).2
    exact ⟨h1.1, h1.2, World.ownsRow.frozenAt hown _, World.ownsRow.frozenAt hown _⟩)
  have HCP := Lib.hid (show ∀ w', Below W.heap.size W w' → _ from fun w' hb => copied_any t.A t.c t.ls t.root T w' ((HT.out.below HBW.out).below hb).2 htl HTK.out)
  go_region_held3 (fun w' => w'.cell? ⟨w.heap.size, 0, none⟩ = some (.slice (some ⟨g, 0, none⟩) ds.length vc) ∧ w'.cell? ⟨w.heap.size + 1, 0, none⟩ = some (.slice t.A t.ls.length t.c) ∧ w'.cell? ⟨w.heap.size + 1, 1, none⟩ = some (.int .i64 t.root))
    (first | exact HSB.out _ (drew_agree _ _) | exact HSB.out _ HA3.out | exact HSB.out _ (HA4.out _ _))
    (((go_at_call 102; (with_reducible refine (HCP.out _ (Below.refl _ W).drew).mono ?_)); intro e w3 h3; obtain ⟨A1, c1, l1, r1, rfl, htr, hto, htb⟩ := TreePost.out' h3; clear h3; have HTR := Lib.hid htr; have HTO := Lib.hid hto; have HB3 := Lib.hid (show Below W.heap.size W w3 from (Below.refl _ W).drew.trans htb); clear htr hto htb; obtain ⟨t1, t2, t3, t4⟩ := HTC.out _ HB3.out; have HA3 := Lib.hid (show Agree (fun x => x = w.heap.size ∨ x = w.heap.size + 1) W w3 from below_all HB3.out); have HA4 := Lib.hid (show ∀ u v, Agree (fun x => x = w.heap.size ∨ x = w.heap.size + 1) W ((w3.setCell ⟨g, r * 3 + 1, none⟩ u).setCell ⟨g, r * 3 + 2, none⟩ v) from fun u v x hx hxl => by have hg := HGN.out; have hxg : x ≠ g := (by omega); exact (Below.heap_setCell _ _ _ _ hxg).trans ((Below.heap_setCell _ _ _ _ hxg).trans (HA3.out x hx hxl)))))
  all_goals
    have hgn := HGN.out
    have hs3 := HB3.out.size
    have HK5 := Lib.hid (show ∀ x, x ≠ g → ((w3.setCell ⟨g, r * 3 + 1, none⟩ (.slice A1 l1.length c1)).setCell ⟨g, r * 3 + 2, none⟩ (.int .i64 r1)).heap[x]? = w3.heap[x]? from fun x hx => (Below.heap_setCell _ _ _ _ hx).trans (Below.heap_setCell _ _ _ _ hx))
    have HB5 := Lib.hid (show Below w.heap.size w ((w3.setCell ⟨g, r * 3 + 1, none⟩ (.slice A1 l1.length c1)).setCell ⟨g, r * 3 + 2, none⟩ (.int .i64 r1)) from ((Below.step HBW.out HB3.out).setCell (p := ⟨g, r * 3 + 1, none⟩) (by show w.heap.size ≤ g; omega) _).setCell (p := ⟨g, r * 3 + 2, none⟩) (by show w.heap.size ≤ g; omega) _)
    have hown3 : w3.ownsRow 0 50 3 (.slice (some ⟨g, 0, none⟩) ds.length vc) ds.length (dfL.all d1) := own_agree HRW.out.1 (fun x hx => by cases hx; exact HB3.out.block g hgn.2.2.2.2)
    have HO5 := Lib.hid (show ((w3.setCell ⟨g, r * 3 + 1, none⟩ (.slice A1 l1.length c1)).setCell ⟨g, r * 3 + 2, none⟩ (.int .i64 r1)).ownsRow 0 50 3 (.slice (some ⟨g, 0, none⟩) ds.length vc) ds.length (dfL.all (d1.set r ⟨d1[r].name, ⟨A1, c1, l1, r1⟩⟩)) from by
      have h1 := (World.ownsRow.stored (World.ownsRow.stored hown3 (r * 3 + 1) (.slice A1 l1.length c1)).1 (r * 3 + 2) (.int .i64 r1)).1
      have h2 := all_set12 d1 r hr1 ⟨A1, c1, l1, r1⟩
      simp only at h2
      rw [h2] at h1; exact h1)
    clear hown3
    generalize (w3.setCell ⟨g, r * 3 + 1, none⟩ (.slice A1 l1.length c1)).setCell ⟨g, r * 3 + 2, none⟩ (.int .i64 r1) = w5 at *
    have HX5 := Lib.hid ((HK5.out w.heap.size (by omega)).trans ((HB3.out.block _ (by omega)).trans HX.out))
    have HR5 := Lib.hid ((HK5.out (w.heap.size + 1 + 1) (by omega)).trans ((HB3.out.block _ (by omega)).trans HR.out))
    obtain ⟨p1, p2⟩ := blk1 HX5.out
    obtain ⟨s1, s2⟩ := blk1 HR5.out
    clear t1 t2 t3 t4
    go_wp2_with fail
    refine bodyPost_ret (v := .tuple #[.agg #[.slice (some ⟨g, 0, none⟩) ds.length vc], .bool true]) (by simp [results, Tryz.results56, go_sem, s1]) rfl ?_
    have hE : ∀ x, x ≠ w.heap.size + 1 + 1 → (w5.setCell ⟨w.heap.size + 1 + 1, 0, none⟩ (.slice (some ⟨g, 0, none⟩) ds.length vc)).heap[x]? = w5.heap[x]? := fun x hx => Below.heap_setCell _ _ _ _ hx
    have hln : (d1.set r ⟨d1[r].name, ⟨A1, c1, l1, r1⟩⟩).length = ds.length := by rw [List.length_set, HN1.out]
    refine ⟨some ⟨g, 0, none⟩, vc, d1.set r ⟨d1[r].name, ⟨A1, c1, l1, r1⟩⟩, by rw [hln], ?_, ⟨by rw [hln]; omega, ?_, ?_⟩, HB5.out.setCell (p := ⟨w.heap.size + 1 + 1, 0, none⟩) (by simp; omega) _⟩
    · rw [List.map_set, HD1.out]
      congr 1
      show Df.mk _ (Lt.tr ⟨A1, c1, l1, r1⟩) = _
      rw [HTR.out]
      have h1 : (ds.map Ld.df)[r]? = some d1[r].df := by rw [← HD1.out]; simp [hr1]
      rw [h1]; rfl
    · rw [hln]
      exact ⟨own_agree HO5.out (fun x hx => by cases hx; exact hE g (by omega)), fun x hx => by cases hx; show w.heap.size ≤ g; omega⟩
    · obtain ⟨h1, h2, Q, h3, h4, h5⟩ := HGW.out
      refine ⟨fun i x => if i = r then W.heap.size ≤ x ∧ x < w3.heap.size else Q i x ∧ x < W.heap.size ∧ x ≠ g, fun i hi => ?_, fun i x hx => ?_, fun i j x hij hi hj => ?_⟩
      · by_cases e : r = i
        · subst e
          rw [List.getElem_set_self]
          simp only [if_true]
          refine ⟨(h3 r hr1).1, ?_⟩
          have h6 := HTO.out.mono (T := fun x => W.heap.size ≤ x ∧ x < w3.heap.size) (fun x a b => ⟨b, a⟩)
          exact h6.agree (fun x hx _ => (hE x (by omega)).trans (HK5.out x (by omega)))
        · rw [List.getElem_set_ne e]
          have hi' : i < d1.length := by simpa using hi
          have hne : ¬ i = r := fun h => e h.symm
          simp only [if_neg hne]
          refine ⟨(h3 i hi').1, ?_⟩
          obtain ⟨cs, hcs⟩ : ∃ cs, W.heap[g]? = some (.cells cs 50 (0, 0)) := by
            rcases HRW.out.1.2 with ⟨hv, _⟩ | ⟨g', cap, cur, hv, _, hh, _⟩
            · cases hv
            · cases hv; exact ⟨_, hh⟩
          have h6 := ((h3 i hi').2.ne hcs).mono (T := fun x => Q i x ∧ x < W.heap.size ∧ x ≠ g) (fun x a b => ⟨b.1, a, b.2⟩)
          exact h6.agree (fun x hx _ => (hE x (by have h : w.heap.size + 3 ≤ x := h4 i x hx.1; omega)).trans ((HK5.out x hx.2.2).trans (HB3.out.block x hx.2.1)))
      · by_cases e : i = r
        · simp only [if_pos e] at hx; show w.heap.size ≤ x; omega
        · simp only [if_neg e] at hx
          have := h4 i x hx.1
          show w.heap.size ≤ x
          have h : w.heap.size + 3 ≤ x := this
          omega
      · by_cases e : i = r
        · have e2 : ¬ j = r := fun h => hij (e.trans h.symm)
          simp only [if_pos e] at hi
          simp only [if_neg e2] at hj
          omega
        · simp only [if_neg e] at hi
          by_cases e2 : j = r
          · simp only [if_pos e2] at hj; omega
          · simp only [if_neg e2] at hj; exact h5 i j x hij hi.1 hj.1
end Go.Proofs.YtmjkgnknfgoadaaGreatDoor
