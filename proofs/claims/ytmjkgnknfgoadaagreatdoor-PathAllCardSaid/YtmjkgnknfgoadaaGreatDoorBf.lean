/- Trees that lie there: the contracts of what is done with a tree, told of such. -/
import Derived.Test.YtmjkgnknfgoadaaGreatDoorBd
import Derived.Test.YtmjkgnknfgoadaaGreatDoorNm
import Derived.Deep.DeepCutAuto
import Derived.Deep.Cut
import Derived.Deep.CutRange
import Derived.Deep.RegionHeld3
namespace Go.Proofs.YtmjkgnknfgoadaaGreatDoor
open Go.RowKit
set_option linter.unusedSimpArgs false
set_option linter.unusedVariables false

/-- A tree that lies there. -/
def Lies (w : World) (T : Tr) (A : Option Addr) (c : Nat) (ls : List Ln) (r : Int) : Prop := ndL.row w (fun _ => True) A ls ∧ (⟨ls.map Ln.nd, r⟩ : Tr) = T
theorem Lies.below {w w' : World} {T : Tr} {A : Option Addr} {c : Nat} {ls : List Ln} {r : Int} (h : Lies w T A c ls r) (hb : Below w.heap.size w w') : Lies w' T A c ls r := ⟨h.1.below hb, h.2⟩
theorem Lies.len {w : World} {T : Tr} {A : Option Addr} {c : Nat} {ls : List Ln} {r : Int} (h : Lies w T A c ls r) : ls.length = T.nodes.length := by rw [← h.2]; simp
/-- A tree just made, that lies in new memory. -/
def LiesO (b : Nat) (w : World) (T : Tr) (A : Option Addr) (c : Nat) (ls : List Ln) (r : Int) : Prop := ndL.row w (b ≤ ·) A ls ∧ (⟨ls.map Ln.nd, r⟩ : Tr) = T
theorem LiesO.lies {b : Nat} {w : World} {T : Tr} {A : Option Addr} {c : Nat} {ls : List Ln} {r : Int} (h : LiesO b w T A c ls r) : Lies w T A c ls r := ⟨h.1.mono (fun _ _ _ => trivial), h.2⟩
def TupPost (R : Tr) (w : World) (e : Ending) (w' : World) : Prop := ∃ A c ls r, e = .returned (.tuple #[.agg #[.slice A ls.length c, .int .i64 r], .bool true]) ∧ LiesO w.heap.size w' R A c ls r ∧ Below w.heap.size w w'
theorem GotPost.tup {R : Tr} {w w' : World} {e : Ending} (h : GotPost R w e w') : TupPost R w e w' := by
  obtain ⟨⟨A, c, ls, r⟩, rfl, h1, h2, h3⟩ := h
  exact ⟨A, c, ls, r, rfl, ⟨h2.inn.2, h1⟩, h3⟩
theorem at_lies {w : World} {T : Tr} {A PA : Option Addr} {c pc : Nat} {ls : List Ln} {r : Int} {p : List Int} {n : Nat} (hn : p.length = n) (hT : Lies w T A c ls r) (hP : intL.row w (fun _ => True) PA p) (hl : ls.length ≤ 4294967296) (hpl : p.length ≤ 4611686018427387904) (ht : CntTab w) {y : TT} (h : atT T p = some y) :
    Calls Tryz.prog 83 #[.agg #[.slice A ls.length c, .int .i64 r], .slice PA n pc] w (TupPost (treeOf y) w) := by
  subst hn
  refine (at_any A c ls r PA pc p _ _ w hT.1 hP hl hpl ht).mono ?_
  rintro e w' hq
  rw [hT.2] at hq
  exact (hq.1 y h).tup
theorem at_not {w : World} {T : Tr} {A PA : Option Addr} {c pc : Nat} {ls : List Ln} {r : Int} {p : List Int} {n : Nat} (hn : p.length = n) (hT : Lies w T A c ls r) (hP : intL.row w (fun _ => True) PA p) (hl : ls.length ≤ 4294967296) (hpl : p.length ≤ 4611686018427387904) (ht : CntTab w) (h : atT T p = none) :
    Calls Tryz.prog 83 #[.agg #[.slice A ls.length c, .int .i64 r], .slice PA n pc] w (NotPost w) := by
  subst hn
  refine (at_any A c ls r PA pc p _ _ w hT.1 hP hl hpl ht).mono ?_
  rintro e w' hq
  rw [hT.2] at hq
  exact hq.2 h
end Go.Proofs.YtmjkgnknfgoadaaGreatDoor
/- path.Find; trees, or none, that lie in new memory. -/
namespace Go.Proofs.YtmjkgnknfgoadaaGreatDoor
open Go.RowKit
set_option linter.unusedSimpArgs false
set_option linter.unusedVariables false
theorem LiesO.mono {a b : Nat} {w : World} {T : Tr} {A : Option Addr} {c : Nat} {ls : List Ln} {r : Int} (h : LiesO b w T A c ls r) (hab : a ≤ b) : LiesO a w T A c ls r := ⟨h.1.mono (fun x _ hx => Nat.le_trans hab hx), h.2⟩
theorem LiesO.below {b : Nat} {w w' : World} {T : Tr} {A : Option Addr} {c : Nat} {ls : List Ln} {r : Int} (h : LiesO b w T A c ls r) (hb : Below w.heap.size w w') : LiesO b w' T A c ls r := ⟨h.1.below hb, h.2⟩
theorem box_lateO {B g : Nat} {wc wd : World} {b : Nat} {x y : Value} {R : Tr} {A : Option Addr} {c : Nat} {ls : List Ln} {r : Int} (hg : wd.heap[g]? = some (.cells #[x, y] 48 (0, 0))) (hgl : g < b) (hl : LiesO b wd R A c ls r) (hb : Below B wc wd) (hB : B ≤ g) :
    ((wd.setCell ⟨g, 0, none⟩ (.slice A ls.length c)).setCell ⟨g, 1, none⟩ (.int .i64 r)).heap[g]? = some (.cells #[.slice A ls.length c, .int .i64 r] 48 (0, 0)) ∧ LiesO b ((wd.setCell ⟨g, 0, none⟩ (.slice A ls.length c)).setCell ⟨g, 1, none⟩ (.int .i64 r)) R A c ls r ∧ Below B wc ((wd.setCell ⟨g, 0, none⟩ (.slice A ls.length c)).setCell ⟨g, 1, none⟩ (.int .i64 r)) := by
  have hs : ∀ y, y ≠ g → ((wd.setCell ⟨g, 0, none⟩ (.slice A ls.length c)).setCell ⟨g, 1, none⟩ (.int .i64 r)).heap[y]? = wd.heap[y]? := fun y hy => (Below.heap_setCell _ _ _ _ hy).trans (Below.heap_setCell _ _ _ _ hy)
  refine ⟨set_two hg, ⟨hl.1.agree (fun y hy _ => hs y (by have hy : b ≤ y := hy; omega)), hl.2⟩, (hb.setCell (p := ⟨g, 0, none⟩) hB _).setCell (p := ⟨g, 1, none⟩) hB _⟩
theorem box_newO {B : Nat} {wc wd : World} {R : Tr} {A : Option Addr} {c : Nat} {ls : List Ln} {r : Int} {b : Nat} (hl : LiesO b wd R A c ls r) (hb : Below B wc wd) (hB : B ≤ wd.heap.size) :
    (wd.alloc (.cells #[.slice A ls.length c, .int .i64 r] 48)).heap[wd.heap.size]? = some (.cells #[.slice A ls.length c, .int .i64 r] 48 (0, 0)) ∧ LiesO b (wd.alloc (.cells #[.slice A ls.length c, .int .i64 r] 48)) R A c ls r ∧ Below B wc (wd.alloc (.cells #[.slice A ls.length c, .int .i64 r] 48)) :=
  ⟨bx_new wd _, hl.below (bx1 wd _), hb.alloc hB _⟩
/-- A tree, or none. -/
def TupOr (R : Option Tr) (w : World) (e : Ending) (w' : World) : Prop := ∃ (A : Option Addr) (c : Nat) (ls : List Ln) (r : Int), e = .returned (.tuple #[.agg #[.slice A ls.length c, .int .i64 r], .bool R.isSome]) ∧ LiesO w.heap.size w' (R.getD ⟨[], 0⟩) A c ls r ∧ Below w.heap.size w w'
theorem NotPost.tup {w : World} {e : Ending} {w' : World} (h : NotPost w e w') : TupOr none w e w' := by
  obtain ⟨rfl, hb⟩ := h
  exact ⟨none, 0, [], 0, rfl, ⟨Lay.row.nil _ _ _, rfl⟩, hb⟩
theorem TupPost.tup {R : Tr} {w : World} {e : Ending} {w' : World} (h : TupPost R w e w') : TupOr (some R) w e w' := h
/-- What stands at a place of a grammar. -/
def findP (g : List Df) (r : Int) (p : List Int) : Option Tr :=
  if 0 ≤ r ∧ r < (g.length : Int) then (atT (((g[r.toNat]?).map Df.body).getD ⟨[], 0⟩) p).map treeOf else none
theorem at_or {w : World} {T : Tr} {A PA : Option Addr} {c pc : Nat} {ls : List Ln} {r : Int} {p : List Int} (hT : Lies w T A c ls r) (hP : intL.row w (fun _ => True) PA p) (hl : ls.length ≤ 4294967296) (hpl : p.length ≤ 4611686018427387904) (ht : CntTab w) :
    Calls Tryz.prog 83 #[.agg #[.slice A ls.length c, .int .i64 r], .slice PA p.length pc] w (TupOr ((atT T p).map treeOf) w) := by
  rcases h : atT T p with _ | y
  · exact (at_not rfl hT hP hl hpl ht h).mono fun e w' h => h.tup
  · exact (at_lies rfl hT hP hl hpl ht h).mono fun e w' h => h.tup
/-- Nothing that was there is other than it was, but a block. -/
def KeptBut (b : Nat) (W w' : World) : Prop := ∀ x, x < W.heap.size → x ≠ b → w'.heap[x]? = W.heap[x]?
theorem KeptBut.below {b : Nat} {W w' : World} (h : Below W.heap.size W w') : KeptBut b W w' := fun x hx _ => h.block x hx
theorem KeptBut.drew {b : Nat} {W w' : World} (h : KeptBut b W w') : KeptBut b W w'.drew := h
theorem KeptBut.set {b o : Nat} {u : Value} {W w' : World} (h : KeptBut b W w') : KeptBut b W (w'.setCell ⟨b, o, none⟩ u) := fun x hx hne => (Below.heap_setCell _ _ _ _ hne).trans (h x hx hne)
theorem box3pfind (w : World) (u : Value) (z y s t : Value) :
    ∀ W, W = (((w.alloc (.cells #[u] 24)).alloc (.cells #[z, y] 56)).alloc (.cells #[s, t] 48)) → Below w.heap.size w W ∧ W.heap.size = w.heap.size + 3 ∧ W.heap[w.heap.size]? = some (.cells #[u] 24 (0, 0)) ∧ W.heap[w.heap.size + 1]? = some (.cells #[z, y] 56 (0, 0)) ∧ W.heap[w.heap.size + 2]? = some (.cells #[s, t] 48 (0, 0)) := by
  rintro W rfl
  refine ⟨bx3 w _ _ _, by simp, bx_old (bx_old (bx_new w _)), bx_old ?_, ?_⟩
  · have h := bx_new (w.alloc (.cells #[u] 24)) (.cells #[z, y] 56)
    rw [World.size_alloc] at h; exact h
  · have h := bx_new ((w.alloc (.cells #[u] 24)).alloc (.cells #[z, y] 56)) (.cells #[s, t] 48)
    rw [World.size_alloc, World.size_alloc] at h; exact h
set_option maxRecDepth 100000 in
set_option maxHeartbeats 6400000 in
theorem pfind_any (A : Option Addr) (c : Nat) (ds : List Ld) (r : Int) (PA : Option Addr) (pc : Nat) (p : List Int) (S : Nat → Prop) (w : World) (hA : dfL.row w S A ds)
    (hat : ∀ (i : Nat) (hi : i < ds.length) (w' : World), Below w.heap.size w w' → Calls Tryz.prog 83 #[.agg #[.slice ds[i].t.A ds[i].t.ls.length ds[i].t.c, .int .i64 ds[i].t.root], .slice PA p.length pc] w' (TupOr ((atT ds[i].t.tr p).map treeOf) w')) :
    Calls Tryz.prog 37 #[.agg #[.slice A ds.length c], .agg #[.int .i64 r, .slice PA p.length pc]] w (TupOr (findP (ds.map Ld.df) r p) w) := by
  have HA := Lib.hid hA; have HAT := Lib.hid hat; clear hA hat
  obtain ⟨W, hW⟩ : ∃ W, W = (((w.alloc (.cells #[.slice A ds.length c] 24)).alloc (.cells #[.int .i64 r, .slice PA p.length pc] 56)).alloc (.cells #[.slice none 0 0, .int .i64 0] 48)) := ⟨_, rfl⟩
  have HB3 := Lib.hid (box3pfind w _ _ _ _ _ W hW)
  go_enter Tryz.func37, Tryz.ntmps37
  go_upto_region 1 with (fail)
  rw [← hW]
  clear hW
  obtain ⟨g0, g1⟩ := blk1 HB3.out.2.2.1
  obtain ⟨q0, q1, _, _⟩ := blk2 HB3.out.2.2.2.1
  obtain ⟨t0, t1, t2, t3⟩ := blk2 HB3.out.2.2.2.2
  have HS := Lib.hid (show Below w.heap.size w ((W.setCell ⟨w.heap.size + 2, 0, none⟩ (.slice none 0 0)).setCell ⟨w.heap.size + 2, 1, none⟩ (.int .i64 0)) from (HB3.out.1.setCell (p := ⟨w.heap.size + 2, 0, none⟩) (Nat.le_add_right _ 2) _).setCell (p := ⟨w.heap.size + 2, 1, none⟩) (Nat.le_add_right _ 2) _)
  by_cases hr0 : r < 0
  · have HN := Lib.hid (show findP (ds.map Ld.df) r p = none from if_neg (by omega))
    have e0 : decide (r < 0) = true := by simpa using hr0
    go_wp2_with fail
    refine bodyPost_ret (v := .tuple #[.agg #[.slice none 0 0, .int .i64 0], .bool false]) (by simp [results, Tryz.results37, go_sem, t0, t1]) rfl ?_
    rw [HN.out]
    exact NotPost.tup ⟨rfl, HS.out⟩
  by_cases hr1 : (ds.length : Int) ≤ r
  · have HN := Lib.hid (show findP (ds.map Ld.df) r p = none from if_neg (by rw [List.length_map]; omega))
    have e0 : decide (r < 0) = false := by simpa using hr0
    have e1 : decide ((ds.length : Int) ≤ r) = true := by simpa using hr1
    go_wp2_with fail
    refine bodyPost_ret (v := .tuple #[.agg #[.slice none 0 0, .int .i64 0], .bool false]) (by simp [results, Tryz.results37, go_sem, t0, t1]) rfl ?_
    rw [HN.out]
    exact NotPost.tup ⟨rfl, HS.out⟩
  obtain ⟨rn, rfl⟩ := Int.eq_ofNat_of_zero_le (show 0 ≤ r by omega)
  have hrn : rn < ds.length := by omega
  obtain ⟨gb, go, hab, _, hgb, z0, z1, z2⟩ := dfRow HA.out rn hrn
  have HPW := Lib.hid (show findP (ds.map Ld.df) (rn : Int) p = (atT ds[rn].t.tr p).map treeOf from by
    unfold findP
    rw [if_pos (by rw [List.length_map]; omega), Int.toNat_natCast]
    simp [hrn, Ld.df])
  have HCA := Lib.hid (HAT.out rn hrn)
  clear z0
  have HGB := Lib.hid hgb
  generalize ds[rn] = d at *
  have e0 : decide ((rn : Int) < 0) = false := by simp
  have e1 : decide ((ds.length : Int) ≤ (rn : Int)) = false := by simp; omega
  have e2 : (rn : Int) < (ds.length : Int) := by omega
  have e3 : (0 : Int) ≤ (rn : Int) := by omega
  subst hab
  have HSB := Lib.hid (show ∀ w', KeptBut (w.heap.size + 2) W w' → w'.cell? ⟨w.heap.size, 0, none⟩ = some (.slice (some ⟨gb, go, none⟩) ds.length c) ∧ w'.cell? ⟨w.heap.size + 1, 0, none⟩ = some (.int .i64 (rn : Int)) ∧ w'.cell? ⟨w.heap.size + 1, 1, none⟩ = some (.slice PA p.length pc) ∧ w'.cell? ⟨gb, go + rn * 3 + 1, none⟩ = some (.slice d.t.A d.t.ls.length d.t.c) ∧ w'.cell? ⟨gb, go + rn * 3 + 2, none⟩ = some (.int .i64 d.t.root) from fun w' h => by
    have hz := HB3.out.2.1
    obtain ⟨g0, g1⟩ := blk1 ((h _ (by omega) (by omega)).trans HB3.out.2.2.1)
    obtain ⟨q0, q1, _, _⟩ := blk2 ((h _ (by omega) (by omega)).trans HB3.out.2.2.2.1)
    have hk : w'.heap[gb]? = w.heap[gb]? := (h _ (by omega) (by omega)).trans (HB3.out.1.block _ HGB.out)
    refine ⟨g0, q0, q1, ?_, ?_⟩
    · rw [← z1]; simp only [World.cell?, hk]
    · rw [← z2]; simp only [World.cell?, hk])
  clear z1 z2
  have HKB := Lib.hid (show KeptBut (w.heap.size + 2) W W from fun _ _ _ => rfl)
  have HBW := Lib.hid HB3.out.1
  have HKR := Lib.hid HB3.out.2.2.2.2
  have HZW := Lib.hid (show w.heap.size + 2 < W.heap.size by have := HB3.out.2.1; omega)
  clear t0 t1 t2 t3
  go_upto_region 3 with (fail)
  clear g0 g1 q0 q1
  go_region_held3 (fun w' => w'.cell? ⟨w.heap.size, 0, none⟩ = some (.slice (some ⟨gb, go, none⟩) ds.length c) ∧ w'.cell? ⟨w.heap.size + 1, 0, none⟩ = some (.int .i64 (rn : Int)) ∧ w'.cell? ⟨w.heap.size + 1, 1, none⟩ = some (.slice PA p.length pc) ∧ w'.cell? ⟨gb, go + rn * 3 + 1, none⟩ = some (.slice d.t.A d.t.ls.length d.t.c) ∧ w'.cell? ⟨gb, go + rn * 3 + 2, none⟩ = some (.int .i64 d.t.root))
    (first | exact HSB.out _ HKB.out | exact HSB.out _ HKB.out.drew | exact HSB.out _ HKD.out | exact HSB.out _ HKD.out.set | exact HSB.out _ HKD.out.set.set)
    (first
      | (go_at_call 83; (with_reducible refine (HCA.out _ HBW.out.drew).mono ?_); rintro e wd ⟨A4, c4, l4, r4, rfl, hl4, hb4⟩; have HL4 := Lib.hid hl4; have HB4 := Lib.hid (show Below W.heap.size W wd from Below.step (Below.refl _ W).drew hb4); have HK4 := Lib.hid (show wd.heap[w.heap.size + 2]? = _ from bx_kept hb4 HKR.out); have HKD := Lib.hid (KeptBut.below (b := w.heap.size + 2) HB4.out); obtain ⟨t0, t1, t2, t3⟩ := blk2 HK4.out; clear hl4 hb4)
      | fail)
  go_wp2_with fail
  refine bodyPost_ret (v := .tuple #[.agg #[.slice A4 l4.length c4, .int .i64 r4], .bool ((atT d.t.tr p).map treeOf).isSome]) (by simp [results, Tryz.results37, go_sem, t0, t1]) rfl ?_
  have h := box_lateO (g := w.heap.size + 2) HK4.out HZW.out HL4.out (Below.step HBW.out HB4.out) (by omega)
  rw [HPW.out]
  exact ⟨A4, c4, l4, r4, rfl, h.2.1.mono (by have := HZW.out; omega), h.2.2⟩
end Go.Proofs.YtmjkgnknfgoadaaGreatDoor
