/- The contract of path.With. -/
import Derived.Test.YtfncfmiccomgcaaDoorBf
import Derived.Test.YtfncfmiccomgcaaDoorIr
import Derived.Deep.DeepCutAuto
import Derived.Deep.Cut
import Derived.Deep.CutRange
import Derived.Deep.RegionHeld3
namespace Go.Proofs.YtfncfmiccomgcaaDoor
open Go.RowKit
set_option linter.unusedSimpArgs false
set_option linter.unusedVariables false

/-- A grammar with what is put at a place. -/
def pWith (g : List Df) (r : Int) (p : List Int) (x : Tr) : Option (List Df) :=
  if 0 ≤ r ∧ r < (g.length : Int) then (putT (((g[r.toNat]?).map Df.body).getD ⟨[], 0⟩) p x).map fun y => g.set r.toNat ⟨((g[r.toNat]?).map Df.name).getD ⟨#[]⟩, treeOf (makeTT y)⟩ else none
def PWithPost (g : List Df) (r : Int) (p : List Int) (x : Tr) (w : World) (e : Ending) (w' : World) : Prop :=
  (∀ G, pWith g r p x = some G → ∃ (V : Option Addr) (vc : Nat) (ds : List Ld), e = .returned (.tuple #[.agg #[.slice V ds.length vc], .bool true]) ∧ ds.map Ld.df = G ∧ GramOwn w' (w.heap.size ≤ ·) V vc ds ∧ Below w.heap.size w w') ∧ (pWith g r p x = none → NoRule w e w')
theorem box4 (w : World) (u x : Value) (z y s t : Value) :
    ∀ W, W = ((((w.alloc (.cells #[u] 29)).alloc (.cells #[z, y] 40)).alloc (.cells #[s, t] 24)).alloc (.cells #[x] 29)) → Below w.heap.size w W ∧ W.heap.size = w.heap.size + 4 ∧ W.heap[w.heap.size]? = some (.cells #[u] 29 (0, 0)) ∧ W.heap[w.heap.size + 1]? = some (.cells #[z, y] 40 (0, 0)) ∧ W.heap[w.heap.size + 2]? = some (.cells #[s, t] 24 (0, 0)) ∧ W.heap[w.heap.size + 3]? = some (.cells #[x] 29 (0, 0)) := by
  rintro W rfl
  refine ⟨Below.step (bx3 w _ _ _) (bx1 _ _), by simp, bx_old (bx_old (bx_old (bx_new w _))), bx_old (bx_old ?_), bx_old ?_, ?_⟩
  · have h := bx_new (w.alloc (.cells #[u] 29)) (.cells #[z, y] 40)
    rw [World.size_alloc] at h; exact h
  · have h := bx_new ((w.alloc (.cells #[u] 29)).alloc (.cells #[z, y] 40)) (.cells #[s, t] 24)
    rw [World.size_alloc, World.size_alloc] at h; exact h
  · have h := bx_new (((w.alloc (.cells #[u] 29)).alloc (.cells #[z, y] 40)).alloc (.cells #[s, t] 24)) (.cells #[x] 29)
    rw [World.size_alloc, World.size_alloc, World.size_alloc] at h; exact h
set_option maxRecDepth 100000 in
set_option maxHeartbeats 6400000 in
theorem pwith_any (A : Option Addr) (c : Nat) (ds : List Ld) (r : Int) (PA : Option Addr) (pc : Nat) (p : List Int) (XA : Option Addr) (xc : Nat) (xs : List Ln) (xroot : Int) (S S' S2 : Nat → Prop) (w : World) (hA : dfL.row w S A ds) (hP : intL.row w S' PA p) (hX : ndL.row w S2 XA xs) (hxl : xs.length ≤ 16777216)
    (hl : ds.length ≤ 4294967296) (hm : ∀ d ∈ ds, DMod d) (hs : ∀ d ∈ ds, xs.length + d.t.ls.length ≤ 16777216) (hpl : p.length ≤ 4611686018427387904) (ht : CntTab w) :
    Calls Tryd.prog 15 #[.agg #[.slice A ds.length c], .agg #[.int .i64 r, .slice PA p.length pc], .agg #[.slice XA xs.length xc, .int .i64 xroot]] w (PWithPost (ds.map Ld.df) r p ⟨xs.map Ln.nd, xroot⟩ w) := by
  have HA := Lib.hid hA; have HP := Lib.hid hP; have HX := Lib.hid hX; have HCT := Lib.hid ht; have HM := Lib.hid hm; have HSZ := Lib.hid hs; clear hA hP hX ht hm hs
  obtain ⟨W, hW⟩ : ∃ W, W = ((((w.alloc (.cells #[.slice A ds.length c] 29)).alloc (.cells #[.int .i64 r, .slice PA p.length pc] 40)).alloc (.cells #[.slice XA xs.length xc, .int .i64 xroot] 24)).alloc (.cells #[.slice none 0 0] 29)) := ⟨_, rfl⟩
  have HB4 := Lib.hid (box4 w _ _ _ _ _ _ W hW)
  go_enter Tryd.func15, Tryd.ntmps15
  go_upto_region 1 with (fail)
  rw [← hW]
  clear hW
  obtain ⟨g0, g1⟩ := blk1 HB4.out.2.2.1
  obtain ⟨q0, q1, _, _⟩ := blk2 HB4.out.2.2.2.1
  obtain ⟨t0, t1, _, _⟩ := blk2 HB4.out.2.2.2.2.1
  obtain ⟨r0, r1⟩ := blk1 HB4.out.2.2.2.2.2
  by_cases hr0 : r < 0
  · have HN := Lib.hid (show pWith (ds.map Ld.df) r p ⟨xs.map Ln.nd, xroot⟩ = none from if_neg (by omega))
    have e0 : decide (r < 0) = true := by simpa using hr0
    go_wp2_with fail
    have HS := Lib.hid (show Below w.heap.size w (W.setCell ⟨w.heap.size + 3, 0, none⟩ (.slice none 0 0)) from HB4.out.1.setCell (p := ⟨w.heap.size + 3, 0, none⟩) (Nat.le_add_right _ 3) _)
    refine bodyPost_ret (v := .tuple #[.agg #[.slice none 0 0], .bool false]) (by simp [results, Tryd.results15, go_sem, r0, r1]) rfl ?_
    exact ⟨fun G h => (by rw [HN.out] at h; cases h), fun _ => ⟨rfl, HS.out⟩⟩
  by_cases hr1 : (ds.length : Int) ≤ r
  · have HN := Lib.hid (show pWith (ds.map Ld.df) r p ⟨xs.map Ln.nd, xroot⟩ = none from if_neg (by rw [List.length_map]; omega))
    have e0 : decide (r < 0) = false := by simpa using hr0
    have e1 : decide ((ds.length : Int) ≤ r) = true := by simpa using hr1
    go_wp2_with fail
    have HS := Lib.hid (show Below w.heap.size w (W.setCell ⟨w.heap.size + 3, 0, none⟩ (.slice none 0 0)) from HB4.out.1.setCell (p := ⟨w.heap.size + 3, 0, none⟩) (Nat.le_add_right _ 3) _)
    refine bodyPost_ret (v := .tuple #[.agg #[.slice none 0 0], .bool false]) (by simp [results, Tryd.results15, go_sem, r0, r1]) rfl ?_
    exact ⟨fun G h => (by rw [HN.out] at h; cases h), fun _ => ⟨rfl, HS.out⟩⟩
  obtain ⟨rn, rfl⟩ := Int.eq_ofNat_of_zero_le (show 0 ≤ r by omega)
  have hrn : rn < ds.length := by omega
  obtain ⟨gb, go, hab, _, hgb, z0, z1, z2⟩ := dfRow HA.out rn hrn
  have HIN := Lib.hid (dfSub HA.out rn hrn)
  have hdm := HSZ.out ds[rn] (List.getElem_mem hrn)
  have HPW := Lib.hid (show pWith (ds.map Ld.df) (rn : Int) p ⟨xs.map Ln.nd, xroot⟩ = (putT ds[rn].t.tr p ⟨xs.map Ln.nd, xroot⟩).map fun y => (ds.map Ld.df).set rn ⟨(((ds.map Ld.df)[rn]?).map Df.name).getD ⟨#[]⟩, treeOf (makeTT y)⟩ from by
    unfold pWith
    rw [if_pos (by rw [List.length_map]; omega), Int.toNat_natCast]
    simp [hrn, Ld.df])
  have HZC := Lib.hid (show ∀ w', Below w.heap.size w w' → w'.cell? ⟨gb, go + rn * 3 + 1, none⟩ = some (.slice ds[rn].t.A ds[rn].t.ls.length ds[rn].t.c) ∧ w'.cell? ⟨gb, go + rn * 3 + 2, none⟩ = some (.int .i64 ds[rn].t.root) from fun w' h => ⟨(h.cell (p := ⟨gb, go + rn * 3 + 1, none⟩) hgb).trans z1, (h.cell (p := ⟨gb, go + rn * 3 + 2, none⟩) hgb).trans z2⟩)
  clear z0 z1 z2
  generalize ds[rn] = d at *
  have HVd := Lib.hid (show Lies W d.t.tr d.t.A d.t.c d.t.ls d.t.root from ⟨((HIN.out.2.below HB4.out.1)).mono (fun _ _ _ => trivial), rfl⟩)
  have HVx := Lib.hid (show Lies W ⟨xs.map Ln.nd, xroot⟩ XA xc xs xroot from ⟨(HX.out.below HB4.out.1).mono (fun _ _ _ => trivial), rfl⟩)
  have HPp := Lib.hid (show intL.row W (fun _ => True) PA p from (HP.out.below HB4.out.1).mono (fun _ _ _ => trivial))
  have HCc := Lib.hid (HCT.out.below HB4.out.1)
  have hdm' : xs.length + d.t.ls.length ≤ 16777216 := hdm
  have e0 : decide ((rn : Int) < 0) = false := by simp
  have e1 : decide ((ds.length : Int) ≤ (rn : Int)) = false := by simp; omega
  have e2 : (rn : Int) < (ds.length : Int) := by omega
  have e3 : (0 : Int) ≤ (rn : Int) := by omega
  subst hab
  have HSB := Lib.hid (show ∀ w', Below W.heap.size W w' → w'.cell? ⟨w.heap.size, 0, none⟩ = some (.slice (some ⟨gb, go, none⟩) ds.length c) ∧ w'.cell? ⟨w.heap.size + 1, 0, none⟩ = some (.int .i64 (rn : Int)) ∧ w'.cell? ⟨w.heap.size + 1, 1, none⟩ = some (.slice PA p.length pc) ∧ w'.cell? ⟨w.heap.size + 2, 0, none⟩ = some (.slice XA xs.length xc) ∧ w'.cell? ⟨w.heap.size + 2, 1, none⟩ = some (.int .i64 xroot) ∧ w'.cell? ⟨gb, go + rn * 3 + 1, none⟩ = some (.slice d.t.A d.t.ls.length d.t.c) ∧ w'.cell? ⟨gb, go + rn * 3 + 2, none⟩ = some (.int .i64 d.t.root) from fun w' h => by
    obtain ⟨g0, g1⟩ := blk1 (bx_kept h HB4.out.2.2.1)
    obtain ⟨q0, q1, _, _⟩ := blk2 (bx_kept h HB4.out.2.2.2.1)
    obtain ⟨t0, t1, _, _⟩ := blk2 (bx_kept h HB4.out.2.2.2.2.1)
    have hz := HZC.out w' (Below.step HB4.out.1 h)
    exact ⟨g0, q0, q1, t0, t1, hz.1, hz.2⟩)
  have HBs := Lib.hid (Below.refl W.heap.size W)
  rcases hy : putT d.t.tr p ⟨xs.map Ln.nd, xroot⟩ with _ | y
  · rw [hy] at HPW
    have HY := Lib.hid hy
    clear hy
    go_upto_region 3 with (fail)
    clear g0 g1 q0 q1 t0 t1
    go_cut [9] from 22 to 35 (fun v9 wx => v9 = .bool false ∧ Hid (Below W.heap.size W wx))
    case first =>
      go_region_held3 (fun w' => w'.cell? ⟨w.heap.size, 0, none⟩ = some (.slice (some ⟨gb, go, none⟩) ds.length c) ∧ w'.cell? ⟨w.heap.size + 1, 0, none⟩ = some (.int .i64 (rn : Int)) ∧ w'.cell? ⟨w.heap.size + 1, 1, none⟩ = some (.slice PA p.length pc) ∧ w'.cell? ⟨w.heap.size + 2, 0, none⟩ = some (.slice XA xs.length xc) ∧ w'.cell? ⟨w.heap.size + 2, 1, none⟩ = some (.int .i64 xroot) ∧ w'.cell? ⟨gb, go + rn * 3 + 1, none⟩ = some (.slice d.t.A d.t.ls.length d.t.c) ∧ w'.cell? ⟨gb, go + rn * 3 + 2, none⟩ = some (.int .i64 d.t.root))
        (exact HSB.out _ (by first | exact HBs.out | exact HBs.out.drew | exact below_al18 HBs.out _ (Nat.le_refl _) | exact below_al18 HBs.out.drew _ (Nat.le_refl _) | exact (below_al18 HBs.out _ (Nat.le_refl _)).drew | exact (HBs.out.setCell (p := ⟨_, 0, none⟩) (Nat.le_refl _) _).setCell (p := ⟨_, 1, none⟩) (Nat.le_refl _) _))
        (first
          | (go_at_call 11; (with_reducible refine (put_not (c := d.t.c) (pc := pc) (xc := xc) rfl (HVd.out.below (by first | exact HBs.out | exact HBs.out.drew | exact below_al18 HBs.out _ (Nat.le_refl _) | exact below_al18 HBs.out.drew _ (Nat.le_refl _) | exact (below_al18 HBs.out _ (Nat.le_refl _)).drew | exact (HBs.out.setCell (p := ⟨_, 0, none⟩) (Nat.le_refl _) _).setCell (p := ⟨_, 1, none⟩) (Nat.le_refl _) _)) (HPp.out.below (by first | exact HBs.out | exact HBs.out.drew | exact below_al18 HBs.out _ (Nat.le_refl _) | exact below_al18 HBs.out.drew _ (Nat.le_refl _) | exact (below_al18 HBs.out _ (Nat.le_refl _)).drew | exact (HBs.out.setCell (p := ⟨_, 0, none⟩) (Nat.le_refl _) _).setCell (p := ⟨_, 1, none⟩) (Nat.le_refl _) _)) (HVx.out.below (by first | exact HBs.out | exact HBs.out.drew | exact below_al18 HBs.out _ (Nat.le_refl _) | exact below_al18 HBs.out.drew _ (Nat.le_refl _) | exact (below_al18 HBs.out _ (Nat.le_refl _)).drew | exact (HBs.out.setCell (p := ⟨_, 0, none⟩) (Nat.le_refl _) _).setCell (p := ⟨_, 1, none⟩) (Nat.le_refl _) _)) hdm' hpl (HCc.out.below (by first | exact HBs.out | exact HBs.out.drew | exact below_al18 HBs.out _ (Nat.le_refl _) | exact below_al18 HBs.out.drew _ (Nat.le_refl _) | exact (below_al18 HBs.out _ (Nat.le_refl _)).drew | exact (HBs.out.setCell (p := ⟨_, 0, none⟩) (Nat.le_refl _) _).setCell (p := ⟨_, 1, none⟩) (Nat.le_refl _) _)) HY.out).mono ?_); rintro e wd ⟨rfl, hbq⟩; have HBS' := Lib.hid (Below.step (by first | exact HBs.out | exact HBs.out.drew | exact below_al18 HBs.out _ (Nat.le_refl _) | exact below_al18 HBs.out.drew _ (Nat.le_refl _) | exact (below_al18 HBs.out _ (Nat.le_refl _)).drew | exact (HBs.out.setCell (p := ⟨_, 0, none⟩) (Nat.le_refl _) _).setCell (p := ⟨_, 1, none⟩) (Nat.le_refl _) _) hbq); clear HBs; have HBs := HBS'; clear HBS'; (first | ((with_reducible have HXg := Lib.hid (keptA0 hbq)); obtain ⟨s0, s1, s2, s3⟩ := blk2 HXg.out) | ((with_reducible have HXg := Lib.hid (keptB0 hbq)); obtain ⟨s0, s1, s2, s3⟩ := blk2 HXg.out) | skip); clear hbq)
          | fail)
      all_goals go_wp2_with fail
      all_goals go_meet
      all_goals exact ⟨rfl, Lib.hid (by first | exact HBs.out | exact HBs.out.drew | exact below_al18 HBs.out _ (Nat.le_refl _) | exact below_al18 HBs.out.drew _ (Nat.le_refl _) | exact (below_al18 HBs.out _ (Nat.le_refl _)).drew | exact (HBs.out.setCell (p := ⟨_, 0, none⟩) (Nat.le_refl _) _).setCell (p := ⟨_, 1, none⟩) (Nat.le_refl _) _)⟩
    case rest =>
      obtain ⟨rfl, HR⟩ := hcut
      have HS := Lib.hid ((Below.step HB4.out.1 HR.out).setCell (p := ⟨w.heap.size + 3, 0, none⟩) (Nat.le_add_right _ 3) (.slice none 0 0))
      obtain ⟨r0, r1⟩ := blk1 (bx_kept HR.out HB4.out.2.2.2.2.2)
      go_wp2_with fail
      refine bodyPost_ret (v := .tuple #[.agg #[.slice none 0 0], .bool false]) (by simp [results, Tryd.results15, go_sem, r0, r1]) rfl ?_
      exact ⟨fun G h => (by rw [HPW.out] at h; cases h), fun _ => ⟨rfl, HS.out⟩⟩
  · rw [hy] at HPW
    have HY := Lib.hid hy
    clear hy
    go_upto_region 3 with (fail)
    clear g0 g1 q0 q1 t0 t1
    go_cut [8, 9] from 22 to 35 (fun v8 v9 wx => ∃ (g : Nat) (Ay : Option Addr) (cy : Nat) (ly : List Ln) (ry : Int), v8 = .pointer (some ⟨g, 0, none⟩) ∧ v9 = .bool true ∧ Hid (wx.heap[g]? = some (.cells #[.slice Ay ly.length cy, .int .i64 ry] 24 (0, 0))) ∧ Hid (Lies wx (treeOf (makeTT y)) Ay cy ly ry) ∧ Hid (Below W.heap.size W wx))
    case first =>
      go_region_held3 (fun w' => w'.cell? ⟨w.heap.size, 0, none⟩ = some (.slice (some ⟨gb, go, none⟩) ds.length c) ∧ w'.cell? ⟨w.heap.size + 1, 0, none⟩ = some (.int .i64 (rn : Int)) ∧ w'.cell? ⟨w.heap.size + 1, 1, none⟩ = some (.slice PA p.length pc) ∧ w'.cell? ⟨w.heap.size + 2, 0, none⟩ = some (.slice XA xs.length xc) ∧ w'.cell? ⟨w.heap.size + 2, 1, none⟩ = some (.int .i64 xroot) ∧ w'.cell? ⟨gb, go + rn * 3 + 1, none⟩ = some (.slice d.t.A d.t.ls.length d.t.c) ∧ w'.cell? ⟨gb, go + rn * 3 + 2, none⟩ = some (.int .i64 d.t.root))
        (exact HSB.out _ (by first | exact HBs.out | exact HBs.out.drew | exact below_al18 HBs.out _ (Nat.le_refl _) | exact below_al18 HBs.out.drew _ (Nat.le_refl _) | exact (below_al18 HBs.out _ (Nat.le_refl _)).drew | exact (HBs.out.setCell (p := ⟨_, 0, none⟩) (Nat.le_refl _) _).setCell (p := ⟨_, 1, none⟩) (Nat.le_refl _) _))
        (first
          | (go_at_call 11; (with_reducible refine (put_lies (c := d.t.c) (pc := pc) (xc := xc) rfl (HVd.out.below (by first | exact HBs.out | exact HBs.out.drew | exact below_al18 HBs.out _ (Nat.le_refl _) | exact below_al18 HBs.out.drew _ (Nat.le_refl _) | exact (below_al18 HBs.out _ (Nat.le_refl _)).drew | exact (HBs.out.setCell (p := ⟨_, 0, none⟩) (Nat.le_refl _) _).setCell (p := ⟨_, 1, none⟩) (Nat.le_refl _) _)) (HPp.out.below (by first | exact HBs.out | exact HBs.out.drew | exact below_al18 HBs.out _ (Nat.le_refl _) | exact below_al18 HBs.out.drew _ (Nat.le_refl _) | exact (below_al18 HBs.out _ (Nat.le_refl _)).drew | exact (HBs.out.setCell (p := ⟨_, 0, none⟩) (Nat.le_refl _) _).setCell (p := ⟨_, 1, none⟩) (Nat.le_refl _) _)) (HVx.out.below (by first | exact HBs.out | exact HBs.out.drew | exact below_al18 HBs.out _ (Nat.le_refl _) | exact below_al18 HBs.out.drew _ (Nat.le_refl _) | exact (below_al18 HBs.out _ (Nat.le_refl _)).drew | exact (HBs.out.setCell (p := ⟨_, 0, none⟩) (Nat.le_refl _) _).setCell (p := ⟨_, 1, none⟩) (Nat.le_refl _) _)) hdm' hpl (HCc.out.below (by first | exact HBs.out | exact HBs.out.drew | exact below_al18 HBs.out _ (Nat.le_refl _) | exact below_al18 HBs.out.drew _ (Nat.le_refl _) | exact (below_al18 HBs.out _ (Nat.le_refl _)).drew | exact (HBs.out.setCell (p := ⟨_, 0, none⟩) (Nat.le_refl _) _).setCell (p := ⟨_, 1, none⟩) (Nat.le_refl _) _)) HY.out).mono ?_); rintro e wd ⟨Ay, cy, ly, ry, rfl, hlq, hbq⟩; have HLh := Lib.hid hlq; have HBS' := Lib.hid (Below.step (by first | exact HBs.out | exact HBs.out.drew | exact below_al18 HBs.out _ (Nat.le_refl _) | exact below_al18 HBs.out.drew _ (Nat.le_refl _) | exact (below_al18 HBs.out _ (Nat.le_refl _)).drew | exact (HBs.out.setCell (p := ⟨_, 0, none⟩) (Nat.le_refl _) _).setCell (p := ⟨_, 1, none⟩) (Nat.le_refl _) _) hbq); clear HBs; have HBs := HBS'; clear HBS'; (first | ((with_reducible have HXg := Lib.hid (keptA hbq hlq)); obtain ⟨s0, s1, s2, s3⟩ := blk2 HXg.out.1) | ((with_reducible have HXg := Lib.hid (keptB hbq hlq)); obtain ⟨s0, s1, s2, s3⟩ := blk2 HXg.out.1) | skip); clear hbq hlq)
          | fail)
      all_goals go_wp2_with fail
      all_goals go_meet
      all_goals first
        | (have hq := box_new HLh.out HBs.out HBs.out.size; exact ⟨_, Ay, cy, ly, ry, rfl, rfl, Lib.hid hq.1, Lib.hid hq.2.1, Lib.hid hq.2.2⟩)
        | (have hq := box_late HXg.out.1 (Nat.lt_succ_self _) HXg.out.2 HBs.out (Nat.le_refl _); exact ⟨_, Ay, cy, ly, ry, rfl, rfl, Lib.hid hq.1, Lib.hid hq.2.1, Lib.hid hq.2.2⟩)
    case rest =>
      obtain ⟨g, Ay, cy, ly, ry, rfl, rfl, HG, HVy, HR⟩ := hcut
      have HBW := Lib.hid (Below.step HB4.out.1 HR.out)
      have HZW := Lib.hid (show w.heap.size + 3 < wc.heap.size from by have h1 := HB4.out.2.1; have h2 := HR.out.size; omega)
      obtain ⟨g0, g1⟩ := blk1 (bx_kept HR.out HB4.out.2.2.1)
      obtain ⟨q0, q1, _, _⟩ := blk2 (bx_kept HR.out HB4.out.2.2.2.1)
      obtain ⟨r0, r1⟩ := blk1 (bx_kept HR.out HB4.out.2.2.2.2.2)
      obtain ⟨y0, y1, _, _⟩ := blk2 HG.out
      have hszy : szTT (makeTT y) ≤ 16777216 := by
        have h1 := sz_putT HY.out
        have h2 := sz_make y
        simp only [Lt.tr, List.length_map] at h1
        omega
      have hly0 := HVy.out.len
      rw [sz_treeOf] at hly0
      have hly : ly.length ≤ 16777216 := by omega
      have HKY := Lib.hid (show ∀ l ∈ ly, l.nd.kids.length ≤ 4294967296 from fun l hl' => by
        have h1 := congrArg Tr.nodes HVy.out.2
        have h2 : l.nd ∈ flatT (makeTT y) := by
          have h3 : ly.map Ln.nd = flatT (makeTT y) := h1
          rw [← h3]; exact List.mem_map.2 ⟨l, hl', rfl⟩
        have h4 := sz_kids _ _ h2
        omega)
      clear hly0 hszy
      have HWI := Lib.hid (with_any (some ⟨gb, go, none⟩) c ds rn ⟨Ay, cy, ly, ry⟩ S (fun _ => True) wc (HA.out.below HBW.out) ⟨by show ly.length ≤ _; omega, HVy.out.1⟩ hl HM.out hrn (by show ly.length ≤ _; omega) HKY.out)
      go_wp2_with (first
        | (go_at_call 33; refine (HWI.out).mono ?_; rintro e w6 ⟨V, vc, es, rfl, h1, h2, h3⟩; have HE1 := Lib.hid h1; have HE2 := Lib.hid h2; have HE3 := Lib.hid h3; clear h1 h2 h3 r0 r1; obtain ⟨r0, r1⟩ := blk1 (bx_kept HE3.out (bx_kept HR.out HB4.out.2.2.2.2.2)))
        | fail)
      refine bodyPost_ret (v := .tuple #[.agg #[.slice V es.length vc], .bool true]) (by simp [results, Tryd.results15, go_sem, r0, r1]) rfl ?_
      refine ⟨fun G h => ?_, fun h => (by rw [HPW.out] at h; cases h)⟩
      rw [HPW.out] at h
      simp only [Option.map_some, Option.some.injEq] at h
      subst h
      have hz := HZW.out
      refine ⟨V, vc, es, rfl, ?_, (HE2.out.agree (fun x hx _ => Below.heap_setCell _ _ _ _ (by have hx : wc.heap.size ≤ x := hx; show x ≠ w.heap.size + 3; omega))).mono (fun x hx => by have hx : wc.heap.size ≤ x := hx; show w.heap.size ≤ x; omega), (Below.step HBW.out HE3.out).setCell (p := ⟨w.heap.size + 3, 0, none⟩) (Nat.le_add_right _ 3) _⟩
      have h1 := HE1.out
      have h2 : Lt.tr ⟨Ay, cy, ly, ry⟩ = treeOf (makeTT y) := HVy.out.2
      rw [h2] at h1
      exact h1
end Go.Proofs.YtfncfmiccomgcaaDoor
