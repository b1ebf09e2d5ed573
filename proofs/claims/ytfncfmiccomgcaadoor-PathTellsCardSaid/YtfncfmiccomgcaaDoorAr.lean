/- The contract of path.Put. -/
import Derived.Test.YtfncfmiccomgcaaDoorAq
namespace Go.Proofs.YtfncfmiccomgcaaDoor
open Go.RowKit
set_option linter.unusedSimpArgs false
set_option linter.unusedVariables false

theorem abAll_get : ∀ (a : List (Nat × Nat)) (j : Nat) (h : j < a.length), (abAll a)[j * 2]? = some (.int .i64 (a[j].1 : Int)) ∧ (abAll a)[j * 2 + 1]? = some (.int .i64 (a[j].2 : Int))
  | x :: a, 0, _ => ⟨rfl, rfl⟩
  | x :: a, j + 1, h => by
    have := abAll_get a j (by simpa using h)
    simp only [abAll, show (j + 1) * 2 = j * 2 + 1 + 1 by omega, List.getElem?_cons_succ, List.getElem_cons_succ]
    exact this
theorem abRow_of {w : World} {B c : Nat} {V : Option Addr} {a : List (Nat × Nat)} (h : w.ownsRow B 84 2 (.slice V a.length c) a.length (abAll a)) : AbRow w V a := fun j hj => by
  obtain ⟨g, rfl, _, _⟩ := own_some h (by omega)
  have hg := abAll_get a j hj
  obtain ⟨ad, e1, h1⟩ := RowAt.own h (j * 2) _ hg.1
  obtain ⟨ad2, e2, h2⟩ := RowAt.own h (j * 2 + 1) _ hg.2
  cases e1; cases e2
  have e : ∀ n, ((⟨g, 0, none⟩ : Addr).add n) = ⟨g, n, none⟩ := fun n => by cases n <;> simp [Addr.add]
  rw [e] at h1 h2
  exact ⟨g, rfl, h1, h2⟩
theorem AbRow.below {w w' : World} {V : Option Addr} {a : List (Nat × Nat)} (h : AbRow w V a) (hb : Below w.heap.size w w') : AbRow w' V a := fun j hj => by
  obtain ⟨g, e, h1, h2⟩ := h j hj
  exact ⟨g, e, (hb.cell (p := ⟨g, j * 2, none⟩) (cellLt h1)).trans h1, (hb.cell (p := ⟨g, j * 2 + 1, none⟩) (cellLt h2)).trans h2⟩
theorem box_gotB {w w5 : World} {B : Nat} {v : Lt} {t : Tr} (hH : w.heap.size ≤ B) (hb : Below w.heap.size w w5) (hq : TreeOwn w5 (B + 1 ≤ ·) v) (ht : v.tr = t) :
    GotPost t w (.returned (.tuple #[v.val, .bool true])) ((w5.setCell ⟨B, 0, none⟩ (.slice v.A v.ls.length v.c)).setCell ⟨B, 1, none⟩ (.int .i64 v.root)) := by
  have hs : ∀ y, y ≠ B → ((w5.setCell ⟨B, 0, none⟩ (.slice v.A v.ls.length v.c)).setCell ⟨B, 1, none⟩ (.int .i64 v.root)).heap[y]? = w5.heap[y]? := fun y hy => (Below.heap_setCell _ _ _ _ hy).trans (Below.heap_setCell _ _ _ _ hy)
  exact ⟨v, rfl, ht, (hq.agree (fun y hy _ => hs y (by have hy : B + 1 ≤ y := hy; omega))).mono (fun y _ hy => by have hy : B + 1 ≤ y := hy; show w.heap.size ≤ y; omega),
    (hb.setCell (p := ⟨B, 0, none⟩) hH _).setCell (p := ⟨B, 1, none⟩) hH _⟩
/-- What is put, not made normal yet. -/
def putT (t : Tr) (p : List Int) (x : Tr) : Option TT := if rightT t = true ∧ rightT x = true then (atTT (den t.nodes t.root.toNat) p).map fun _ => putTT (den t.nodes t.root.toNat) p (den x.nodes x.root.toNat) else none
def PutPost (t : Tr) (p : List Int) (x : Tr) (w : World) (e : Ending) (w' : World) : Prop := (∀ y, putT t p x = some y → GotPost (treeOf (makeTT y)) w e w') ∧ (putT t p x = none → NotPost w e w')
abbrev treeO (A : Option Addr) (n c : Nat) (root : Int) : Obj := .cells #[.slice A n c, .int .i64 root] 24
theorem box3 (w : World) (o1 o2 o3 : Obj) : Below w.heap.size w (((w.alloc o1).alloc o2).alloc o3) ∧ (((w.alloc o1).alloc o2).alloc o3).heap.size = w.heap.size + 3 :=
  ⟨Below.step (bx2 w o1 o2) (bx1 _ o3), by simp⟩
set_option maxRecDepth 100000 in
set_option maxHeartbeats 6400000 in
theorem put_any (A : Option Addr) (c : Nat) (ls : List Ln) (root : Int) (PA : Option Addr) (pc : Nat) (p : List Int) (XA : Option Addr) (xc : Nat) (xs : List Ln) (xroot : Int) (S S' S2 : Nat → Prop) (w : World) (hT : ndL.row w S A ls) (hP : intL.row w S' PA p) (hX : ndL.row w S2 XA xs)
    (hl : xs.length + ls.length ≤ 16777216) (hpl : p.length ≤ 4611686018427387904) (ht : CntTab w) :
    Calls Tryd.prog 11 #[.agg #[.slice A ls.length c, .int .i64 root], .slice PA p.length pc, .agg #[.slice XA xs.length xc, .int .i64 xroot]] w (PutPost ⟨ls.map Ln.nd, root⟩ p ⟨xs.map Ln.nd, xroot⟩ w) := by
  have HT := Lib.hid hT; have HP := Lib.hid hP; have HX := Lib.hid hX; have HCT := Lib.hid ht; clear hT hP hX ht
  have HRG := Lib.hid (fun w' hT ht => right_any A c ls root S w' hT (by omega) ht)
  have HRX := Lib.hid (fun w' hT ht => right_any XA xc xs xroot S2 w' hT (by omega) ht)
  have HB3 := Lib.hid (box3 w (.cells #[.slice A ls.length c, .int .i64 root] 24) (.cells #[.slice XA xs.length xc, .int .i64 xroot] 24) (.cells #[.slice none 0 0, .int .i64 0] 24))
  have HK3 := Lib.hid (show (((w.alloc (.cells #[.slice A ls.length c, .int .i64 root] 24)).alloc (.cells #[.slice XA xs.length xc, .int .i64 xroot] 24)).alloc (.cells #[.slice none 0 0, .int .i64 0] 24)).heap[w.heap.size]? = some (.cells #[.slice A ls.length c, .int .i64 root] 24 (0, 0)) ∧ (((w.alloc (.cells #[.slice A ls.length c, .int .i64 root] 24)).alloc (.cells #[.slice XA xs.length xc, .int .i64 xroot] 24)).alloc (.cells #[.slice none 0 0, .int .i64 0] 24)).heap[w.heap.size + 1]? = some (.cells #[.slice XA xs.length xc, .int .i64 xroot] 24 (0, 0)) ∧ (((w.alloc (.cells #[.slice A ls.length c, .int .i64 root] 24)).alloc (.cells #[.slice XA xs.length xc, .int .i64 xroot] 24)).alloc (.cells #[.slice none 0 0, .int .i64 0] 24)).heap[w.heap.size + 2]? = some (.cells #[.slice none 0 0, .int .i64 0] 24 (0, 0)) from by
    refine ⟨bx_old (bx_old (bx_new w _)), bx_old ?_, ?_⟩
    · have h := bx_new (w.alloc (.cells #[.slice A ls.length c, .int .i64 root] 24)) (.cells #[.slice XA xs.length xc, .int .i64 xroot] 24)
      rw [World.size_alloc] at h; exact h
    · have h := bx_new ((w.alloc (.cells #[.slice A ls.length c, .int .i64 root] 24)).alloc (.cells #[.slice XA xs.length xc, .int .i64 xroot] 24)) (.cells #[.slice none 0 0, .int .i64 0] 24)
      rw [World.size_alloc, World.size_alloc] at h; exact h)
  rcases hr : rightT ⟨ls.map Ln.nd, root⟩ with _ | _
  · rw [hr] at HRG
    have HN := Lib.hid (show putT ⟨ls.map Ln.nd, root⟩ p ⟨xs.map Ln.nd, xroot⟩ = none from by unfold putT; rw [hr]; simp)
    go_enter Tryd.func11, Tryd.ntmps11
    go_upto_region 1 with (fail)
    generalize ((w.alloc (.cells #[.slice A ls.length c, .int .i64 root] 24)).alloc (.cells #[.slice XA xs.length xc, .int .i64 xroot] 24)).alloc (.cells #[.slice none 0 0, .int .i64 0] 24) = W at *
    obtain ⟨k0, k1, k2, k3⟩ := blk2 HK3.out.1
    go_wp2_with (first
      | (go_at_call 17; refine (HRG.out _ (HT.out.below HB3.out.1) (HCT.out.below HB3.out.1)).mono ?_; rintro e w1 ⟨rfl, hb⟩; have HB1 := Lib.hid (Below.step HB3.out.1 hb); have HK1 := Lib.hid (bx_kept hb HK3.out.2.2); clear hb k0 k1 k2 k3; obtain ⟨k0, k1, k2, k3⟩ := blk2 HK1.out)
      | fail)
    have HB2 := Lib.hid ((HB1.out.setCell (p := ⟨w.heap.size + 2, 0, none⟩) (Nat.le_add_right _ 2) (.slice none 0 0)).setCell (p := ⟨w.heap.size + 2, 1, none⟩) (Nat.le_add_right _ 2) (.int .i64 0))
    refine bodyPost_ret (v := .tuple #[.agg #[.slice none 0 0, .int .i64 0], .bool false]) (by simp [results, Tryd.results11, go_sem, k0, k1]) rfl ?_
    exact ⟨fun y h => (by rw [HN.out] at h; cases h), fun _ => ⟨rfl, HB2.out⟩⟩
  rcases hrx : rightT ⟨xs.map Ln.nd, xroot⟩ with _ | _
  · rw [hr] at HRG
    rw [hrx] at HRX
    have HN := Lib.hid (show putT ⟨ls.map Ln.nd, root⟩ p ⟨xs.map Ln.nd, xroot⟩ = none from by unfold putT; rw [hrx]; simp)
    go_enter Tryd.func11, Tryd.ntmps11
    go_upto_region 1 with (fail)
    generalize ((w.alloc (.cells #[.slice A ls.length c, .int .i64 root] 24)).alloc (.cells #[.slice XA xs.length xc, .int .i64 xroot] 24)).alloc (.cells #[.slice none 0 0, .int .i64 0] 24) = W at *
    obtain ⟨k0, k1, k2, k3⟩ := blk2 HK3.out.1
    go_wp2_with (first
      | (go_at_call 17; with_reducible refine (HRG.out _ (HT.out.below HB3.out.1) (HCT.out.below HB3.out.1)).mono ?_; rintro e w1 ⟨rfl, hb⟩; have HB1 := Lib.hid (Below.step HB3.out.1 hb); have HK1 := Lib.hid (And.intro (bx_kept hb HK3.out.1) (And.intro (bx_kept hb HK3.out.2.1) (bx_kept hb HK3.out.2.2))); clear hb k0 k1 k2 k3; obtain ⟨k0, k1, k2, k3⟩ := blk2 HK1.out.2.1)
      | (go_at_call 17; with_reducible refine (HRX.out _ (HX.out.below HB1.out) (HCT.out.below HB1.out)).mono ?_; rintro e w2 ⟨rfl, hb⟩; have HB2 := Lib.hid (Below.step HB1.out hb); have HK2 := Lib.hid (bx_kept hb HK1.out.2.2); clear hb k0 k1 k2 k3; obtain ⟨k0, k1, k2, k3⟩ := blk2 HK2.out)
      | fail)
    have HB2 := Lib.hid ((HB2.out.setCell (p := ⟨w.heap.size + 2, 0, none⟩) (Nat.le_add_right _ 2) (.slice none 0 0)).setCell (p := ⟨w.heap.size + 2, 1, none⟩) (Nat.le_add_right _ 2) (.int .i64 0))
    refine bodyPost_ret (v := .tuple #[.agg #[.slice none 0 0, .int .i64 0], .bool false]) (by simp [results, Tryd.results11, go_sem, k0, k1]) rfl ?_
    exact ⟨fun y h => (by rw [HN.out] at h; cases h), fun _ => ⟨rfl, HB2.out⟩⟩
  rw [hr] at HRG
  rw [hrx] at HRX
  have HR := Lib.hid ((rightT_iff _).1 hr)
  have HRR := Lib.hid ((rightT_iff _).1 hrx)
  have HPT := Lib.hid (show putT ⟨ls.map Ln.nd, root⟩ p ⟨xs.map Ln.nd, xroot⟩ = (atTT (den (ls.map Ln.nd) root.toNat) p).map fun _ => putTT (den (ls.map Ln.nd) root.toNat) p (den (xs.map Ln.nd) xroot.toNat) from by unfold putT; rw [hr, hrx]; simp)
  clear hr hrx
  have hroot := HR.out.1
  have hxroot := HRR.out.1
  simp only [List.length_map] at hroot hxroot
  obtain ⟨ro, rfl⟩ := Int.eq_ofNat_of_zero_le hroot.1
  obtain ⟨xo, rfl⟩ := Int.eq_ofNat_of_zero_le hxroot.1
  have hro : ro < ls.length := by omega
  have hxo : xo < xs.length := by omega
  simp only [Int.toNat_natCast] at HPT
  have HZ := Lib.hid (right_aheadZ HR.out)
  have HZX := Lib.hid (right_aheadZ HRR.out)
  have HDN := Lib.hid (fun w' hT hP => down_any A c ls ro PA pc p S S' w' hT hP HZ.out hro (by omega) hpl)
  unfold DownPost at HDN
  rw [← goDown_at HZ.out.ahead] at HPT
  clear hroot hxroot
  rcases hd : goDown (ls.map Ln.nd) ro p with _ | r
  · rw [hd] at HPT
    go_enter Tryd.func11, Tryd.ntmps11
    go_upto_region 1 with (fail)
    generalize ((w.alloc (.cells #[.slice A ls.length c, .int .i64 (ro : Int)] 24)).alloc (.cells #[.slice XA xs.length xc, .int .i64 (xo : Int)] 24)).alloc (.cells #[.slice none 0 0, .int .i64 0] 24) = W at *
    obtain ⟨k0, k1, k2, k3⟩ := blk2 HK3.out.1
    go_wp2_with (first
      | (go_at_call 17; with_reducible refine (HRG.out _ (HT.out.below HB3.out.1) (HCT.out.below HB3.out.1)).mono ?_; rintro e w1 ⟨rfl, hb⟩; have HB1 := Lib.hid (Below.step HB3.out.1 hb); have HK1 := Lib.hid (And.intro (bx_kept hb HK3.out.1) (And.intro (bx_kept hb HK3.out.2.1) (bx_kept hb HK3.out.2.2))); have HZ1 := Lib.hid (show w.heap.size + 3 ≤ w1.heap.size from by have := hb.size; have := HB3.out.2; omega); clear hb k0 k1 k2 k3; obtain ⟨k0, k1, k2, k3⟩ := blk2 HK1.out.2.1)
      | (go_at_call 17; with_reducible refine (HRX.out _ (HX.out.below HB1.out) (HCT.out.below HB1.out)).mono ?_; rintro e w2 ⟨rfl, hb⟩; have HB2 := Lib.hid (Below.step HB1.out hb); have HK2 := Lib.hid (And.intro (bx_kept hb HK1.out.1) (And.intro (bx_kept hb HK1.out.2.1) (bx_kept hb HK1.out.2.2))); have HZ2 := Lib.hid (show w.heap.size + 3 ≤ w2.heap.size from by have := hb.size; have := HZ1.out; omega); clear hb k0 k1 k2 k3; obtain ⟨k0, k1, k2, k3⟩ := blk2 HK2.out.1)
      | (go_at_call 25; with_reducible refine (HDN.out _ (HT.out.below HB2.out) (HP.out.agree (below_all HB2.out))).mono ?_; rintro e w3 hp; obtain ⟨rfl, hb⟩ := hp.2 hd; clear hp; have HB4 := Lib.hid (Below.step HB2.out hb); have HK4 := Lib.hid (bx_kept hb HK2.out.2.2); clear hb k0 k1 k2 k3; obtain ⟨k0, k1, k2, k3⟩ := blk2 HK4.out)
      | fail)
    have HB5 := Lib.hid ((HB4.out.setCell (p := ⟨w.heap.size + 2, 0, none⟩) (Nat.le_add_right _ 2) (.slice none 0 0)).setCell (p := ⟨w.heap.size + 2, 1, none⟩) (Nat.le_add_right _ 2) (.int .i64 0))
    refine bodyPost_ret (v := .tuple #[.agg #[.slice none 0 0, .int .i64 0], .bool false]) (by simp [results, Tryd.results11, go_sem, k0, k1]) rfl ?_
    exact ⟨fun y h => (by rw [HPT.out] at h; cases h), fun _ => ⟨rfl, HB5.out⟩⟩
  · rw [hd] at HPT
    have hpx := post_length HRR.out xo (by simpa using hxo)
    simp only [List.length_map] at hpx
    go_enter Tryd.func11, Tryd.ntmps11
    go_upto_region 1 with (fail)
    generalize ((w.alloc (.cells #[.slice A ls.length c, .int .i64 (ro : Int)] 24)).alloc (.cells #[.slice XA xs.length xc, .int .i64 (xo : Int)] 24)).alloc (.cells #[.slice none 0 0, .int .i64 0] 24) = W at *
    obtain ⟨k0, k1, k2, k3⟩ := blk2 HK3.out.1
    go_upto_region 6 with (first
      | (go_at_call 17; with_reducible refine (HRG.out _ (HT.out.below HB3.out.1) (HCT.out.below HB3.out.1)).mono ?_; rintro e w1 ⟨rfl, hb⟩; have HB1 := Lib.hid (Below.step HB3.out.1 hb); have HK1 := Lib.hid (And.intro (bx_kept hb HK3.out.1) (And.intro (bx_kept hb HK3.out.2.1) (bx_kept hb HK3.out.2.2))); have HZ1 := Lib.hid (show w.heap.size + 3 ≤ w1.heap.size from by have := hb.size; have := HB3.out.2; omega); clear hb k0 k1 k2 k3; obtain ⟨k0, k1, k2, k3⟩ := blk2 HK1.out.2.1)
      | (go_at_call 17; with_reducible refine (HRX.out _ (HX.out.below HB1.out) (HCT.out.below HB1.out)).mono ?_; rintro e w2 ⟨rfl, hb⟩; have HB2 := Lib.hid (Below.step HB1.out hb); have HK2 := Lib.hid (And.intro (bx_kept hb HK1.out.1) (And.intro (bx_kept hb HK1.out.2.1) (bx_kept hb HK1.out.2.2))); have HZ2 := Lib.hid (show w.heap.size + 3 ≤ w2.heap.size from by have := hb.size; have := HZ1.out; omega); clear hb k0 k1 k2 k3; obtain ⟨k0, k1, k2, k3⟩ := blk2 HK2.out.1)
      | (go_at_call 25; with_reducible refine (HDN.out _ (HT.out.below HB2.out) (HP.out.agree (below_all HB2.out))).mono ?_; rintro e w3 hp; obtain ⟨VA, va, rfl, hav, hb⟩ := hp.1 r hd; clear hp; have HAV := Lib.hid hav; have HB4 := Lib.hid (Below.step HB2.out hb); have HK4 := Lib.hid (And.intro (bx_kept hb HK2.out.1) (And.intro (bx_kept hb HK2.out.2.1) (bx_kept hb HK2.out.2.2))); have HZ4 := Lib.hid (show w.heap.size + 3 ≤ w3.heap.size from by have := hb.size; have := HZ2.out; omega); clear hb hav k0 k1 k2 k3; obtain ⟨k0, k1, k2, k3⟩ := blk2 HK4.out.2.1)
      | fail)
    have HGA := Lib.hid (graft_any w3.heap.size [] none 0 XA xc xs (xo : Int) xo S2 (w3.heap.size ≤ ·) w3 (Nat.le_refl _) (fun _ h => h) (World.ownsRow_nil _ _ _ _) (fun l hl => by cases hl) (fun w' h => HX.out.below (HB4.out.trans (h.mono (by have := HZ4.out; omega)))) HRR.out.2.1 HZX.out.ahead hxo (by omega) (by simp only [List.length_nil]; omega))
    unfold GraftPost at HGA
    simp only [List.length_nil] at HGA
    go_upto_region 7 with (first
      | (go_at_call 29; refine (HGA.out).mono ?_; rintro e w5 ⟨lsG, V5, c5, he, h1, h2, h3, h4, h5⟩; have hg1 : 1 ≤ lsG.length := (by have a1 := h1.2.1; have a2 := postN_ne (xs.map Ln.nd) xo; rw [List.length_map] at a1; omega); obtain ⟨g5, hg5⟩ : ∃ g5, lsG.length = g5 + 1 := ⟨lsG.length - 1, by omega⟩; have e5 : ((lsG.length : Int) - 1) = (g5 : Int) := (by omega); rw [e5] at he; subst he; have HQ1 := Lib.hid h1; have HQ2 := Lib.hid h2; have HQ3 := Lib.hid h3; have HQ4 := Lib.hid h4; have HG5 := Lib.hid hg5; clear h1 h2 h3 h4 h5 e5 hg1 hg5)
      | fail)
    have HL5 := Lib.hid (show lsG.length ≤ xs.length from by have a1 := HQ1.out.2.1; simp only [List.length_map, List.length_nil, List.map_nil] at a1; omega)
    have HB5 := Lib.hid (show Below w3.heap.size w3 w5 from HQ4.out.1)
    have HCAP := Lib.hid (own_cap HAV.out.own)
    have HUP := Lib.hid (up_any w3.heap.size lsG V5 c5 A c ls ro S VA va r.1 p r.2 g5 (den (xs.map Ln.nd) xo) w5 HB5.out.size HQ2.out HQ3.out (fun w' h => HT.out.below (HB4.out.trans ((HB5.out.trans h).mono (by have := HZ4.out; omega)))) (fun w' h => AbRow.below (abRow_of HAV.out.own) (HB5.out.trans h)) HCAP.out HR.out.2.1 HZ.out.ahead hro (fun i hi => by have h := post_length HR.out i (by simpa using hi); simpa using h) (by have := HL5.out; omega) hd
      ((HQ1.out.2.2.2 _ Grove.nil).congr fun q => by
        have e := HG5.out
        rw [List.length_map, e]
        constructor
        · rintro (h | h)
          · exact h.elim
          · omega
        · intro h; exact .inr (by omega))
      (by have h := HQ1.out.2.2.1; rw [List.length_map, HG5.out] at h; exact h))
    unfold UpPost at HUP
    have HK5 := Lib.hid (And.intro (bx_kept HB5.out HK4.out.1) (bx_kept HB5.out HK4.out.2.2))
    clear k0 k1 k2 k3
    obtain ⟨k0, k1, k2, k3⟩ := blk2 HK5.out.1
    go_upto_region 8 with (first
      | (go_at_call 30; refine (HUP.out).mono ?_; rintro e w7 ⟨lsU, V7, c7, r7, rfl, h1, h2, h3, h4, h5, h6⟩; have HU1 := Lib.hid h1; have HU2 := Lib.hid h2; have HU3 := Lib.hid h3; have HU4 := Lib.hid h4; have HU5 := Lib.hid h5; have HU6 := Lib.hid h6; clear h1 h2 h3 h4 h5 h6)
      | fail)
    have HROW := Lib.hid (show ndL.row w7 (w3.heap.size ≤ ·) V7 lsU from ⟨(own_ownS HU4.out).row, fun l hl => (HU5.out l hl).inn⟩)
    have HB37 := Lib.hid (show Below w3.heap.size w3 w7 from HB5.out.trans HU6.out)
    have HB7 := Lib.hid (show Below w.heap.size w w7 from HB4.out.trans (HB37.out.mono (by have := HZ4.out; omega)))
    have HZ7 := Lib.hid (show w.heap.size + 3 ≤ w7.heap.size from by have := HB37.out.size; have := HZ4.out; omega)
    have HK7 := Lib.hid (bx_kept HB37.out HK4.out.2.2)
    have hr7 := HU1.out.right
    have HRT := Lib.hid ((rightT_iff _).2 hr7)
    have HDEN := Lib.hid (HU2.out.den HU1.out.aheadZ)
    have HMK := Lib.hid (make_any V7 c7 lsU (r7 : Int) (w3.heap.size ≤ ·) w7 HROW.out (by have := HU3.out; have := HL5.out; omega) (HCT.out.below HB7.out))
    unfold MakePost at HMK
    clear k0 k1 k2 k3 hr7
    go_wp2_with (first
      | (go_at_call 19; refine (HMK.out).mono ?_; rintro e w8 hp; obtain ⟨v, rfl, h1, h2, h3⟩ := hp.1 HRT.out; clear hp; have HV1 := Lib.hid h1; have HV2 := Lib.hid h2; have HV3 := Lib.hid h3; have HK8 := Lib.hid (bx_kept h3 HK7.out); clear h1 h2 h3; obtain ⟨k0, k1, k2, k3⟩ := blk2 HK8.out)
      | fail)
    refine bodyPost_ret (v := .tuple #[v.val, .bool true]) (by simp [results, Tryd.results11, go_sem, k0, k1]) rfl ?_
    refine ⟨fun y h => ?_, fun h => (by rw [HPT.out] at h; cases h)⟩
    rw [HPT.out] at h
    simp only [Option.map_some, Option.some.injEq] at h
    subst h
    refine box_gotB (Nat.le_add_right _ 2) (Below.step HB7.out HV3.out) (HV2.out.mono fun y _ hy => Nat.le_trans HZ7.out hy) ?_
    have h1 := HV1.out
    simp only [Int.toNat_natCast] at h1
    rw [HDEN.out] at h1
    exact h1
end Go.Proofs.YtfncfmiccomgcaaDoor
