/- The contract of gram.Copy. -/
import Derived.Test.YtbfjanfhgpgmdaaDoorDr
namespace Go.Proofs.YtbfjanfhgpgmdaaDoor
open Go.RowKit
set_option linter.unusedSimpArgs false
set_option linter.unusedVariables false

/-- A rule that is not out of all measure. -/
def DMod (d : Ld) : Prop := d.t.ls.length ≤ 4294967296 ∧ ∀ l ∈ d.t.ls, l.nd.kids.length ≤ 4294967296
/-- A grammar of the call's own; what hangs on one rule lies apart from what hangs on another one. -/
structure GramOwn (w : World) (S : Nat → Prop) (A : Option Addr) (c : Nat) (ds : List Ld) : Prop where
  len : ds.length ≤ 281474976710656
  row : OwnS w S 36 3 A ds.length c (dfL.all ds)
  kids : ∃ Q : Nat → Nat → Prop, (∀ i (h : i < ds.length), ds[i].name.size ≤ 281474976710656 ∧ TreeOwn w (Q i) ds[i].t) ∧ (∀ i x, Q i x → S x) ∧ ∀ i j x, i ≠ j → Q i x → ¬ Q j x
theorem GramOwn.inn {w : World} {S : Nat → Prop} {A : Option Addr} {c : Nat} {ds : List Ld} (h : GramOwn w S A c ds) : dfL.row w S A ds := by
  obtain ⟨Q, h1, h2, _⟩ := h.kids
  refine ⟨h.row.row, fun d hd => ?_⟩
  obtain ⟨i, hi, rfl⟩ := List.mem_iff_getElem.1 hd
  exact ⟨(h1 i hi).1, ((h1 i hi).2.mono (fun x _ hx => h2 i x hx)).inn⟩
theorem GramOwn.agree {w w' : World} {S : Nat → Prop} {A : Option Addr} {c : Nat} {ds : List Ld} (h : GramOwn w S A c ds) (hg : Agree S w w') : GramOwn w' S A c ds := by
  obtain ⟨Q, h1, h2, h3⟩ := h.kids
  exact ⟨h.len, h.row.agree hg, Q, fun i hi => ⟨(h1 i hi).1, (h1 i hi).2.agree (hg.mono (fun x _ hx => h2 i x hx))⟩, h2, h3⟩
theorem GramOwn.mono {w : World} {S T : Nat → Prop} {A : Option Addr} {c : Nat} {ds : List Ld} (h : GramOwn w S A c ds) (hS : ∀ k, S k → T k) : GramOwn w T A c ds := by
  obtain ⟨Q, h1, h2, h3⟩ := h.kids
  exact ⟨h.len, h.row.mono (fun k _ => hS k), Q, h1, fun i x hx => hS x (h2 i x hx), h3⟩
def GramPost (g : List Df) (w : World) (e : Ending) (w' : World) : Prop := ∃ (V : Option Addr) (vc : Nat) (ds : List Ld), e = .returned (.agg #[.slice V ds.length vc]) ∧ ds.map Ld.df = g ∧ GramOwn w' (w.heap.size ≤ ·) V vc ds ∧ Below w.heap.size w w'

theorem own_at3 {w : World} {B g n c : Nat} {ds : List Ld} (h : w.ownsRow B 36 3 (.slice (some ⟨g, 0, none⟩) n c) n (dfL.all ds)) (k : Nat) (hk : k < ds.length) :
    w.cell? ⟨g, k * 3, none⟩ = some (.string ds[k].name) ∧ w.cell? ⟨g, k * 3 + 1, none⟩ = some (.slice ds[k].t.A ds[k].t.ls.length ds[k].t.c) ∧ w.cell? ⟨g, k * 3 + 2, none⟩ = some (.int .i64 ds[k].t.root) := by
  have hn : n * 3 = ds.length * 3 := by have h1 := h.1; rw [dfL.all_length] at h1; exact h1.symm
  have hc : ∀ j u, j < 3 → (dfL.cells ds[k])[j]? = some u → w.cell? ⟨g, k * 3 + j, none⟩ = some u := fun j u hj hu => (World.ownsRow.cellAt h (k * 3 + j) (by omega)).trans ((dfL.all_at ds k j hk hj).trans hu)
  exact ⟨hc 0 _ (by decide) rfl, hc 1 _ (by decide) rfl, hc 2 _ (by decide) rfl⟩
theorem all_set12 (l : List Ld) (k : Nat) (hk : k < l.length) (t : Lt) : ((dfL.all l).set (k * 3 + 1) (.slice t.A t.ls.length t.c)).set (k * 3 + 2) (.int .i64 t.root) = dfL.all (l.set k ⟨l[k].name, t⟩) := by
  have hlen : ∀ m : List Ld, (dfL.all m).length = m.length * 3 := fun m => dfL.all_length m
  apply List.ext_getElem?
  intro i
  by_cases hi : i < l.length * 3
  · have hq : i / 3 < l.length := by omega
    have h1 := dfL.all_at (l.set k ⟨l[k].name, t⟩) (i / 3) (i % 3) (by simpa using hq) (show i % 3 < 3 by omega)
    have h2 := dfL.all_at l (i / 3) (i % 3) hq (show i % 3 < 3 by omega)
    rw [show i / 3 * dfL.size + i % 3 = i by show i / 3 * 3 + i % 3 = i; omega] at h1 h2
    rw [h1, List.getElem?_set]
    by_cases e : k * 3 + 2 = i
    · have e1 : i / 3 = k := by omega
      have e2 : i % 3 = 2 := by omega
      rw [if_pos e, if_pos (by rw [List.length_set, hlen]; omega)]
      simp only [e1, e2, List.getElem_set_self]
      rfl
    · rw [if_neg e, List.getElem?_set]
      by_cases e3 : k * 3 + 1 = i
      · have e1 : i / 3 = k := by omega
        have e2 : i % 3 = 1 := by omega
        rw [if_pos e3, if_pos (by rw [hlen]; omega)]
        simp only [e1, e2, List.getElem_set_self]
        rfl
      · rw [if_neg e3, h2]
        by_cases e1 : i / 3 = k
        · simp only [e1, List.getElem_set_self]
          have : i % 3 = 0 := by omega
          rw [this]; rfl
        · rw [List.getElem_set_ne (fun h => e1 h.symm)]
  · rw [List.getElem?_eq_none (by rw [List.length_set, List.length_set, hlen]; omega), List.getElem?_eq_none (by rw [hlen, List.length_set]; omega)]
theorem blk1 {w : World} {b : Nat} {x : Value} {T : TypeId} (h : w.heap[b]? = some (.cells #[x] T (0, 0))) : w.cell? ⟨b, 0, none⟩ = some x ∧ w.frozen? ⟨b, 0, none⟩ = false := by
  simp [World.cell?, World.frozen?, h]
theorem blk3' {w : World} {b : Nat} {x y z : Value} {T : TypeId} (h : w.heap[b]? = some (.cells #[x, y, z] T (0, 0))) : w.cell? ⟨b, 0, none⟩ = some x ∧ w.cell? ⟨b, 1, none⟩ = some y ∧ w.cell? ⟨b, 2, none⟩ = some z := by
  simp [World.cell?, h]
theorem set_blk1 {w : World} {b : Nat} {x u : Value} {T : TypeId} (h : w.heap[b]? = some (.cells #[x] T (0, 0))) : (w.setCell ⟨b, 0, none⟩ u).heap[b]? = some (.cells #[u] T (0, 0)) := by
  have := heap_setCell_same w b 0 _ T u h
  simpa using this

def GCopyRel (w : World) (H : Nat) (V : Option Addr) (vc : Nat) (ds : List Ld) (i : Value) (wr : World) : Prop :=
  ∃ (k : Nat) (ds' : List Ld), k ≤ ds.length ∧ i = .int .i64 k ∧ Hid (ds'.length = ds.length) ∧ Hid (ds'.map Ld.df = ds.map Ld.df) ∧ Hid (wr.ownsRow (H + 2) 36 3 (.slice V ds.length vc) ds.length (dfL.all ds')) ∧
    Hid (∃ Q : Nat → Nat → Prop, (∀ j (h : j < ds'.length), j < k → TreeOwn wr (Q j) ds'[j].t) ∧ (∀ j x, Q j x → H + 2 ≤ x ∧ x < wr.heap.size ∧ blkOf V ≠ some x) ∧ (∀ i j x, i ≠ j → Q i x → ¬ Q j x) ∧ ∀ j x, k ≤ j → ¬ Q j x) ∧
    Hid (∀ j (h : j < ds'.length) (h2 : j < ds.length), k ≤ j → ds'[j] = ds[j]) ∧ Hid (∀ j (h : j < ds'.length) (h2 : j < ds.length), ds'[j].name = ds[j].name) ∧
    Hid (wr.heap[H]? = some (.cells #[.slice V ds.length vc] 24 (0, 0))) ∧ Hid (wr.heap[H + 1]? = some (.cells #[.slice none 0 0] 24 (0, 0))) ∧ Hid (Below H w wr)

set_option maxRecDepth 100000 in
set_option maxHeartbeats 3200000 in
theorem gcopy_any (A : Option Addr) (c : Nat) (ds : List Ld) (S : Nat → Prop) (w : World) (hT : dfL.row w S A ds) (hl : ds.length ≤ 4294967296) (hm : ∀ d ∈ ds, DMod d) :
    Calls Tryd.prog 46 #[.agg #[.slice A ds.length c]] w (GramPost (ds.map Ld.df) w) := by
  have HT := Lib.hid hT; clear hT
  have HKL := Lib.hid hm; clear hm
  have HCL := Lib.hid (fun w' (h : dfL.row w' S A ds) => clone_defs ds A c S w' h hl)
  unfold GramPost
  go_enter Tryd.func46, Tryd.ntmps46
  go_wp2_with (go_at_call 71; refine (HCL.out _ (HT.out.agree (below_all (bx2 w _ _)))).mono ?_; rintro e w1 ⟨V, vc, rfl, hown1, hb1⟩; have HO1 := Lib.hid hown1; have HB1 := Lib.hid hb1; obtain ⟨k1, k2⟩ := bx2_kept hb1; have HK1 := Lib.hid k1; have HK2 := Lib.hid k2; obtain ⟨q1, q2⟩ := blk1 HK1.out; clear hown1 hb1 k1 k2)
  have HBB := Lib.hid (Below.step (bx2 w _ _) HB1.out)
  have HOW := Lib.hid (show w1.ownsRow (w.heap.size + 2) 36 3 (.slice V ds.length vc) ds.length (dfL.all ds) by simpa using HO1.out)
  clear HO1
  have HVH := Lib.hid (show ∀ x, blkOf V = some x → w.heap.size + 2 ≤ x from fun x hx => (own_blk HOW.out x hx).1)
  go_loopw [12] (fun i wr => GCopyRel w w.heap.size V vc ds i wr) (fun i _ => ds.length - (intOf i).toNat)
  case atStart =>
    refine ⟨0, ds, by omega, rfl, Lib.hid rfl, Lib.hid rfl, Lib.hid (own_agree HOW.out (fun x hx => Below.heap_setCell _ _ _ _ (by have := HVH.out x hx; show x ≠ w.heap.size; omega))), Lib.hid ⟨fun _ _ => False, fun j _ hj => by omega, fun _ _ h => h.elim, fun _ _ _ _ h => h.elim, fun _ _ _ h => h⟩, Lib.hid (fun j _ _ _ => rfl), Lib.hid (fun j _ _ => rfl), Lib.hid (set_blk1 HK1.out), Lib.hid ((Below.heap_setCell _ _ _ _ (by show w.heap.size + 1 ≠ w.heap.size; omega)).trans HK2.out), Lib.hid (HBB.out.setCell (p := ⟨w.heap.size, 0, none⟩) (Nat.le_refl _) _)⟩
  case round =>
    clear q1 q2 HK1 HK2 HOW HB1 HBB
    obtain ⟨k, ds', hk, rfl, HLN, HND, HO, HQ, HRS, HNM, HK1, HK2, HB⟩ := hrel
    by_cases hlt : k < ds.length
    · have hlt' : k < ds'.length := by rw [HLN.out]; exact hlt
      obtain ⟨g, rfl, hg1, hg2⟩ := own_some HO.out (by omega)
      obtain ⟨x0, x1, x2⟩ := own_at3 HO.out k hlt'
      have HRK := Lib.hid (HRS.out k hlt' hlt (Nat.le_refl _))
      rw [HRK.out] at x0 x1 x2
      have c1 := World.ownsRow.frozenAt HO.out (k * 3 + 1)
      have c2 := World.ownsRow.frozenAt HO.out (k * 3 + 2)
      obtain ⟨q1, q2⟩ := blk1 HK1.out
      have i1 : (k : Int) < (ds.length : Int) := by omega
      have i2 : (0 : Int) ≤ (k : Int) := by omega
      have HKK := Lib.hid (show ds[k].t.ls.length ≤ 4294967296 ∧ ∀ l ∈ ds[k].t.ls, l.nd.kids.length ≤ 4294967296 from HKL.out ds[k] (List.getElem_mem hlt))
      go_upto_region 5 with (fail)
      have hWK : (wr.alloc (.cells #[.string ds[k].name, .slice ds[k].t.A ds[k].t.ls.length ds[k].t.c, .int .i64 ds[k].t.root] 36)).heap[wr.heap.size]? = some (.cells #[.string ds[k].name, .slice ds[k].t.A ds[k].t.ls.length ds[k].t.c, .int .i64 ds[k].t.root] 36 (0, 0)) := bx_new wr _
      have hWB : Below wr.heap.size wr (wr.alloc (.cells #[.string ds[k].name, .slice ds[k].t.A ds[k].t.ls.length ds[k].t.c, .int .i64 ds[k].t.root] 36)) := bx1 wr _
      have hWZ : (wr.alloc (.cells #[.string ds[k].name, .slice ds[k].t.A ds[k].t.ls.length ds[k].t.c, .int .i64 ds[k].t.root] 36)).heap.size = wr.heap.size + 1 := by simp
      generalize (wr.alloc (.cells #[.string ds[k].name, .slice ds[k].t.A ds[k].t.ls.length ds[k].t.c, .int .i64 ds[k].t.root] 36)) = W at *
      have HWK := Lib.hid hWK; have HWB := Lib.hid hWB; have HWZ := Lib.hid hWZ
      clear hWK hWB hWZ
      have HBW := Lib.hid (Below.step HB.out (HWB.out.mono (Nat.le_refl _)))
      have HRT := Lib.hid (show ds[k].t.ls.length ≤ 281474976710656 ∧ ndL.row W S ds[k].t.A ds[k].t.ls from dfSub (HT.out.agree (below_all HBW.out)) k hlt)
      have HNS := Lib.hid ((HT.out.sub k hlt).1)
      have HGN := Lib.hid (show g ≠ w.heap.size ∧ g ≠ w.heap.size + 1 ∧ g ≠ wr.heap.size ∧ w.heap.size < wr.heap.size from ⟨by omega, by omega, by omega, by omega⟩)
      have HSB := Lib.hid (show ∀ w', Agree (fun x => x = w.heap.size ∨ x = wr.heap.size) W w' → w'.cell? ⟨w.heap.size, 0, none⟩ = some (.slice (some ⟨g, 0, none⟩) ds.length vc) ∧ w'.cell? ⟨wr.heap.size, 1, none⟩ = some (.slice ds[k].t.A ds[k].t.ls.length ds[k].t.c) ∧ w'.cell? ⟨wr.heap.size, 2, none⟩ = some (.int .i64 ds[k].t.root) from fun w' ha => by
        have h1 := (blk1 ((ha w.heap.size (Or.inl rfl) (by have := HWZ.out; have := HGN.out.2.2.2; omega)).trans ((HWB.out.block _ HGN.out.2.2.2).trans HK1.out))).1
        have h2 := blk3' ((ha wr.heap.size (Or.inr rfl) (by have := HWZ.out; omega)).trans HWK.out)
        exact ⟨h1, h2.2.1, h2.2.2⟩)
      clear x0 x1 x2 q1 q2 c1 c2
      have HTC := Lib.hid (show ∀ w', Below W.heap.size W w' → w'.cell? ⟨g, k * 3 + 1, none⟩ = some (.slice ds[k].t.A ds[k].t.ls.length ds[k].t.c) ∧ w'.cell? ⟨g, k * 3 + 2, none⟩ = some (.int .i64 ds[k].t.root) ∧ w'.frozen? ⟨g, k * 3 + 1, none⟩ = false ∧ w'.frozen? ⟨g, k * 3 + 2, none⟩ = false from fun w' hb => by
        have hown : w'.ownsRow (w.heap.size + 2) 36 3 (.slice (some ⟨g, 0, none⟩) ds.length vc) ds.length (dfL.all ds') := own_agree HO.out (fun x hx => by cases hx; exact (hb.block g (by have := HWZ.out; show g < _; omega)).trans (HWB.out.block g hg2))
        have h1 := (own_at3 hown k hlt').2
        rw [HRK.out] at h1
        exact ⟨h1.1, h1.2, World.ownsRow.frozenAt hown _, World.ownsRow.frozenAt hown _⟩)
      go_region_held3 (fun w' => w'.cell? ⟨w.heap.size, 0, none⟩ = some (.slice (some ⟨g, 0, none⟩) ds.length vc) ∧ w'.cell? ⟨wr.heap.size, 1, none⟩ = some (.slice ds[k].t.A ds[k].t.ls.length ds[k].t.c) ∧ w'.cell? ⟨wr.heap.size, 2, none⟩ = some (.int .i64 ds[k].t.root))
        (first | exact HSB.out _ (drew_agree _ _) | exact HSB.out _ HA3.out | exact HSB.out _ (HA4.out _ _))
        (((go_at_call 72; (with_reducible refine (copied_any ds[k].t.A ds[k].t.c ds[k].t.ls ds[k].t.root S _ (HRT.out.2.agree (drew_agree _ _)) HKK.out.1 HKK.out.2).mono ?_)); intro e w3 h3; obtain ⟨A1, c1, l1, r1, rfl, htr, hto, htb⟩ := TreePost.out h3; clear h3; have HTR := Lib.hid htr; have HTO := Lib.hid hto; have HB3 := Lib.hid (show Below W.heap.size W w3 from (Below.refl _ W).drew.trans htb); clear htr hto htb; obtain ⟨t1, t2, t3, t4⟩ := HTC.out _ HB3.out; have HA3 := Lib.hid (show Agree (fun x => x = w.heap.size ∨ x = wr.heap.size) W w3 from below_all HB3.out); have HA4 := Lib.hid (show ∀ u v, Agree (fun x => x = w.heap.size ∨ x = wr.heap.size) W ((w3.setCell ⟨g, k * 3 + 1, none⟩ u).setCell ⟨g, k * 3 + 2, none⟩ v) from fun u v x hx hxl => by have hg := HGN.out; have hxg : x ≠ g := (by omega); exact (Below.heap_setCell _ _ _ _ hxg).trans ((Below.heap_setCell _ _ _ _ hxg).trans (HA3.out x hx hxl)))))
      go_wp2_with fail
      have hgn := HGN.out; have hwz := HWZ.out; have hs3 := HB3.out.size
      have hkeep : ∀ x, x < wr.heap.size → x ≠ g → ((w3.setCell ⟨g, k * 3 + 1, none⟩ (.slice A1 l1.length c1)).setCell ⟨g, k * 3 + 2, none⟩ (.int .i64 r1)).heap[x]? = wr.heap[x]? := fun x h1 h2 => (Below.heap_setCell _ _ _ _ h2).trans ((Below.heap_setCell _ _ _ _ h2).trans ((HB3.out.block x (by omega)).trans (HWB.out.block x h1)))
      have hown3 : w3.ownsRow (w.heap.size + 2) 36 3 (.slice (some ⟨g, 0, none⟩) ds.length vc) ds.length (dfL.all ds') := own_agree HO.out (fun x hx => by cases hx; exact (HB3.out.block g (by show g < _; omega)).trans (HWB.out.block g hg2))
      have hk3 : ds'[k].name = ds[k].name := HNM.out k hlt' hlt
      refine ⟨⟨k + 1, ds'.set k ⟨ds[k].name, ⟨A1, c1, l1, r1⟩⟩, by omega, by go_num, Lib.hid (by rw [List.length_set]; exact HLN.out), Lib.hid ?_, Lib.hid ?_, Lib.hid ?_, Lib.hid ?_, Lib.hid ?_, Lib.hid ?_, Lib.hid ?_, Lib.hid ?_⟩, by simp [intOf]; omega⟩
      · rw [List.map_set, HND.out]
        apply List.ext_getElem?
        intro i
        rw [List.getElem?_set]
        by_cases e : k = i
        · subst e
          rw [if_pos rfl, if_pos (by simpa using hlt)]
          have h1 := HTR.out
          simp only [List.getElem?_map, List.getElem?_eq_getElem hlt, Option.map_some, Ld.df, h1]
          rfl
        · rw [if_neg e]
      · have h1 := (World.ownsRow.stored (World.ownsRow.stored hown3 (k * 3 + 1) (.slice A1 l1.length c1)).1 (k * 3 + 2) (.int .i64 r1)).1
        have h2 := all_set12 ds' k hlt' ⟨A1, c1, l1, r1⟩
        rw [hk3] at h2
        simp only at h2
        rw [h2] at h1
        exact h1
      · obtain ⟨Q, hQ1, hQ2, hQ3, hQ4⟩ := HQ.out
        refine ⟨fun j x => if j = k then W.heap.size ≤ x ∧ x < w3.heap.size else Q j x, fun j hj hjk => ?_, fun j x hx => ?_, fun i j x hij hi hjx => ?_, fun j x hj hx => ?_⟩
        · by_cases e : k = j
          · subst e
            rw [List.getElem_set_self]
            simp only [if_true]
            have h1 := HTO.out.mono (T := fun x => W.heap.size ≤ x ∧ x < w3.heap.size) (fun x h1 h2 => ⟨h2, h1⟩)
            exact h1.agree (fun x hx _ => (Below.heap_setCell _ _ _ _ (by show x ≠ g; omega)).trans (Below.heap_setCell _ _ _ _ (by show x ≠ g; omega)))
          · rw [List.getElem_set_ne e]
            have hj' : j < ds'.length := by simpa using hj
            have hne : ¬ j = k := fun h => e h.symm
            simp only [if_neg hne]
            exact (hQ1 j hj' (by omega)).agree (fun x hx _ => hkeep x (hQ2 j x hx).2.1 (fun e => (hQ2 j x hx).2.2 (by rw [e]; rfl)))
        · by_cases e : j = k
          · simp only [if_pos e] at hx
            exact ⟨by omega, by simpa using hx.2, fun e => by have e : some g = some x := e; injection e with e; omega⟩
          · simp only [if_neg e] at hx
            have := hQ2 j x hx
            exact ⟨this.1, by have h2 := this.2.1; simp; omega, this.2.2⟩
        · by_cases e : i = k
          · have e2 : ¬ j = k := fun h => hij (e.trans h.symm)
            simp only [if_pos e] at hi
            simp only [if_neg e2] at hjx
            have := hQ2 j x hjx
            omega
          · simp only [if_neg e] at hi
            by_cases e2 : j = k
            · simp only [if_pos e2] at hjx
              have := hQ2 i x hi
              omega
            · simp only [if_neg e2] at hjx
              exact hQ3 i j x hij hi hjx
        · have e : ¬ j = k := by omega
          simp only [if_neg e] at hx
          exact hQ4 j x (by omega) hx
      · intro j hj hj2 hjk
        rw [List.getElem_set_ne (by omega)]
        exact HRS.out j (by simpa using hj) hj2 (by omega)
      · intro j hj hj2
        by_cases e : k = j
        · subst e; rw [List.getElem_set_self]
        · rw [List.getElem_set_ne e]
          exact HNM.out j (by simpa using hj) hj2
      · exact (hkeep _ hgn.2.2.2 (fun e => hgn.1 e.symm)).trans HK1.out
      · exact (hkeep _ (heap_lt' HK2.out) (fun e => hgn.2.1 e.symm)).trans HK2.out
      · exact ((Below.step HBW.out HB3.out).setCell (p := ⟨g, k * 3 + 1, none⟩) (by show w.heap.size ≤ g; omega) _).setCell (p := ⟨g, k * 3 + 2, none⟩) (by show w.heap.size ≤ g; omega) _
    · obtain rfl : k = ds.length := by omega
      obtain ⟨q1, q2⟩ := blk1 HK1.out
      obtain ⟨s1, s2⟩ := blk1 HK2.out
      go_wp2_with fail
      refine bodyPost_ret (v := .agg #[.slice V ds.length vc]) (by simp [results, Tryd.results46, go_sem, s1]) rfl ?_
      have hag : Agree (fun x => w.heap.size + 2 ≤ x) wr (wr.setCell ⟨w.heap.size + 1, 0, none⟩ (.slice V ds.length vc)) := fun x hx _ => by
        have hx : w.heap.size + 2 ≤ x := hx
        exact Below.heap_setCell _ _ _ _ (by show x ≠ w.heap.size + 1; omega)
      refine ⟨V, vc, ds', by rw [HLN.out], HND.out, ⟨by rw [HLN.out]; omega, ?_, ?_⟩, ?_⟩
      · rw [HLN.out]
        exact ((own_ownS HO.out).agree hag).mono (fun x _ h => by have h : w.heap.size + 2 ≤ x := h; omega)
      · obtain ⟨Q, hQ1, hQ2, hQ3, hQ4⟩ := HQ.out
        refine ⟨Q, fun j hj => ⟨?_, ?_⟩, fun j x hx => by have := (hQ2 j x hx).1; omega, hQ3⟩
        · have hj2 : j < ds.length := by rw [HLN.out] at hj; exact hj
          rw [HNM.out j hj hj2]
          exact (HT.out.sub j hj2).1
        · exact (hQ1 j hj (by rw [HLN.out] at hj; exact hj)).agree (hag.mono (fun x _ hx => (hQ2 j x hx).1))
      · exact HB.out.setCell (p := ⟨w.heap.size + 1, 0, none⟩) (by simp) _
end Go.Proofs.YtbfjanfhgpgmdaaDoor
