/- The contract of gram.copied. -/
import Derived.Test.YtbfjanfhgpgmdaaDoorDp
import Derived.Test.YtbfjanfhgpgmdaaDoorDq
import Derived.Deep.RegionHeld3
import Derived.Deep.Cut
namespace Go.Proofs.YtbfjanfhgpgmdaaDoor
open Go.RowKit
set_option linter.unusedSimpArgs false
set_option linter.unusedVariables false

theorem own_at9 {w : World} {B g n c : Nat} {ls : List Ln} (h : w.ownsRow B 78 9 (.slice (some ⟨g, 0, none⟩) n c) n (ndL.all ls)) (k : Nat) (hk : k < ls.length) :
    w.cell? ⟨g, k * 9, none⟩ = some (.int .u8 ls[k].nd.kind) ∧ w.cell? ⟨g, k * 9 + 1, none⟩ = some (.int .u64 ls[k].nd.s0) ∧ w.cell? ⟨g, k * 9 + 2, none⟩ = some (.int .u64 ls[k].nd.s1) ∧ w.cell? ⟨g, k * 9 + 3, none⟩ = some (.int .u64 ls[k].nd.s2) ∧ w.cell? ⟨g, k * 9 + 4, none⟩ = some (.int .u64 ls[k].nd.s3) ∧
      w.cell? ⟨g, k * 9 + 5, none⟩ = some (.string ls[k].nd.text) ∧ w.cell? ⟨g, k * 9 + 6, none⟩ = some (.int .i64 ls[k].nd.mn) ∧ w.cell? ⟨g, k * 9 + 7, none⟩ = some (.int .i64 ls[k].nd.mx) ∧ w.cell? ⟨g, k * 9 + 8, none⟩ = some (.slice ls[k].A ls[k].nd.kids.length ls[k].c) := by
  have hn : n * 9 = ls.length * 9 := by have h1 := h.1; rw [ndL.all_length] at h1; exact h1.symm
  have hc : ∀ j u, j < 9 → (ndL.cells ls[k])[j]? = some u → w.cell? ⟨g, k * 9 + j, none⟩ = some u := fun j u hj hu => (World.ownsRow.cellAt h (k * 9 + j) (by omega)).trans ((ndL.all_at ls k j hk hj).trans hu)
  exact ⟨hc 0 _ (by decide) rfl, hc 1 _ (by decide) rfl, hc 2 _ (by decide) rfl, hc 3 _ (by decide) rfl, hc 4 _ (by decide) rfl, hc 5 _ (by decide) rfl, hc 6 _ (by decide) rfl, hc 7 _ (by decide) rfl, hc 8 _ (by decide) rfl⟩
theorem all_set8 (l : List Ln) (k : Nat) (hk : k < l.length) (A : Option Addr) (c : Nat) : (ndL.all l).set (k * 9 + 8) (.slice A l[k].nd.kids.length c) = ndL.all (l.set k ⟨l[k].nd, A, c⟩) := by
  have hlen : ∀ m : List Ln, (ndL.all m).length = m.length * 9 := fun m => ndL.all_length m
  apply List.ext_getElem?
  intro i
  by_cases hi : i < l.length * 9
  · have hq : i / 9 < l.length := by omega
    have h1 := ndL.all_at (l.set k ⟨l[k].nd, A, c⟩) (i / 9) (i % 9) (by simpa using hq) (show i % 9 < 9 by omega)
    have h2 := ndL.all_at l (i / 9) (i % 9) hq (show i % 9 < 9 by omega)
    rw [show i / 9 * ndL.size + i % 9 = i by show i / 9 * 9 + i % 9 = i; omega] at h1 h2
    rw [h1, List.getElem?_set]
    by_cases e : k * 9 + 8 = i
    · have e1 : i / 9 = k := by omega
      have e2 : i % 9 = 8 := by omega
      rw [if_pos e, if_pos (by rw [hlen]; omega)]
      simp only [e1, e2, List.getElem_set_self]
      rfl
    · rw [if_neg e, h2]
      by_cases e1 : i / 9 = k
      · simp only [e1, List.getElem_set_self]
        have h8 : i % 9 < 8 := by omega
        have : i % 9 = 0 ∨ i % 9 = 1 ∨ i % 9 = 2 ∨ i % 9 = 3 ∨ i % 9 = 4 ∨ i % 9 = 5 ∨ i % 9 = 6 ∨ i % 9 = 7 := by omega
        rcases this with h | h | h | h | h | h | h | h <;> rw [h] <;> rfl
      · rw [List.getElem_set_ne (fun h => e1 h.symm)]
  · rw [List.getElem?_eq_none (by rw [List.length_set, hlen]; omega), List.getElem?_eq_none (by rw [hlen, List.length_set]; omega)]
theorem set_blk2 {w : World} {b : Nat} {x y u : Value} {T : TypeId} (h : w.heap[b]? = some (.cells #[x, y] T (0, 0))) : (w.setCell ⟨b, 0, none⟩ u).heap[b]? = some (.cells #[u, y] T (0, 0)) := by
  have := heap_setCell_same w b 0 _ T u h
  simpa using this
/-- What has been copied: the first k nodes have kids of their own. -/
def CopyRel (w : World) (H : Nat) (V : Option Addr) (vc : Nat) (root : Int) (ls : List Ln) (i : Value) (wr : World) : Prop :=
  ∃ (k : Nat) (ls' : List Ln), k ≤ ls.length ∧ i = .int .i64 k ∧ Hid (ls'.length = ls.length) ∧ Hid (ls'.map Ln.nd = ls.map Ln.nd) ∧ Hid (wr.ownsRow (H + 2) 78 9 (.slice V ls.length vc) ls.length (ndL.all ls')) ∧
    Hid (∀ j (h : j < ls'.length), j < k → NdOwn wr (fun x => H + 2 ≤ x ∧ blkOf V ≠ some x) ls'[j]) ∧ Hid (∀ j (h : j < ls'.length) (h2 : j < ls.length), k ≤ j → ls'[j] = ls[j]) ∧
    Hid (wr.heap[H]? = some (.cells #[.slice V ls.length vc, .int .i64 root] 34 (0, 0))) ∧ Hid (wr.heap[H + 1]? = some (.cells #[.slice none 0 0, .int .i64 0] 34 (0, 0))) ∧ Hid (Below H w wr)

set_option maxRecDepth 100000 in
set_option maxHeartbeats 3200000 in
theorem copied_any (A : Option Addr) (c : Nat) (ls : List Ln) (root : Int) (S : Nat → Prop) (w : World) (hT : ndL.row w S A ls) (hl : ls.length ≤ 4294967296) (hkl : ∀ l ∈ ls, l.nd.kids.length ≤ 4294967296) :
    Calls Tryd.prog 72 #[.agg #[.slice A ls.length c, .int .i64 root]] w (TreePost ⟨ls.map Ln.nd, root⟩ w) := by
  have HT := Lib.hid hT; clear hT
  have HKL := Lib.hid hkl; clear hkl
  have HCL := Lib.hid (fun w' (h : ndL.row w' S A ls) => clone_nodes ls A c S w' h hl)
  unfold TreePost
  go_enter Tryd.func72, Tryd.ntmps72
  go_wp2_with (go_at_call 88; refine (HCL.out _ (HT.out.agree (below_all (bx2 w _ _)))).mono ?_; rintro e w1 ⟨V, vc, rfl, hown1, hb1⟩; have HO1 := Lib.hid hown1; have HB1 := Lib.hid hb1; obtain ⟨k1, k2⟩ := bx2_kept hb1; have HK1 := Lib.hid k1; have HK2 := Lib.hid k2; obtain ⟨q1, q2, q3, q4⟩ := blk2 HK1.out; clear hown1 hb1 k1 k2)
  have HBB := Lib.hid (Below.step (bx2 w _ _) HB1.out)
  have HOW := Lib.hid (show w1.ownsRow (w.heap.size + 2) 78 9 (.slice V ls.length vc) ls.length (ndL.all ls) by simpa using HO1.out)
  clear HO1
  have HVH := Lib.hid (show ∀ x, blkOf V = some x → w.heap.size + 2 ≤ x from fun x hx => (own_blk HOW.out x hx).1)
  go_loopw [12] (fun i wr => CopyRel w w.heap.size V vc root ls i wr) (fun i _ => ls.length - (intOf i).toNat)
  case atStart =>
    refine ⟨0, ls, by omega, rfl, Lib.hid rfl, Lib.hid rfl, Lib.hid (own_agree HOW.out (fun x hx => Below.heap_setCell _ _ _ _ (by have := HVH.out x hx; show x ≠ w.heap.size; omega))), Lib.hid (fun j _ hj => by omega), Lib.hid (fun j _ _ _ => rfl), Lib.hid (set_blk2 HK1.out), Lib.hid ((Below.heap_setCell _ _ _ _ (by show w.heap.size + 1 ≠ w.heap.size; omega)).trans HK2.out), Lib.hid (HBB.out.setCell (p := ⟨w.heap.size, 0, none⟩) (Nat.le_refl _) _)⟩
  case round =>
    clear q1 q2 q3 q4 HK1 HK2 HOW HB1 HBB
    obtain ⟨k, ls', hk, rfl, HLN, HND, HO, HOW, HRS, HK1, HK2, HB⟩ := hrel
    by_cases hlt : k < ls.length
    · have hlt' : k < ls'.length := by rw [HLN.out]; exact hlt
      obtain ⟨g, rfl, hg1, hg2⟩ := own_some HO.out (by omega)
      obtain ⟨x0, x1, x2, x3, x4, x5, x6, x7, x8⟩ := own_at9 HO.out k hlt'
      have HRK := Lib.hid (HRS.out k hlt' hlt (Nat.le_refl _))
      rw [HRK.out] at x0 x1 x2 x3 x4 x5 x6 x7 x8
      have c9 := World.ownsRow.frozenAt HO.out (k * 9 + 8)
      obtain ⟨q1, q2, q3, q4⟩ := blk2 HK1.out
      have i1 : (k : Int) < (ls.length : Int) := by omega
      have i2 : (0 : Int) ≤ (k : Int) := by omega
      have HKK := Lib.hid (HKL.out ls[k] (List.getElem_mem hlt))
      go_upto_region 5 with (fail)
      have hWK : (wr.alloc (.cells #[.int .u8 ls[k].nd.kind, .int .u64 ls[k].nd.s0, .int .u64 ls[k].nd.s1, .int .u64 ls[k].nd.s2, .int .u64 ls[k].nd.s3, .string ls[k].nd.text, .int .i64 ls[k].nd.mn, .int .i64 ls[k].nd.mx, .slice ls[k].A ls[k].nd.kids.length ls[k].c] 78)).heap[wr.heap.size]? = some (.cells #[.int .u8 ls[k].nd.kind, .int .u64 ls[k].nd.s0, .int .u64 ls[k].nd.s1, .int .u64 ls[k].nd.s2, .int .u64 ls[k].nd.s3, .string ls[k].nd.text, .int .i64 ls[k].nd.mn, .int .i64 ls[k].nd.mx, .slice ls[k].A ls[k].nd.kids.length ls[k].c] 78 (0, 0)) := bx_new wr _
      have hWB : Below wr.heap.size wr (wr.alloc (.cells #[.int .u8 ls[k].nd.kind, .int .u64 ls[k].nd.s0, .int .u64 ls[k].nd.s1, .int .u64 ls[k].nd.s2, .int .u64 ls[k].nd.s3, .string ls[k].nd.text, .int .i64 ls[k].nd.mn, .int .i64 ls[k].nd.mx, .slice ls[k].A ls[k].nd.kids.length ls[k].c] 78)) := bx1 wr _
      have hWZ : (wr.alloc (.cells #[.int .u8 ls[k].nd.kind, .int .u64 ls[k].nd.s0, .int .u64 ls[k].nd.s1, .int .u64 ls[k].nd.s2, .int .u64 ls[k].nd.s3, .string ls[k].nd.text, .int .i64 ls[k].nd.mn, .int .i64 ls[k].nd.mx, .slice ls[k].A ls[k].nd.kids.length ls[k].c] 78)).heap.size = wr.heap.size + 1 := by simp
      generalize (wr.alloc (.cells #[.int .u8 ls[k].nd.kind, .int .u64 ls[k].nd.s0, .int .u64 ls[k].nd.s1, .int .u64 ls[k].nd.s2, .int .u64 ls[k].nd.s3, .string ls[k].nd.text, .int .i64 ls[k].nd.mn, .int .i64 ls[k].nd.mx, .slice ls[k].A ls[k].nd.kids.length ls[k].c] 78)) = W at *
      have HWK := Lib.hid hWK; have HWB := Lib.hid hWB; have HWZ := Lib.hid hWZ
      clear hWK hWB hWZ
      have HBW := Lib.hid (Below.step HB.out (HWB.out.mono (Nat.le_refl _)))
      have HRK' := Lib.hid (ndSub (HT.out.agree (below_all HBW.out)) k hlt)
      have HWF := Lib.hid (ndWf HT.out k hlt)
      have HGN := Lib.hid (show g ≠ w.heap.size ∧ g ≠ w.heap.size + 1 ∧ g ≠ wr.heap.size ∧ w.heap.size < wr.heap.size from ⟨by omega, by omega, by omega, by omega⟩)
      have HSB := Lib.hid (show ∀ w', Agree (fun x => x = w.heap.size ∨ x = wr.heap.size) W w' → w'.cell? ⟨w.heap.size, 0, none⟩ = some (.slice (some ⟨g, 0, none⟩) ls.length vc) ∧ w'.cell? ⟨wr.heap.size, 8, none⟩ = some (.slice ls[k].A ls[k].nd.kids.length ls[k].c) from fun w' ha => by
        have h1 := (blk2 ((ha w.heap.size (Or.inl rfl) (by have := HWZ.out; have := HGN.out.2.2.2; omega)).trans ((HWB.out.block _ HGN.out.2.2.2).trans HK1.out))).1
        have h2 := blk9 ((ha wr.heap.size (Or.inr rfl) (by have := HWZ.out; omega)).trans HWK.out)
        exact ⟨h1, h2.2.2.2.2.2.2.2.2.1⟩)
      clear x0 x1 x2 x3 x4 x5 x6 x7 x8 q1 q2 q3 q4
      have HTC := Lib.hid (show ∀ w', Below W.heap.size W w' → w'.cell? ⟨g, k * 9 + 8, none⟩ = some (.slice ls[k].A ls[k].nd.kids.length ls[k].c) ∧ w'.frozen? ⟨g, k * 9 + 8, none⟩ = false from fun w' hb => by
        have hown : w'.ownsRow (w.heap.size + 2) 78 9 (.slice (some ⟨g, 0, none⟩) ls.length vc) ls.length (ndL.all ls') := own_agree HO.out (fun x hx => by cases hx; exact (hb.block g (by have := HWZ.out; show g < _; omega)).trans (HWB.out.block g hg2))
        have h1 := (own_at9 hown k hlt').2.2.2.2.2.2.2.2
        rw [HRK.out] at h1
        exact ⟨h1, World.ownsRow.frozenAt hown _⟩)
      clear c9
      go_region_held3 (fun w' => w'.cell? ⟨w.heap.size, 0, none⟩ = some (.slice (some ⟨g, 0, none⟩) ls.length vc) ∧ w'.cell? ⟨wr.heap.size, 8, none⟩ = some (.slice ls[k].A ls[k].nd.kids.length ls[k].c))
        (first | exact HSB.out _ (drew_agree _ _) | exact HSB.out _ HA3.out | exact HSB.out _ (HA4.out _))
        (((go_at_call 89; (with_reducible refine (clone_ints ls[k].nd.kids ls[k].A ls[k].c S _ (HRK'.out.agree (drew_agree _ _)) HKK.out).mono ?_)); intro e w3 h3; obtain ⟨KV, kvc, rfl, hko, hkb⟩ := h3; have HKO := Lib.hid hko; have HB3 := Lib.hid (show Below W.heap.size W w3 from (Below.refl _ W).drew.trans hkb); clear hko hkb; obtain ⟨t1, t2⟩ := HTC.out _ HB3.out; have HA3 := Lib.hid (show Agree (fun x => x = w.heap.size ∨ x = wr.heap.size) W w3 from below_all HB3.out); have HA4 := Lib.hid (show ∀ u, Agree (fun x => x = w.heap.size ∨ x = wr.heap.size) W (w3.setCell ⟨g, k * 9 + 8, none⟩ u) from fun u => HA3.out.trans ((set_agree w3 ⟨g, k * 9 + 8, none⟩ u).mono (fun x _ hx => by have := HGN.out; show x ≠ g; omega)) HB3.out.size)))
      go_wp2_with fail
      have hgn := HGN.out; have hwz := HWZ.out; have hs3 := HB3.out.size
      have hkeep : ∀ x, x < wr.heap.size → x ≠ g → (w3.setCell ⟨g, k * 9 + 8, none⟩ (.slice KV ls[k].nd.kids.length kvc)).heap[x]? = wr.heap[x]? := fun x h1 h2 => (Below.heap_setCell _ _ _ _ h2).trans ((HB3.out.block x (by omega)).trans (HWB.out.block x h1))
      have hown3 : w3.ownsRow (w.heap.size + 2) 78 9 (.slice (some ⟨g, 0, none⟩) ls.length vc) ls.length (ndL.all ls') := own_agree HO.out (fun x hx => by cases hx; exact (HB3.out.block g (by show g < _; omega)).trans (HWB.out.block g hg2))
      have hk3 : ls'[k].nd = ls[k].nd := by rw [HRK.out]
      refine ⟨⟨k + 1, ls'.set k ⟨ls[k].nd, KV, kvc⟩, by omega, by go_num, Lib.hid (by rw [List.length_set]; exact HLN.out), Lib.hid ?_, Lib.hid ?_, Lib.hid ?_, Lib.hid ?_, Lib.hid ?_, Lib.hid ?_, Lib.hid ?_⟩, by simp [intOf]; omega⟩
      · rw [List.map_set, HND.out]
        apply List.ext_getElem?
        intro i
        rw [List.getElem?_set]
        by_cases e : k = i
        · subst e; rw [if_pos rfl, if_pos (by simpa using hlt)]; simp [hlt]
        · rw [if_neg e]
      · have h1 := (World.ownsRow.stored hown3 (k * 9 + 8) (.slice KV ls[k].nd.kids.length kvc)).1
        have h2 := all_set8 ls' k hlt' KV kvc
        rw [hk3] at h2
        rw [h2] at h1
        exact h1
      · intro j hj hjk
        by_cases e : k = j
        · subst e
          rw [List.getElem_set_self]
          refine ⟨HWF.out, ?_⟩
          have h1 := (own_ownS HKO.out).mono (T := fun x => wr.heap.size + 1 ≤ x) (fun x _ h => by have h : W.heap.size ≤ x := h; omega)
          exact (h1.agree ((set_agree w3 ⟨g, k * 9 + 8, none⟩ _).mono (fun x _ hx => by have hx : wr.heap.size + 1 ≤ x := hx; show x ≠ g; omega))).mono (fun x _ hx => by have hx : wr.heap.size + 1 ≤ x := hx; exact ⟨by omega, fun e => by have e : some g = some x := e; injection e with e; omega⟩)
        · rw [List.getElem_set_ne e]
          have hj' : j < ls'.length := by simpa using hj
          have h1 := (HOW.out j hj' (by omega)).mono (T := fun x => w.heap.size + 2 ≤ x ∧ g ≠ x ∧ x < wr.heap.size) (fun x h1 h2 => ⟨h2.1, fun e => h2.2 (by rw [e]; rfl), h1⟩)
          exact (h1.agree (fun x hx _ => hkeep x hx.2.2 (fun e => hx.2.1 e.symm))).mono (fun x _ hx => ⟨hx.1, fun e => hx.2.1 (by cases e; rfl)⟩)
      · intro j hj hj2 hjk
        rw [List.getElem_set_ne (by omega)]
        exact HRS.out j (by simpa using hj) hj2 (by omega)
      · exact (hkeep _ hgn.2.2.2 (fun e => hgn.1 e.symm)).trans HK1.out
      · exact (hkeep _ (heap_lt' HK2.out) (fun e => hgn.2.1 e.symm)).trans HK2.out
      · exact (Below.step HBW.out HB3.out).setCell (p := ⟨g, k * 9 + 8, none⟩) (by show w.heap.size ≤ g; omega) _
    · obtain rfl : k = ls.length := by omega
      obtain ⟨q1, q2, q3, q4⟩ := blk2 HK1.out
      obtain ⟨s1, s2, s3, s4⟩ := blk2 HK2.out
      go_wp2_with fail
      refine bodyPost_ret (v := .agg #[.slice V ls.length vc, .int .i64 root]) (by simp [results, Tryd.results72, go_sem, s1, s2]) rfl ?_
      have hag : Agree (fun x => w.heap.size + 2 ≤ x) wr ((wr.setCell ⟨w.heap.size + 1, 0, none⟩ (.slice V ls.length vc)).setCell ⟨w.heap.size + 1, 1, none⟩ (.int .i64 root)) := fun x hx _ => by
        have hx : w.heap.size + 2 ≤ x := hx
        exact (Below.heap_setCell _ _ _ _ (by show x ≠ w.heap.size + 1; omega)).trans (Below.heap_setCell _ _ _ _ (by show x ≠ w.heap.size + 1; omega))
      refine ⟨⟨V, vc, ls', root⟩, by show _ = Ending.returned (.agg #[.slice _ ls'.length _, _]); rw [HLN.out], ?_, ⟨?_, ?_, ?_⟩, ?_⟩
      · simp only [Lt.tr]; rw [HND.out]
      · show ls'.length ≤ _; rw [HLN.out]; omega
      · show OwnS _ _ _ _ _ ls'.length vc _
        rw [HLN.out]
        exact ((own_ownS HO.out).agree hag).mono (fun x _ h => by have h : w.heap.size + 2 ≤ x := h; omega)
      · intro l hl'
        obtain ⟨j, hj, rfl⟩ := List.mem_iff_getElem.1 hl'
        exact (((HOW.out j hj (by rw [HLN.out] at hj; exact hj)).mono (T := fun x => w.heap.size + 2 ≤ x) (fun x _ h => h.1)).agree hag).mono (fun x _ h => by have h : w.heap.size + 2 ≤ x := h; omega)
      · exact (HB.out.setCell (p := ⟨w.heap.size + 1, 0, none⟩) (by simp) _).setCell (p := ⟨w.heap.size + 1, 1, none⟩) (by simp) _
end Go.Proofs.YtbfjanfhgpgmdaaDoor
