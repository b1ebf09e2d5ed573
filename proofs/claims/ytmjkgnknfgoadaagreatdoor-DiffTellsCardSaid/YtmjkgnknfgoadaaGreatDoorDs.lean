/- Facts of a row that lies there; the contracts of slices.Clone over nodes and rules, tree.Copied, gram.Copy. -/
import Derived.Test.YtmjkgnknfgoadaaGreatDoorDn
import Derived.WalkSpells
import Derived.Deep.RegionHeld3
import Derived.Deep.Cut
namespace Go.Proofs.YtmjkgnknfgoadaaGreatDoor
open Go.RowKit
set_option linter.unusedSimpArgs false
set_option linter.unusedVariables false
theorem Below.drewN'' {B : Nat} {a w : World} (h : Below B a w) (n : Nat) : Below B a (w.drewN n) := by
  induction n generalizing w with
  | zero => exact h
  | succ n ih => exact (ih h).drew
theorem intAt {w : World} {S : Nat → Prop} {A : Option Addr} {l : List Int} (h : intL.row w S A l) (hl : 0 < l.length) : ∃ b o, A = some ⟨b, o, none⟩ ∧ ∀ j, j < l.length → w.cell? ⟨b, o + j, none⟩ = some (.int .i64 (l.getD j 0)) := by
  obtain ⟨b, o, rfl, _⟩ := intRow h 0 hl
  refine ⟨b, o, rfl, fun j hj => ?_⟩
  obtain ⟨b', o', e, _, _, hc⟩ := intRow h j hj
  cases e
  rw [hc]; simp [List.getD, hj]
set_option maxRecDepth 100000 in
theorem field_nodes (w : World) (A : Option Addr) (n c : Nat) (r : Int) : (Instr.field 48 (.agg #[.slice A n c, .int .i64 r]) 0).run Tryz.prog w = .ok (.slice A n c) w := by
  kernel_rfl
attribute [local go_sem] field_nodes
theorem TreePost.out {t : Tr} {w w' : World} {e : Ending} (h : TreePost t w e w') : ∃ (A : Option Addr) (c : Nat) (ls : List Ln) (r : Int), e = .returned (.agg #[.slice A ls.length c, .int .i64 r]) ∧ Lt.tr ⟨A, c, ls, r⟩ = t ∧ TreeOwn w' (w.heap.size ≤ ·) ⟨A, c, ls, r⟩ ∧ Below w.heap.size w w' := by
  obtain ⟨⟨A, c, ls, r⟩, h1, h2, h3, h4⟩ := h
  exact ⟨A, c, ls, r, h1, h2, h3, h4⟩
theorem sameT_no_left {a b : Tr} (h : rightT a = false) : sameT a b = false := by simp [sameT, h]
theorem sameT_no_right {a b : Tr} (h : rightT b = false) : sameT a b = false := by simp [sameT, h]
theorem sameT_yes {a b : Tr} (h : rightT a = true) (k : rightT b = true) : sameT a b = decide (takenL a.nodes a.root.toNat = takenL b.nodes b.root.toNat) := by simp [sameT, h, k]
end Go.Proofs.YtmjkgnknfgoadaaGreatDoor
/- The contracts of slices.Clone over nodes and rules. -/
namespace Go.Proofs.YtmjkgnknfgoadaaGreatDoor
open Go.RowKit
set_option linter.unusedSimpArgs false
set_option linter.unusedVariables false
theorem infoDef : (Tryz.prog.info? 50).map (fun i => (i.zero, i.size, i.bytes)) = some (some (.agg #[.string ByteArray.empty, .slice none 0 0, .int .i64 0]), 3, 48) := by kernel_rfl
theorem row_none {α : Type} {L : Lay α} {w : World} {S : Nat → Prop} {l : List α} (h0 : 0 < L.size) (h : L.row w S none l) : l = [] := by
  cases l with
  | nil => rfl
  | cons x r =>
    obtain ⟨b, o, e, _⟩ := h.at h0 0 (by simp)
    cases e
set_option maxRecDepth 100000 in
set_option maxHeartbeats 800000 in
theorem clone_nodes (ls : List Ln) (A : Option Addr) (c : Nat) (S : Nat → Prop) (w : World) (hA : ndL.row w S A ls) (hl : ls.length ≤ 4294967296) :
    Calls Tryz.prog 133 #[.slice A ls.length c] w fun e w' => ∃ V vc, e = .returned (.slice V ls.length vc) ∧ w'.ownsRow w.heap.size 71 9 (.slice V ls.length vc) ls.length (ndL.all ls) ∧ Below w.heap.size w w' := by
  obtain ⟨j0, hj, hy0, hy1, hy2⟩ := info_parts infoNode
  have hzc : (Value.agg #[.int .u8 0, .int .u64 0, .int .u64 0, .int .u64 0, .int .u64 0, .string ByteArray.empty, .int .i64 0, .int .i64 0, .slice none 0 0]).cells.size = 9 := rfl
  have heq := fun (w : World) (a : Option Addr) (l c : Nat) => Lib.run_eql_slice_nil (P := Tryz.prog) w 46 71 a l c 0 0 Tryz.underlying46
  cases A with
  | none =>
    obtain rfl := row_none (by decide) hA
    go_enter Tryz.func133, Tryz.ntmps133
    go_wp2_with fail
    go_ret
    exact ⟨none, 0, rfl, World.ownsRow_nil _ _ _ _, Below.refl _ _⟩
  | some ad =>
    have HO := Lib.hid (show (w.alloc (.cells #[] 71)).ownsRow w.heap.size 71 9 (.slice (some ⟨w.heap.size, 0, none⟩) 0 0) 0 [] from ⟨rfl, .inr ⟨w.heap.size, 0, #[], rfl, Nat.le_refl _, bx_new w _, Nat.le_refl _, by unfold maxLen; omega, rfl, rfl⟩⟩)
    have HA := Lib.hid (hA.below (bx1 w (.cells #[] 71))); clear hA
    have F := Lib.hid (show 0 + ls.length ≤ maxLen ∧ (0 + ls.length) * 96 ≤ 140737488355328 from ⟨by unfold maxLen; omega, by omega⟩)
    go_enter Tryz.func133, Tryz.ntmps133
    go_wp2_with (at_builtin; refine wpList_append_at _ rfl (.tmp 5) (.tmp 6) 46 rfl w.heap.size 71 j0 _ 9 96 Tryz.underlying46 hj hy0 hy1 hy2 hzc (by decide) (some ⟨w.heap.size, 0, none⟩) 0 0 [] rfl HO.out (some ad) ls.length c (ndL.all ls) rfl (ndL.all_length ls) HA.out.rowAt (ndL.all_one' ls) F.out.1 F.out.2 (by simp) ?_; intro V vc w2 HO2 HG2 HA2)
    go_ret
    refine ⟨V, vc, rfl, by have h := HO2.out; rw [Nat.zero_add, List.nil_append] at h; exact h, ?_⟩
    exact (bx1 w _).trans ((Below.refl w.heap.size _).grown HG2.out (by simp) (fun k e => by cases e; exact Nat.le_refl _))
set_option maxRecDepth 100000 in
set_option maxHeartbeats 800000 in
theorem clone_defs (ls : List Ld) (A : Option Addr) (c : Nat) (S : Nat → Prop) (w : World) (hA : dfL.row w S A ls) (hl : ls.length ≤ 4294967296) :
    Calls Tryz.prog 132 #[.slice A ls.length c] w fun e w' => ∃ V vc, e = .returned (.slice V ls.length vc) ∧ w'.ownsRow w.heap.size 50 3 (.slice V ls.length vc) ls.length (dfL.all ls) ∧ Below w.heap.size w w' := by
  obtain ⟨j0, hj, hy0, hy1, hy2⟩ := info_parts infoDef
  have hzc : (Value.agg #[.string ByteArray.empty, .slice none 0 0, .int .i64 0]).cells.size = 3 := rfl
  have heq := fun (w : World) (a : Option Addr) (l c : Nat) => Lib.run_eql_slice_nil (P := Tryz.prog) w 22 50 a l c 0 0 Tryz.underlying22
  cases A with
  | none =>
    obtain rfl := row_none (by decide) hA
    go_enter Tryz.func132, Tryz.ntmps132
    go_wp2_with fail
    go_ret
    exact ⟨none, 0, rfl, World.ownsRow_nil _ _ _ _, Below.refl _ _⟩
  | some ad =>
    have HO := Lib.hid (show (w.alloc (.cells #[] 50)).ownsRow w.heap.size 50 3 (.slice (some ⟨w.heap.size, 0, none⟩) 0 0) 0 [] from ⟨rfl, .inr ⟨w.heap.size, 0, #[], rfl, Nat.le_refl _, bx_new w _, Nat.le_refl _, by unfold maxLen; omega, rfl, rfl⟩⟩)
    have HA := Lib.hid (hA.below (bx1 w (.cells #[] 50))); clear hA
    have F := Lib.hid (show 0 + ls.length ≤ maxLen ∧ (0 + ls.length) * 48 ≤ 140737488355328 from ⟨by unfold maxLen; omega, by omega⟩)
    go_enter Tryz.func132, Tryz.ntmps132
    go_wp2_with (at_builtin; refine wpList_append_at _ rfl (.tmp 5) (.tmp 6) 22 rfl w.heap.size 50 j0 _ 3 48 Tryz.underlying22 hj hy0 hy1 hy2 hzc (by decide) (some ⟨w.heap.size, 0, none⟩) 0 0 [] rfl HO.out (some ad) ls.length c (dfL.all ls) rfl (dfL.all_length ls) HA.out.rowAt (dfL.all_one' ls) F.out.1 F.out.2 (by simp) ?_; intro V vc w2 HO2 HG2 HA2)
    go_ret
    refine ⟨V, vc, rfl, by have h := HO2.out; rw [Nat.zero_add, List.nil_append] at h; exact h, ?_⟩
    exact (bx1 w _).trans ((Below.refl w.heap.size _).grown HG2.out (by simp) (fun k e => by cases e; exact Nat.le_refl _))
theorem clone_ints (l : List Int) (A : Option Addr) (c : Nat) (S : Nat → Prop) (w : World) (hA : intL.row w S A l) (hl : l.length ≤ 4294967296) :
    Calls Tryz.prog 134 #[.slice A l.length c] w fun e w' => ∃ V vc, e = .returned (.slice V l.length vc) ∧ w'.ownsRow w.heap.size 3 1 (.slice V l.length vc) l.length (intL.all l) ∧ Below w.heap.size w w' := by
  cases A with
  | none =>
    obtain rfl := row_none (by decide) hA
    exact (Tryz.slices_Clone_int_nil 0 c w).mono fun e w' ⟨he, hw⟩ => ⟨none, 0, he, by rw [hw]; exact World.ownsRow_nil _ _ _ _, by rw [hw]; exact Below.refl _ _⟩
  | some ad =>
    by_cases h0 : 0 < l.length
    · obtain ⟨b, o, e, hc⟩ := intAt hA h0
      cases e
      refine (Tryz.slices_Clone_int b o l.length c l w (Nat.le_refl _) (by omega) hc).mono fun e w' ⟨v, he, ho, _, hb⟩ => ?_
      obtain ⟨V, vc, rfl⟩ := ownsRow_slice ho
      exact ⟨V, vc, he, by rw [List.take_length] at ho; rw [intL_all]; exact ho, hb⟩
    · obtain rfl : l = [] := List.eq_nil_of_length_eq_zero (by omega)
      refine (Tryz.slices_Clone_int_zero ad c w).mono fun e w' ⟨v, he, ho, _, hb⟩ => ?_
      obtain ⟨V, vc, rfl⟩ := ownsRow_slice ho
      exact ⟨V, vc, he, ho, hb⟩
end Go.Proofs.YtmjkgnknfgoadaaGreatDoor
/- The contract of gram.copied. -/
namespace Go.Proofs.YtmjkgnknfgoadaaGreatDoor
open Go.RowKit
set_option linter.unusedSimpArgs false
set_option linter.unusedVariables false
theorem own_at9 {w : World} {B g n c : Nat} {ls : List Ln} (h : w.ownsRow B 71 9 (.slice (some ⟨g, 0, none⟩) n c) n (ndL.all ls)) (k : Nat) (hk : k < ls.length) :
    w.cell? ⟨g, k * 9, none⟩ = some (.int .u8 ls[k].nd.kind) ∧ w.cell? ⟨g, k * 9 + 1, none⟩ = some (.int .u64 ls[k].nd.s0) ∧ w.cell? ⟨g, k * 9 + 2, none⟩ = some (.int .u64 ls[k].nd.s1) ∧ w.cell? ⟨g, k * 9 + 3, none⟩ = some (.int .u64 ls[k].nd.s2) ∧ w.cell? ⟨g, k * 9 + 4, none⟩ = some (.int .u64 ls[k].nd.s3) ∧
      w.cell? ⟨g, k * 9 + 5, none⟩ = some (.string ls[k].nd.text) ∧ w.cell? ⟨g, k * 9 + 6, none⟩ = some (.int .i64 ls[k].nd.mn) ∧ w.cell? ⟨g, k * 9 + 7, none⟩ = some (.int .i64 ls[k].nd.mx) ∧ w.cell? ⟨g, k * 9 + 8, none⟩ = some (.slice ls[k].A ls[k].nd.kids.length ls[k].c) := by
  have hn : n * 9 = ls.length * 9 := by have h1 := h.1; rw [ndL.all_length] at h1; exact h1.symm
  have hc : ∀ j u, j < 9 → (ndL.cells ls[k])[j]? = some u → w.cell? ⟨g, k * 9 + j, none⟩ = some u := fun j u hj hu => (World.ownsRow.cellAt h (k * 9 + j) (by omega)).trans ((ndL.all_at ls k j hk hj).trans hu)
  exact ⟨hc 0 _ (by decide) rfl, hc 1 _ (by decide) rfl, hc 2 _ (by decide) rfl, hc 3 _ (by decide) rfl, hc 4 _ (by decide) rfl, hc 5 _ (by decide) rfl, hc 6 _ (by decide) rfl, hc 7 _ (by decide) rfl, hc 8 _ (by decide) rfl⟩
theorem all_set8 (l : List Ln) (k : Nat) (hk : k < l.length) (A : Option Addr) (c : Nat) : (ndL.all l).set (k * 9 + 8) (.slice A l[k].nd.kids.length c) = ndL.all (l.set k ⟨l[k].nd, A, c⟩) := by
  have hlen : ∀ m : List Ln, (ndL.all m).length = m.length * 9 := fun m => ndL.all_length m
  apply List.ext_getElem?
  intro i
  by_cases hi : i < l.length * 9
  · have hq : i / 9 < l.length := by omega
    have h1 := ndL.all_at (l.set k ⟨l[k].nd, A, c⟩) (i / 9) (i % 9) (by simpa using hq) (show i % 9 < 9 by omega)
    have h2 := ndL.all_at l (i / 9) (i % 9) hq (show i % 9 < 9 by omega)
    rw [show i / 9 * ndL.size + i % 9 = i by show i / 9 * 9 + i % 9 = i; omega] at h1 h2
    rw [h1, List.getElem?_set]
    by_cases e : k * 9 + 8 = i
    · have e1 : i / 9 = k := by omega
      have e2 : i % 9 = 8 := by omega
      rw [if_pos e, if_pos (by rw [hlen]; omega)]
      simp only [e1, e2, List.getElem_set_self]
      rfl
    · rw [if_neg e, h2]
      by_cases e1 : i / 9 = k
      · simp only [e1, List.getElem_set_self]
        have h8 : i % 9 < 8 := by omega
        have : i % 9 = 0 ∨ i % 9 = 1 ∨ i % 9 = 2 ∨ i % 9 = 3 ∨ i % 9 = 4 ∨ i % 9 = 5 ∨ i % 9 = 6 ∨ i % 9 = 7 := by omega
        rcases this with h | h | h | h | h | h | h | h <;> rw [h] <;> rfl
      · rw [List.getElem_set_ne (fun h => e1 h.symm)]
  · rw [List.getElem?_eq_none (by rw [List.length_set, hlen]; omega), List.getElem?_eq_none (by rw [hlen, List.length_set]; omega)]
theorem set_blk2 {w : World} {b : Nat} {x y u : Value} {T : TypeId} (h : w.heap[b]? = some (.cells #[x, y] T (0, 0))) : (w.setCell ⟨b, 0, none⟩ u).heap[b]? = some (.cells #[u, y] T (0, 0)) := by
  have := heap_setCell_same w b 0 _ T u h
  simpa using this
def CopyRel (w : World) (H : Nat) (V : Option Addr) (vc : Nat) (root : Int) (ls : List Ln) (i : Value) (wr : World) : Prop :=
  ∃ (k : Nat) (ls' : List Ln), k ≤ ls.length ∧ i = .int .i64 k ∧ Hid (ls'.length = ls.length) ∧ Hid (ls'.map Ln.nd = ls.map Ln.nd) ∧ Hid (wr.ownsRow (H + 2) 71 9 (.slice V ls.length vc) ls.length (ndL.all ls')) ∧
    Hid (∀ j (h : j < ls'.length), j < k → NdOwn wr (fun x => H + 2 ≤ x ∧ blkOf V ≠ some x) ls'[j]) ∧ Hid (∀ j (h : j < ls'.length) (h2 : j < ls.length), k ≤ j → ls'[j] = ls[j]) ∧
    Hid (wr.heap[H]? = some (.cells #[.slice V ls.length vc, .int .i64 root] 48 (0, 0))) ∧ Hid (wr.heap[H + 1]? = some (.cells #[.slice none 0 0, .int .i64 0] 48 (0, 0))) ∧ Hid (Below H w wr)
set_option maxRecDepth 100000 in
set_option maxHeartbeats 3200000 in
theorem copied_any (A : Option Addr) (c : Nat) (ls : List Ln) (root : Int) (S : Nat → Prop) (w : World) (hT : ndL.row w S A ls) (hl : ls.length ≤ 4294967296) (hkl : ∀ l ∈ ls, l.nd.kids.length ≤ 4294967296) :
    Calls Tryz.prog 102 #[.agg #[.slice A ls.length c, .int .i64 root]] w (TreePost ⟨ls.map Ln.nd, root⟩ w) := by
  have HT := Lib.hid hT; clear hT
  have HKL := Lib.hid hkl; clear hkl
  have HCL := Lib.hid (fun w' (h : ndL.row w' S A ls) => clone_nodes ls A c S w' h hl)
  unfold TreePost
  go_enter Tryz.func102, Tryz.ntmps102
  go_wp2_with (go_at_call 133; refine (HCL.out _ (HT.out.agree (below_all (bx2 w _ _)))).mono ?_; rintro e w1 ⟨V, vc, rfl, hown1, hb1⟩; have HO1 := Lib.hid hown1; have HB1 := Lib.hid hb1; obtain ⟨k1, k2⟩ := bx2_kept hb1; have HK1 := Lib.hid k1; have HK2 := Lib.hid k2; obtain ⟨q1, q2, q3, q4⟩ := blk2 HK1.out; clear hown1 hb1 k1 k2)
  have HBB := Lib.hid (Below.step (bx2 w _ _) HB1.out)
  have HOW := Lib.hid (show w1.ownsRow (w.heap.size + 2) 71 9 (.slice V ls.length vc) ls.length (ndL.all ls) by simpa using HO1.out)
  clear HO1
  have HVH := Lib.hid (show ∀ x, blkOf V = some x → w.heap.size + 2 ≤ x from fun x hx => (own_blk HOW.out x hx).1)
  go_loopw [12] (fun i wr => CopyRel w w.heap.size V vc root ls i wr) (fun i _ => ls.length - (intOf i).toNat)
  case atStart =>
    refine ⟨0, ls, by omega, rfl, Lib.hid rfl, Lib.hid rfl, Lib.hid (own_agree HOW.out (fun x hx => Below.heap_setCell _ _ _ _ (by have := HVH.out x hx; show x ≠ w.heap.size; omega))), Lib.hid (fun j _ hj => by omega), Lib.hid (fun j _ _ _ => rfl), Lib.hid (set_blk2 HK1.out), Lib.hid ((Below.heap_setCell _ _ _ _ (by show w.heap.size + 1 ≠ w.heap.size; omega)).trans HK2.out), Lib.hid (HBB.out.setCell (p := ⟨w.heap.size, 0, none⟩) (Nat.le_refl _) _)⟩
  case round =>
    clear q1 q2 q3 q4 HK1 HK2 HOW HB1 HBB
    obtain ⟨k, ls', hk, rfl, HLN, HND, HO, HOW, HRS, HK1, HK2, HB⟩ := hrel
    by_cases hlt : k < ls.length
    · have hlt' : k < ls'.length := by rw [HLN.out]; exact hlt
      obtain ⟨g, rfl, hg1, hg2⟩ := own_some HO.out (by omega)
      obtain ⟨x0, x1, x2, x3, x4, x5, x6, x7, x8⟩ := own_at9 HO.out k hlt'
      have HRK := Lib.hid (HRS.out k hlt' hlt (Nat.le_refl _))
      rw [HRK.out] at x0 x1 x2 x3 x4 x5 x6 x7 x8
      have c9 := World.ownsRow.frozenAt HO.out (k * 9 + 8)
      obtain ⟨q1, q2, q3, q4⟩ := blk2 HK1.out
      have i1 : (k : Int) < (ls.length : Int) := by omega
      have i2 : (0 : Int) ≤ (k : Int) := by omega
      have HKK := Lib.hid (HKL.out ls[k] (List.getElem_mem hlt))
      go_upto_region 5 with (fail)
      have hWK : (wr.alloc (.cells #[.int .u8 ls[k].nd.kind, .int .u64 ls[k].nd.s0, .int .u64 ls[k].nd.s1, .int .u64 ls[k].nd.s2, .int .u64 ls[k].nd.s3, .string ls[k].nd.text, .int .i64 ls[k].nd.mn, .int .i64 ls[k].nd.mx, .slice ls[k].A ls[k].nd.kids.length ls[k].c] 71)).heap[wr.heap.size]? = some (.cells #[.int .u8 ls[k].nd.kind, .int .u64 ls[k].nd.s0, .int .u64 ls[k].nd.s1, .int .u64 ls[k].nd.s2, .int .u64 ls[k].nd.s3, .string ls[k].nd.text, .int .i64 ls[k].nd.mn, .int .i64 ls[k].nd.mx, .slice ls[k].A ls[k].nd.kids.length ls[k].c] 71 (0, 0)) := bx_new wr _
      have hWB : Below wr.heap.size wr (wr.alloc (.cells #[.int .u8 ls[k].nd.kind, .int .u64 ls[k].nd.s0, .int .u64 ls[k].nd.s1, .int .u64 ls[k].nd.s2, .int .u64 ls[k].nd.s3, .string ls[k].nd.text, .int .i64 ls[k].nd.mn, .int .i64 ls[k].nd.mx, .slice ls[k].A ls[k].nd.kids.length ls[k].c] 71)) := bx1 wr _
      have hWZ : (wr.alloc (.cells #[.int .u8 ls[k].nd.kind, .int .u64 ls[k].nd.s0, .int .u64 ls[k].nd.s1, .int .u64 ls[k].nd.s2, .int .u64 ls[k].nd.s3, .string ls[k].nd.text, .int .i64 ls[k].nd.mn, .int .i64 ls[k].nd.mx, .slice ls[k].A ls[k].nd.kids.length ls[k].c] 71)).heap.size = wr.heap.size + 1 := by simp
      generalize (wr.alloc (.cells #[.int .u8 ls[k].nd.kind, .int .u64 ls[k].nd.s0, .int .u64 ls[k].nd.s1, .int .u64 ls[k].nd.s2, .int .u64 ls[k].nd.s3, .string ls[k].nd.text, .int .i64 ls[k].nd.mn, .int .i64 ls[k].nd.mx, .slice ls[k].A ls[k].nd.kids.length ls[k].c] 71)) = W at *
      have HWK := Lib.hid hWK; have HWB := Lib.hid hWB; have HWZ := Lib.hid hWZ
      clear hWK hWB hWZ
      have HBW := Lib.hid (Below.step HB.out (HWB.out.mono (Nat.le_refl _)))
      have HRK' := Lib.hid (ndSub (HT.out.agree (below_all HBW.out)) k hlt)
      have HWF := Lib.hid (ndWf HT.out k hlt)
      have HGN := Lib.hid (show g ≠ w.heap.size ∧ g ≠ w.heap.size + 1 ∧ g ≠ wr.heap.size ∧ w.heap.size < wr.heap.size from ⟨by omega, by omega, by omega, by omega⟩)
      have HSB := Lib.hid (show ∀ w', Agree (fun x => x = w.heap.size ∨ x = wr.heap.size) W w' → w'.cell? ⟨w.heap.size, 0, none⟩ = some (.slice (some ⟨g, 0, none⟩) ls.length vc) ∧ w'.cell? ⟨wr.heap.size, 8, none⟩ = some (.slice ls[k].A ls[k].nd.kids.length ls[k].c) from fun w' ha => by
        have h1 := (blk2 ((ha w.heap.size (Or.inl rfl) (by have := HWZ.out; have := HGN.out.2.2.2; omega)).trans ((HWB.out.block _ HGN.out.2.2.2).trans HK1.out))).1
        have h2 := blk9 ((ha wr.heap.size (Or.inr rfl) (by have := HWZ.out; omega)).trans HWK.out)
        exact ⟨h1, h2.2.2.2.2.2.2.2.2.1⟩)
      clear x0 x1 x2 x3 x4 x5 x6 x7 x8 q1 q2 q3 q4
      have HTC := Lib.hid (show ∀ w', Below W.heap.size W w' → w'.cell? ⟨g, k * 9 + 8, none⟩ = some (.slice ls[k].A ls[k].nd.kids.length ls[k].c) ∧ w'.frozen? ⟨g, k * 9 + 8, none⟩ = false from fun w' hb => by
        have hown : w'.ownsRow (w.heap.size + 2) 71 9 (.slice (some ⟨g, 0, none⟩) ls.length vc) ls.length (ndL.all ls') := own_agree HO.out (fun x hx => by cases hx; exact (hb.block g (by have := HWZ.out; show g < _; omega)).trans (HWB.out.block g hg2))
        have h1 := (own_at9 hown k hlt').2.2.2.2.2.2.2.2
        rw [HRK.out] at h1
        exact ⟨h1, World.ownsRow.frozenAt hown _⟩)
      clear c9
      go_region_held3 (fun w' => w'.cell? ⟨w.heap.size, 0, none⟩ = some (.slice (some ⟨g, 0, none⟩) ls.length vc) ∧ w'.cell? ⟨wr.heap.size, 8, none⟩ = some (.slice ls[k].A ls[k].nd.kids.length ls[k].c))
        (first | exact HSB.out _ (drew_agree _ _) | exact HSB.out _ HA3.out | exact HSB.out _ (HA4.out _))
        (((go_at_call 134; (with_reducible refine (clone_ints ls[k].nd.kids ls[k].A ls[k].c S _ (HRK'.out.agree (drew_agree _ _)) HKK.out).mono ?_)); intro e w3 h3; obtain ⟨KV, kvc, rfl, hko, hkb⟩ := h3; have HKO := Lib.hid hko; have HB3 := Lib.hid (show Below W.heap.size W w3 from (Below.refl _ W).drew.trans hkb); clear hko hkb; obtain ⟨t1, t2⟩ := HTC.out _ HB3.out; have HA3 := Lib.hid (show Agree (fun x => x = w.heap.size ∨ x = wr.heap.size) W w3 from below_all HB3.out); have HA4 := Lib.hid (show ∀ u, Agree (fun x => x = w.heap.size ∨ x = wr.heap.size) W (w3.setCell ⟨g, k * 9 + 8, none⟩ u) from fun u => HA3.out.trans ((set_agree w3 ⟨g, k * 9 + 8, none⟩ u).mono (fun x _ hx => by have := HGN.out; show x ≠ g; omega)) HB3.out.size)))
      go_wp2_with fail
      have hgn := HGN.out; have hwz := HWZ.out; have hs3 := HB3.out.size
      have hkeep : ∀ x, x < wr.heap.size → x ≠ g → (w3.setCell ⟨g, k * 9 + 8, none⟩ (.slice KV ls[k].nd.kids.length kvc)).heap[x]? = wr.heap[x]? := fun x h1 h2 => (Below.heap_setCell _ _ _ _ h2).trans ((HB3.out.block x (by omega)).trans (HWB.out.block x h1))
      have hown3 : w3.ownsRow (w.heap.size + 2) 71 9 (.slice (some ⟨g, 0, none⟩) ls.length vc) ls.length (ndL.all ls') := own_agree HO.out (fun x hx => by cases hx; exact (HB3.out.block g (by show g < _; omega)).trans (HWB.out.block g hg2))
      have hk3 : ls'[k].nd = ls[k].nd := by rw [HRK.out]
      refine ⟨⟨k + 1, ls'.set k ⟨ls[k].nd, KV, kvc⟩, by omega, by go_num, Lib.hid (by rw [List.length_set]; exact HLN.out), Lib.hid ?_, Lib.hid ?_, Lib.hid ?_, Lib.hid ?_, Lib.hid ?_, Lib.hid ?_, Lib.hid ?_⟩, by simp [intOf]; omega⟩
      · rw [List.map_set, HND.out]
        apply List.ext_getElem?
        intro i
        rw [List.getElem?_set]
        by_cases e : k = i
        · subst e; rw [if_pos rfl, if_pos (by simpa using hlt)]; simp [hlt]
        · rw [if_neg e]
      · have h1 := (World.ownsRow.stored hown3 (k * 9 + 8) (.slice KV ls[k].nd.kids.length kvc)).1
        have h2 := all_set8 ls' k hlt' KV kvc
        rw [hk3] at h2
        rw [h2] at h1
        exact h1
      · intro j hj hjk
        by_cases e : k = j
        · subst e
          rw [List.getElem_set_self]
          refine ⟨HWF.out, ?_⟩
          have h1 := (own_ownS HKO.out).mono (T := fun x => wr.heap.size + 1 ≤ x) (fun x _ h => by have h : W.heap.size ≤ x := h; omega)
          exact (h1.agree ((set_agree w3 ⟨g, k * 9 + 8, none⟩ _).mono (fun x _ hx => by have hx : wr.heap.size + 1 ≤ x := hx; show x ≠ g; omega))).mono (fun x _ hx => by have hx : wr.heap.size + 1 ≤ x := hx; exact ⟨by omega, fun e => by have e : some g = some x := e; injection e with e; omega⟩)
        · rw [List.getElem_set_ne e]
          have hj' : j < ls'.length := by simpa using hj
          have h1 := (HOW.out j hj' (by omega)).mono (T := fun x => w.heap.size + 2 ≤ x ∧ g ≠ x ∧ x < wr.heap.size) (fun x h1 h2 => ⟨h2.1, fun e => h2.2 (by rw [e]; rfl), h1⟩)
          exact (h1.agree (fun x hx _ => hkeep x hx.2.2 (fun e => hx.2.1 e.symm))).mono (fun x _ hx => ⟨hx.1, fun e => hx.2.1 (by cases e; rfl)⟩)
      · intro j hj hj2 hjk
        rw [List.getElem_set_ne (by omega)]
        exact HRS.out j (by simpa using hj) hj2 (by omega)
      · exact (hkeep _ hgn.2.2.2 (fun e => hgn.1 e.symm)).trans HK1.out
      · exact (hkeep _ (heap_lt' HK2.out) (fun e => hgn.2.1 e.symm)).trans HK2.out
      · exact (Below.step HBW.out HB3.out).setCell (p := ⟨g, k * 9 + 8, none⟩) (by show w.heap.size ≤ g; omega) _
    · obtain rfl : k = ls.length := by omega
      obtain ⟨q1, q2, q3, q4⟩ := blk2 HK1.out
      obtain ⟨s1, s2, s3, s4⟩ := blk2 HK2.out
      go_wp2_with fail
      refine bodyPost_ret (v := .agg #[.slice V ls.length vc, .int .i64 root]) (by simp [results, Tryz.results102, go_sem, s1, s2]) rfl ?_
      have hag : Agree (fun x => w.heap.size + 2 ≤ x) wr ((wr.setCell ⟨w.heap.size + 1, 0, none⟩ (.slice V ls.length vc)).setCell ⟨w.heap.size + 1, 1, none⟩ (.int .i64 root)) := fun x hx _ => by
        have hx : w.heap.size + 2 ≤ x := hx
        exact (Below.heap_setCell _ _ _ _ (by show x ≠ w.heap.size + 1; omega)).trans (Below.heap_setCell _ _ _ _ (by show x ≠ w.heap.size + 1; omega))
      refine ⟨⟨V, vc, ls', root⟩, by show _ = Ending.returned (.agg #[.slice _ ls'.length _, _]); rw [HLN.out], ?_, ⟨?_, ?_, ?_⟩, ?_⟩
      · simp only [Lt.tr]; rw [HND.out]
      · show ls'.length ≤ _; rw [HLN.out]; omega
      · show OwnS _ _ _ _ _ ls'.length vc _
        rw [HLN.out]
        exact ((own_ownS HO.out).agree hag).mono (fun x _ h => by have h : w.heap.size + 2 ≤ x := h; omega)
      · intro l hl'
        obtain ⟨j, hj, rfl⟩ := List.mem_iff_getElem.1 hl'
        exact (((HOW.out j hj (by rw [HLN.out] at hj; exact hj)).mono (T := fun x => w.heap.size + 2 ≤ x) (fun x _ h => h.1)).agree hag).mono (fun x _ h => by have h : w.heap.size + 2 ≤ x := h; omega)
      · exact (HB.out.setCell (p := ⟨w.heap.size + 1, 0, none⟩) (by simp) _).setCell (p := ⟨w.heap.size + 1, 1, none⟩) (by simp) _
end Go.Proofs.YtmjkgnknfgoadaaGreatDoor
/- The contract of gram.Copy. -/
namespace Go.Proofs.YtmjkgnknfgoadaaGreatDoor
open Go.RowKit
set_option linter.unusedSimpArgs false
set_option linter.unusedVariables false
def DMod (d : Ld) : Prop := d.t.ls.length ≤ 4294967296 ∧ ∀ l ∈ d.t.ls, l.nd.kids.length ≤ 4294967296
structure GramOwn (w : World) (S : Nat → Prop) (A : Option Addr) (c : Nat) (ds : List Ld) : Prop where
  len : ds.length ≤ 281474976710656
  row : OwnS w S 50 3 A ds.length c (dfL.all ds)
  kids : ∃ Q : Nat → Nat → Prop, (∀ i (h : i < ds.length), ds[i].name.size ≤ 281474976710656 ∧ TreeOwn w (Q i) ds[i].t) ∧ (∀ i x, Q i x → S x) ∧ ∀ i j x, i ≠ j → Q i x → ¬ Q j x
theorem GramOwn.inn {w : World} {S : Nat → Prop} {A : Option Addr} {c : Nat} {ds : List Ld} (h : GramOwn w S A c ds) : dfL.row w S A ds := by
  obtain ⟨Q, h1, h2, _⟩ := h.kids
  refine ⟨h.row.row, fun d hd => ?_⟩
  obtain ⟨i, hi, rfl⟩ := List.mem_iff_getElem.1 hd
  exact ⟨(h1 i hi).1, ((h1 i hi).2.mono (fun x _ hx => h2 i x hx)).inn⟩
theorem GramOwn.agree {w w' : World} {S : Nat → Prop} {A : Option Addr} {c : Nat} {ds : List Ld} (h : GramOwn w S A c ds) (hg : Agree S w w') : GramOwn w' S A c ds := by
  obtain ⟨Q, h1, h2, h3⟩ := h.kids
  exact ⟨h.len, h.row.agree hg, Q, fun i hi => ⟨(h1 i hi).1, (h1 i hi).2.agree (hg.mono (fun x _ hx => h2 i x hx))⟩, h2, h3⟩
theorem GramOwn.mono {w : World} {S T : Nat → Prop} {A : Option Addr} {c : Nat} {ds : List Ld} (h : GramOwn w S A c ds) (hS : ∀ k, S k → T k) : GramOwn w T A c ds := by
  obtain ⟨Q, h1, h2, h3⟩ := h.kids
  exact ⟨h.len, h.row.mono (fun k _ => hS k), Q, h1, fun i x hx => hS x (h2 i x hx), h3⟩
def GramPost (g : List Df) (w : World) (e : Ending) (w' : World) : Prop := ∃ (V : Option Addr) (vc : Nat) (ds : List Ld), e = .returned (.agg #[.slice V ds.length vc]) ∧ ds.map Ld.df = g ∧ GramOwn w' (w.heap.size ≤ ·) V vc ds ∧ Below w.heap.size w w'
theorem own_at3 {w : World} {B g n c : Nat} {ds : List Ld} (h : w.ownsRow B 50 3 (.slice (some ⟨g, 0, none⟩) n c) n (dfL.all ds)) (k : Nat) (hk : k < ds.length) :
    w.cell? ⟨g, k * 3, none⟩ = some (.string ds[k].name) ∧ w.cell? ⟨g, k * 3 + 1, none⟩ = some (.slice ds[k].t.A ds[k].t.ls.length ds[k].t.c) ∧ w.cell? ⟨g, k * 3 + 2, none⟩ = some (.int .i64 ds[k].t.root) := by
  have hn : n * 3 = ds.length * 3 := by have h1 := h.1; rw [dfL.all_length] at h1; exact h1.symm
  have hc : ∀ j u, j < 3 → (dfL.cells ds[k])[j]? = some u → w.cell? ⟨g, k * 3 + j, none⟩ = some u := fun j u hj hu => (World.ownsRow.cellAt h (k * 3 + j) (by omega)).trans ((dfL.all_at ds k j hk hj).trans hu)
  exact ⟨hc 0 _ (by decide) rfl, hc 1 _ (by decide) rfl, hc 2 _ (by decide) rfl⟩
theorem all_set12 (l : List Ld) (k : Nat) (hk : k < l.length) (t : Lt) : ((dfL.all l).set (k * 3 + 1) (.slice t.A t.ls.length t.c)).set (k * 3 + 2) (.int .i64 t.root) = dfL.all (l.set k ⟨l[k].name, t⟩) := by
  have hlen : ∀ m : List Ld, (dfL.all m).length = m.length * 3 := fun m => dfL.all_length m
  apply List.ext_getElem?
  intro i
  by_cases hi : i < l.length * 3
  · have hq : i / 3 < l.length := by omega
    have h1 := dfL.all_at (l.set k ⟨l[k].name, t⟩) (i / 3) (i % 3) (by simpa using hq) (show i % 3 < 3 by omega)
    have h2 := dfL.all_at l (i / 3) (i % 3) hq (show i % 3 < 3 by omega)
    rw [show i / 3 * dfL.size + i % 3 = i by show i / 3 * 3 + i % 3 = i; omega] at h1 h2
    rw [h1, List.getElem?_set]
    by_cases e : k * 3 + 2 = i
    · have e1 : i / 3 = k := by omega
      have e2 : i % 3 = 2 := by omega
      rw [if_pos e, if_pos (by rw [List.length_set, hlen]; omega)]
      simp only [e1, e2, List.getElem_set_self]
      rfl
    · rw [if_neg e, List.getElem?_set]
      by_cases e3 : k * 3 + 1 = i
      · have e1 : i / 3 = k := by omega
        have e2 : i % 3 = 1 := by omega
        rw [if_pos e3, if_pos (by rw [hlen]; omega)]
        simp only [e1, e2, List.getElem_set_self]
        rfl
      · rw [if_neg e3, h2]
        by_cases e1 : i / 3 = k
        · simp only [e1, List.getElem_set_self]
          have : i % 3 = 0 := by omega
          rw [this]; rfl
        · rw [List.getElem_set_ne (fun h => e1 h.symm)]
  · rw [List.getElem?_eq_none (by rw [List.length_set, List.length_set, hlen]; omega), List.getElem?_eq_none (by rw [hlen, List.length_set]; omega)]
theorem blk1 {w : World} {b : Nat} {x : Value} {T : TypeId} (h : w.heap[b]? = some (.cells #[x] T (0, 0))) : w.cell? ⟨b, 0, none⟩ = some x ∧ w.frozen? ⟨b, 0, none⟩ = false := by
  simp [World.cell?, World.frozen?, h]
theorem blk3' {w : World} {b : Nat} {x y z : Value} {T : TypeId} (h : w.heap[b]? = some (.cells #[x, y, z] T (0, 0))) : w.cell? ⟨b, 0, none⟩ = some x ∧ w.cell? ⟨b, 1, none⟩ = some y ∧ w.cell? ⟨b, 2, none⟩ = some z := by
  simp [World.cell?, h]
theorem set_blk1 {w : World} {b : Nat} {x u : Value} {T : TypeId} (h : w.heap[b]? = some (.cells #[x] T (0, 0))) : (w.setCell ⟨b, 0, none⟩ u).heap[b]? = some (.cells #[u] T (0, 0)) := by
  have := heap_setCell_same w b 0 _ T u h
  simpa using this
def GCopyRel (w : World) (H : Nat) (V : Option Addr) (vc : Nat) (ds : List Ld) (i : Value) (wr : World) : Prop :=
  ∃ (k : Nat) (ds' : List Ld), k ≤ ds.length ∧ i = .int .i64 k ∧ Hid (ds'.length = ds.length) ∧ Hid (ds'.map Ld.df = ds.map Ld.df) ∧ Hid (wr.ownsRow (H + 2) 50 3 (.slice V ds.length vc) ds.length (dfL.all ds')) ∧
    Hid (∃ Q : Nat → Nat → Prop, (∀ j (h : j < ds'.length), j < k → TreeOwn wr (Q j) ds'[j].t) ∧ (∀ j x, Q j x → H + 2 ≤ x ∧ x < wr.heap.size ∧ blkOf V ≠ some x) ∧ (∀ i j x, i ≠ j → Q i x → ¬ Q j x) ∧ ∀ j x, k ≤ j → ¬ Q j x) ∧
    Hid (∀ j (h : j < ds'.length) (h2 : j < ds.length), k ≤ j → ds'[j] = ds[j]) ∧ Hid (∀ j (h : j < ds'.length) (h2 : j < ds.length), ds'[j].name = ds[j].name) ∧
    Hid (wr.heap[H]? = some (.cells #[.slice V ds.length vc] 24 (0, 0))) ∧ Hid (wr.heap[H + 1]? = some (.cells #[.slice none 0 0] 24 (0, 0))) ∧ Hid (Below H w wr)
set_option maxRecDepth 100000 in
set_option maxHeartbeats 3200000 in
theorem gcopy_any (A : Option Addr) (c : Nat) (ds : List Ld) (S : Nat → Prop) (w : World) (hT : dfL.row w S A ds) (hl : ds.length ≤ 4294967296) (hm : ∀ d ∈ ds, DMod d) :
    Calls Tryz.prog 100 #[.agg #[.slice A ds.length c]] w (GramPost (ds.map Ld.df) w) := by
  have HT := Lib.hid hT; clear hT
  have HKL := Lib.hid hm; clear hm
  have HCL := Lib.hid (fun w' (h : dfL.row w' S A ds) => clone_defs ds A c S w' h hl)
  unfold GramPost
  go_enter Tryz.func100, Tryz.ntmps100
  go_wp2_with (go_at_call 132; refine (HCL.out _ (HT.out.agree (below_all (bx2 w _ _)))).mono ?_; rintro e w1 ⟨V, vc, rfl, hown1, hb1⟩; have HO1 := Lib.hid hown1; have HB1 := Lib.hid hb1; obtain ⟨k1, k2⟩ := bx2_kept hb1; have HK1 := Lib.hid k1; have HK2 := Lib.hid k2; obtain ⟨q1, q2⟩ := blk1 HK1.out; clear hown1 hb1 k1 k2)
  have HBB := Lib.hid (Below.step (bx2 w _ _) HB1.out)
  have HOW := Lib.hid (show w1.ownsRow (w.heap.size + 2) 50 3 (.slice V ds.length vc) ds.length (dfL.all ds) by simpa using HO1.out)
  clear HO1
  have HVH := Lib.hid (show ∀ x, blkOf V = some x → w.heap.size + 2 ≤ x from fun x hx => (own_blk HOW.out x hx).1)
  go_loopw [12] (fun i wr => GCopyRel w w.heap.size V vc ds i wr) (fun i _ => ds.length - (intOf i).toNat)
  case atStart =>
    refine ⟨0, ds, by omega, rfl, Lib.hid rfl, Lib.hid rfl, Lib.hid (own_agree HOW.out (fun x hx => Below.heap_setCell _ _ _ _ (by have := HVH.out x hx; show x ≠ w.heap.size; omega))), Lib.hid ⟨fun _ _ => False, fun j _ hj => by omega, fun _ _ h => h.elim, fun _ _ _ _ h => h.elim, fun _ _ _ h => h⟩, Lib.hid (fun j _ _ _ => rfl), Lib.hid (fun j _ _ => rfl), Lib.hid (set_blk1 HK1.out), Lib.hid ((Below.heap_setCell _ _ _ _ (by show w.heap.size + 1 ≠ w.heap.size; omega)).trans HK2.out), Lib.hid (HBB.out.setCell (p := ⟨w.heap.size, 0, none⟩) (Nat.le_refl _) _)⟩
  case round =>
    clear q1 q2 HK1 HK2 HOW HB1 HBB
    obtain ⟨k, ds', hk, rfl, HLN, HND, HO, HQ, HRS, HNM, HK1, HK2, HB⟩ := hrel
    by_cases hlt : k < ds.length
    · have hlt' : k < ds'.length := by rw [HLN.out]; exact hlt
      obtain ⟨g, rfl, hg1, hg2⟩ := own_some HO.out (by omega)
      obtain ⟨x0, x1, x2⟩ := own_at3 HO.out k hlt'
      have HRK := Lib.hid (HRS.out k hlt' hlt (Nat.le_refl _))
      rw [HRK.out] at x0 x1 x2
      have c1 := World.ownsRow.frozenAt HO.out (k * 3 + 1)
      have c2 := World.ownsRow.frozenAt HO.out (k * 3 + 2)
      obtain ⟨q1, q2⟩ := blk1 HK1.out
      have i1 : (k : Int) < (ds.length : Int) := by omega
      have i2 : (0 : Int) ≤ (k : Int) := by omega
      have HKK := Lib.hid (show ds[k].t.ls.length ≤ 4294967296 ∧ ∀ l ∈ ds[k].t.ls, l.nd.kids.length ≤ 4294967296 from HKL.out ds[k] (List.getElem_mem hlt))
      go_upto_region 5 with (fail)
      have hWK : (wr.alloc (.cells #[.string ds[k].name, .slice ds[k].t.A ds[k].t.ls.length ds[k].t.c, .int .i64 ds[k].t.root] 50)).heap[wr.heap.size]? = some (.cells #[.string ds[k].name, .slice ds[k].t.A ds[k].t.ls.length ds[k].t.c, .int .i64 ds[k].t.root] 50 (0, 0)) := bx_new wr _
      have hWB : Below wr.heap.size wr (wr.alloc (.cells #[.string ds[k].name, .slice ds[k].t.A ds[k].t.ls.length ds[k].t.c, .int .i64 ds[k].t.root] 50)) := bx1 wr _
      have hWZ : (wr.alloc (.cells #[.string ds[k].name, .slice ds[k].t.A ds[k].t.ls.length ds[k].t.c, .int .i64 ds[k].t.root] 50)).heap.size = wr.heap.size + 1 := by simp
      generalize (wr.alloc (.cells #[.string ds[k].name, .slice ds[k].t.A ds[k].t.ls.length ds[k].t.c, .int .i64 ds[k].t.root] 50)) = W at *
      have HWK := Lib.hid hWK; have HWB := Lib.hid hWB; have HWZ := Lib.hid hWZ
      clear hWK hWB hWZ
      have HBW := Lib.hid (Below.step HB.out (HWB.out.mono (Nat.le_refl _)))
      have HRT := Lib.hid (show ds[k].t.ls.length ≤ 281474976710656 ∧ ndL.row W S ds[k].t.A ds[k].t.ls from dfSub (HT.out.agree (below_all HBW.out)) k hlt)
      have HNS := Lib.hid ((HT.out.sub k hlt).1)
      have HGN := Lib.hid (show g ≠ w.heap.size ∧ g ≠ w.heap.size + 1 ∧ g ≠ wr.heap.size ∧ w.heap.size < wr.heap.size from ⟨by omega, by omega, by omega, by omega⟩)
      have HSB := Lib.hid (show ∀ w', Agree (fun x => x = w.heap.size ∨ x = wr.heap.size) W w' → w'.cell? ⟨w.heap.size, 0, none⟩ = some (.slice (some ⟨g, 0, none⟩) ds.length vc) ∧ w'.cell? ⟨wr.heap.size, 1, none⟩ = some (.slice ds[k].t.A ds[k].t.ls.length ds[k].t.c) ∧ w'.cell? ⟨wr.heap.size, 2, none⟩ = some (.int .i64 ds[k].t.root) from fun w' ha => by
        have h1 := (blk1 ((ha w.heap.size (Or.inl rfl) (by have := HWZ.out; have := HGN.out.2.2.2; omega)).trans ((HWB.out.block _ HGN.out.2.2.2).trans HK1.out))).1
        have h2 := blk3' ((ha wr.heap.size (Or.inr rfl) (by have := HWZ.out; omega)).trans HWK.out)
        exact ⟨h1, h2.2.1, h2.2.2⟩)
      clear x0 x1 x2 q1 q2 c1 c2
      have HTC := Lib.hid (show ∀ w', Below W.heap.size W w' → w'.cell? ⟨g, k * 3 + 1, none⟩ = some (.slice ds[k].t.A ds[k].t.ls.length ds[k].t.c) ∧ w'.cell? ⟨g, k * 3 + 2, none⟩ = some (.int .i64 ds[k].t.root) ∧ w'.frozen? ⟨g, k * 3 + 1, none⟩ = false ∧ w'.frozen? ⟨g, k * 3 + 2, none⟩ = false from fun w' hb => by
        have hown : w'.ownsRow (w.heap.size + 2) 50 3 (.slice (some ⟨g, 0, none⟩) ds.length vc) ds.length (dfL.all ds') := own_agree HO.out (fun x hx => by cases hx; exact (hb.block g (by have := HWZ.out; show g < _; omega)).trans (HWB.out.block g hg2))
        have h1 := (own_at3 hown k hlt').2
        rw [HRK.out] at h1
        exact ⟨h1.1, h1.2, World.ownsRow.frozenAt hown _, World.ownsRow.frozenAt hown _⟩)
      go_region_held3 (fun w' => w'.cell? ⟨w.heap.size, 0, none⟩ = some (.slice (some ⟨g, 0, none⟩) ds.length vc) ∧ w'.cell? ⟨wr.heap.size, 1, none⟩ = some (.slice ds[k].t.A ds[k].t.ls.length ds[k].t.c) ∧ w'.cell? ⟨wr.heap.size, 2, none⟩ = some (.int .i64 ds[k].t.root))
        (first | exact HSB.out _ (drew_agree _ _) | exact HSB.out _ HA3.out | exact HSB.out _ (HA4.out _ _))
        (((go_at_call 102; (with_reducible refine (copied_any ds[k].t.A ds[k].t.c ds[k].t.ls ds[k].t.root S _ (HRT.out.2.agree (drew_agree _ _)) HKK.out.1 HKK.out.2).mono ?_)); intro e w3 h3; obtain ⟨A1, c1, l1, r1, rfl, htr, hto, htb⟩ := TreePost.out h3; clear h3; have HTR := Lib.hid htr; have HTO := Lib.hid hto; have HB3 := Lib.hid (show Below W.heap.size W w3 from (Below.refl _ W).drew.trans htb); clear htr hto htb; obtain ⟨t1, t2, t3, t4⟩ := HTC.out _ HB3.out; have HA3 := Lib.hid (show Agree (fun x => x = w.heap.size ∨ x = wr.heap.size) W w3 from below_all HB3.out); have HA4 := Lib.hid (show ∀ u v, Agree (fun x => x = w.heap.size ∨ x = wr.heap.size) W ((w3.setCell ⟨g, k * 3 + 1, none⟩ u).setCell ⟨g, k * 3 + 2, none⟩ v) from fun u v x hx hxl => by have hg := HGN.out; have hxg : x ≠ g := (by omega); exact (Below.heap_setCell _ _ _ _ hxg).trans ((Below.heap_setCell _ _ _ _ hxg).trans (HA3.out x hx hxl)))))
      go_wp2_with fail
      have hgn := HGN.out; have hwz := HWZ.out; have hs3 := HB3.out.size
      have hkeep : ∀ x, x < wr.heap.size → x ≠ g → ((w3.setCell ⟨g, k * 3 + 1, none⟩ (.slice A1 l1.length c1)).setCell ⟨g, k * 3 + 2, none⟩ (.int .i64 r1)).heap[x]? = wr.heap[x]? := fun x h1 h2 => (Below.heap_setCell _ _ _ _ h2).trans ((Below.heap_setCell _ _ _ _ h2).trans ((HB3.out.block x (by omega)).trans (HWB.out.block x h1)))
      have hown3 : w3.ownsRow (w.heap.size + 2) 50 3 (.slice (some ⟨g, 0, none⟩) ds.length vc) ds.length (dfL.all ds') := own_agree HO.out (fun x hx => by cases hx; exact (HB3.out.block g (by show g < _; omega)).trans (HWB.out.block g hg2))
      have hk3 : ds'[k].name = ds[k].name := HNM.out k hlt' hlt
      refine ⟨⟨k + 1, ds'.set k ⟨ds[k].name, ⟨A1, c1, l1, r1⟩⟩, by omega, by go_num, Lib.hid (by rw [List.length_set]; exact HLN.out), Lib.hid ?_, Lib.hid ?_, Lib.hid ?_, Lib.hid ?_, Lib.hid ?_, Lib.hid ?_, Lib.hid ?_, Lib.hid ?_⟩, by simp [intOf]; omega⟩
      · rw [List.map_set, HND.out]
        apply List.ext_getElem?
        intro i
        rw [List.getElem?_set]
        by_cases e : k = i
        · subst e
          rw [if_pos rfl, if_pos (by simpa using hlt)]
          have h1 := HTR.out
          simp only [List.getElem?_map, List.getElem?_eq_getElem hlt, Option.map_some, Ld.df, h1]
          rfl
        · rw [if_neg e]
      · have h1 := (World.ownsRow.stored (World.ownsRow.stored hown3 (k * 3 + 1) (.slice A1 l1.length c1)).1 (k * 3 + 2) (.int .i64 r1)).1
        have h2 := all_set12 ds' k hlt' ⟨A1, c1, l1, r1⟩
        rw [hk3] at h2
        simp only at h2
        rw [h2] at h1
        exact h1
      · obtain ⟨Q, hQ1, hQ2, hQ3, hQ4⟩ := HQ.out
        refine ⟨fun j x => if j = k then W.heap.size ≤ x ∧ x < w3.heap.size else Q j x, fun j hj hjk => ?_, fun j x hx => ?_, fun i j x hij hi hjx => ?_, fun j x hj hx => ?_⟩
        · by_cases e : k = j
          · subst e
            rw [List.getElem_set_self]
            simp only [if_true]
            have h1 := HTO.out.mono (T := fun x => W.heap.size ≤ x ∧ x < w3.heap.size) (fun x h1 h2 => ⟨h2, h1⟩)
            exact h1.agree (fun x hx _ => (Below.heap_setCell _ _ _ _ (by show x ≠ g; omega)).trans (Below.heap_setCell _ _ _ _ (by show x ≠ g; omega)))
          · rw [List.getElem_set_ne e]
            have hj' : j < ds'.length := by simpa using hj
            have hne : ¬ j = k := fun h => e h.symm
            simp only [if_neg hne]
            exact (hQ1 j hj' (by omega)).agree (fun x hx _ => hkeep x (hQ2 j x hx).2.1 (fun e => (hQ2 j x hx).2.2 (by rw [e]; rfl)))
        · by_cases e : j = k
          · simp only [if_pos e] at hx
            exact ⟨by omega, by simpa using hx.2, fun e => by have e : some g = some x := e; injection e with e; omega⟩
          · simp only [if_neg e] at hx
            have := hQ2 j x hx
            exact ⟨this.1, by have h2 := this.2.1; simp; omega, this.2.2⟩
        · by_cases e : i = k
          · have e2 : ¬ j = k := fun h => hij (e.trans h.symm)
            simp only [if_pos e] at hi
            simp only [if_neg e2] at hjx
            have := hQ2 j x hjx
            omega
          · simp only [if_neg e] at hi
            by_cases e2 : j = k
            · simp only [if_pos e2] at hjx
              have := hQ2 i x hi
              omega
            · simp only [if_neg e2] at hjx
              exact hQ3 i j x hij hi hjx
        · have e : ¬ j = k := by omega
          simp only [if_neg e] at hx
          exact hQ4 j x (by omega) hx
      · intro j hj hj2 hjk
        rw [List.getElem_set_ne (by omega)]
        exact HRS.out j (by simpa using hj) hj2 (by omega)
      · intro j hj hj2
        by_cases e : k = j
        · subst e; rw [List.getElem_set_self]
        · rw [List.getElem_set_ne e]
          exact HNM.out j (by simpa using hj) hj2
      · exact (hkeep _ hgn.2.2.2 (fun e => hgn.1 e.symm)).trans HK1.out
      · exact (hkeep _ (heap_lt' HK2.out) (fun e => hgn.2.1 e.symm)).trans HK2.out
      · exact ((Below.step HBW.out HB3.out).setCell (p := ⟨g, k * 3 + 1, none⟩) (by show w.heap.size ≤ g; omega) _).setCell (p := ⟨g, k * 3 + 2, none⟩) (by show w.heap.size ≤ g; omega) _
    · obtain rfl : k = ds.length := by omega
      obtain ⟨q1, q2⟩ := blk1 HK1.out
      obtain ⟨s1, s2⟩ := blk1 HK2.out
      go_wp2_with fail
      refine bodyPost_ret (v := .agg #[.slice V ds.length vc]) (by simp [results, Tryz.results100, go_sem, s1]) rfl ?_
      have hag : Agree (fun x => w.heap.size + 2 ≤ x) wr (wr.setCell ⟨w.heap.size + 1, 0, none⟩ (.slice V ds.length vc)) := fun x hx _ => by
        have hx : w.heap.size + 2 ≤ x := hx
        exact Below.heap_setCell _ _ _ _ (by show x ≠ w.heap.size + 1; omega)
      refine ⟨V, vc, ds', by rw [HLN.out], HND.out, ⟨by rw [HLN.out]; omega, ?_, ?_⟩, ?_⟩
      · rw [HLN.out]
        exact ((own_ownS HO.out).agree hag).mono (fun x _ h => by have h : w.heap.size + 2 ≤ x := h; omega)
      · obtain ⟨Q, hQ1, hQ2, hQ3, hQ4⟩ := HQ.out
        refine ⟨Q, fun j hj => ⟨?_, ?_⟩, fun j x hx => by have := (hQ2 j x hx).1; omega, hQ3⟩
        · have hj2 : j < ds.length := by rw [HLN.out] at hj; exact hj
          rw [HNM.out j hj hj2]
          exact (HT.out.sub j hj2).1
        · exact (hQ1 j hj (by rw [HLN.out] at hj; exact hj)).agree (hag.mono (fun x _ hx => (hQ2 j x hx).1))
      · exact HB.out.setCell (p := ⟨w.heap.size + 1, 0, none⟩) (by simp) _
end Go.Proofs.YtmjkgnknfgoadaaGreatDoor
