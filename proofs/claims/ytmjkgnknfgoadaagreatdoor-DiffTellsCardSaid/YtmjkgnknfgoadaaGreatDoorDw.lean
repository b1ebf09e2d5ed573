/- Facts of trees and rules in memory that more than one layer needs; the contracts of tree.leaf and tree.Text. -/
import Derived.Test.YtmjkgnknfgoadaaGreatDoorDs
import Derived.BigQuiet
import Derived.Deep.RegionHeld3
import Derived.Deep.Cut
namespace Go.Proofs.YtmjkgnknfgoadaaGreatDoor
open Go.RowKit
set_option linter.unusedSimpArgs false
set_option linter.unusedVariables false
set_option maxRecDepth 100000 in
theorem field_rules (w : World) (A : Option Addr) (n c : Nat) : (Instr.field 24 (.agg #[.slice A n c]) 0).run Tryz.prog w = .ok (.slice A n c) w := by
  kernel_rfl
theorem blk3f {w : World} {b : Nat} {x y z : Value} {T : TypeId} (h : w.heap[b]? = some (.cells #[x, y, z] T (0, 0))) :
    w.cell? ⟨b, 0, none⟩ = some x ∧ w.cell? ⟨b, 1, none⟩ = some y ∧ w.cell? ⟨b, 2, none⟩ = some z ∧ w.frozen? ⟨b, 0, none⟩ = false ∧ w.frozen? ⟨b, 1, none⟩ = false ∧ w.frozen? ⟨b, 2, none⟩ = false := by
  simp [World.cell?, World.frozen?, h]
def DefPost (d : Df) (w : World) (e : Ending) (w' : World) : Prop := ∃ (n : ByteArray) (A : Option Addr) (c : Nat) (ls : List Ln) (r : Int), e = .returned (.agg #[.string n, .slice A ls.length c, .int .i64 r]) ∧ Ld.df ⟨n, A, c, ls, r⟩ = d ∧ TreeOwn w' (w.heap.size ≤ ·) ⟨A, c, ls, r⟩ ∧ Below w.heap.size w w'
theorem own_belowA {w w' : World} {base : Nat} {e : TypeId} {size n c : Nat} {V : Option Addr} {xs : List Value} (h : w.ownsRow base e size (.slice V n c) n xs) (hb : Below w.heap.size w w') : w'.ownsRow base e size (.slice V n c) n xs :=
  own_agree h (fun x hx => hb.block x (own_blk h x hx).2)
theorem tree_none (w : World) (S : Nat → Prop) (r : Int) : TreeOwn w S ⟨none, 0, [], r⟩ := ⟨by simp, OwnS.nil w S _ _, by simp⟩
theorem set_blk2' {w : World} {b : Nat} {x y u : Value} {T : TypeId} (h : w.heap[b]? = some (.cells #[x, y] T (0, 0))) : (w.setCell ⟨b, 1, none⟩ u).heap[b]? = some (.cells #[x, u] T (0, 0)) := by
  have := heap_setCell_same w b 1 _ T u h
  simpa using this
section
variable {P : Program} {w : World} {a : Addr} {m : Mode}
theorem run_store_func (f : Fn) (ts cs : Array Value) : (store a (.func f ts cs) m).run P w = stored P w a (.func f ts cs) m := run_store P w a _ m rfl
end
theorem made_add {w : World} {S T : Nat → Prop} {made : List Ld} {x : Ld} (h : ∀ d ∈ made, DMod d ∧ (dfL.inn w S d ∨ dfL.inn w T d)) (h1 : DMod x) (h2 : dfL.inn w S x ∨ dfL.inn w T x) : ∀ d ∈ made ++ [x], DMod d ∧ (dfL.inn w S d ∨ dfL.inn w T d) := fun d hd => by
  rcases List.mem_append.1 hd with hd | hd
  · exact h d hd
  · simp only [List.mem_singleton] at hd; subst hd; exact ⟨h1, h2⟩
theorem df_tail {w : World} {S : Nat → Prop} {b o : Nat} {x : Ld} {r : List Ld} (h : dfL.row w S (some ⟨b, o, none⟩) (x :: r)) : dfL.row w S (some ⟨b, o + 3, none⟩) r := by
  refine ⟨⟨fun j u hu => ?_, fun hr ad e => ?_⟩, fun d hd => h.2 d (List.mem_cons_of_mem _ hd)⟩
  · refine ⟨_, rfl, ?_⟩
    obtain ⟨ad, e, hc⟩ := h.1.1 (3 + j) u (by
      have e2 : dfL.all (x :: r) = dfL.cells x ++ dfL.all r := by simp [Lay.all]
      rw [e2, List.getElem?_append_right (by rw [dfL.len]; show 3 ≤ 3 + j; omega), dfL.len]
      show (dfL.all r)[3 + j - 3]? = _
      rw [show 3 + j - 3 = j by omega]; exact hu)
    cases e
    rw [Addr.add_lit] at hc ⊢
    rw [show o + 3 + j = o + (3 + j) by omega]; exact hc
  · cases e
    exact h.1.2 (fun e => by
      have h := dfL.all_length (x :: r)
      rw [e] at h
      have := Nat.mul_pos (show 0 < (x :: r).length by simp) (show 0 < dfL.size by decide)
      rw [← h] at this; simp at this) ⟨b, o, none⟩ rfl
theorem tail_row {w : World} {S : Nat → Prop} {b o : Nat} {A' : Option Addr} {x : Ld} {r : List Ld} (h : dfL.row w S (some ⟨b, o, none⟩) (x :: r)) (hA : A' = some ⟨b, o + 3, none⟩ ∨ r.length = 0) : dfL.row w S A' r := by
  rcases hA with rfl | hr
  · exact df_tail h
  · obtain rfl := List.eq_nil_of_length_eq_zero hr
    exact Lay.row.nil _ _ _
theorem gram_nil (w : World) (S : Nat → Prop) : GramOwn w S none 0 [] := ⟨by simp, OwnS.nil _ _ _ _, fun _ _ => False, fun i h => by simp at h, fun _ _ h => h.elim, fun _ _ _ _ h => h.elim⟩
theorem own_new {w : World} {b size : Nat} {cs : List Value} {e : TypeId} (h : w.heap[b]? = some (.cells cs.toArray e (0, 0))) (hl : cs.length = size) : w.ownsRow b e size (.slice (some ⟨b, 0, none⟩) 1 1) 1 cs := by
  refine ⟨by omega, .inr ⟨b, 1, cs.toArray, rfl, Nat.le_refl _, h, Nat.le_refl _, by unfold maxLen; omega, by simp [hl], ?_⟩⟩
  rw [Nat.one_mul, ← hl]; simp
theorem tree_one {w : World} {b : Nat} {n : Nd} (hn : n.wf) (hk : n.kids = []) (h : w.heap[b]? = some (.cells #[.int .u8 n.kind, .int .u64 n.s0, .int .u64 n.s1, .int .u64 n.s2, .int .u64 n.s3, .string n.text, .int .i64 n.mn, .int .i64 n.mx, .slice none 0 0] 71 (0, 0))) (r : Int) : TreeOwn w (b ≤ ·) ⟨some ⟨b, 0, none⟩, 1, [⟨n, none, 0⟩], r⟩ := by
  refine ⟨by simp, own_ownS (B := b) (by
    have := own_new (cs := [.int .u8 n.kind, .int .u64 n.s0, .int .u64 n.s1, .int .u64 n.s2, .int .u64 n.s3, .string n.text, .int .i64 n.mn, .int .i64 n.mx, .slice none 0 0]) (size := 9) h rfl
    have e : ndL.all [⟨n, none, 0⟩] = [.int .u8 n.kind, .int .u64 n.s0, .int .u64 n.s1, .int .u64 n.s2, .int .u64 n.s3, .string n.text, .int .i64 n.mn, .int .i64 n.mx, .slice none 0 0] := by
      rw [ndL.all_one]; show [_, _, _, _, _, _, _, _, Value.slice none n.kids.length 0] = _; rw [hk]; rfl
    rw [e]; exact this), fun l hl => ?_⟩
  simp only [List.mem_singleton] at hl
  subst hl
  refine ⟨hn, ?_⟩
  show OwnS w _ _ 1 none n.kids.length 0 (intL.all n.kids)
  rw [hk]
  exact OwnS.nil _ _ _ _
set_option maxRecDepth 100000 in
set_option maxHeartbeats 1600000 in
theorem leaf_any (n : Nd) (w : World) (hn : n.wf) (hk : n.kids = []) :
    Calls Tryz.prog 89 #[.agg #[.int .u8 n.kind, .int .u64 n.s0, .int .u64 n.s1, .int .u64 n.s2, .int .u64 n.s3, .string n.text, .int .i64 n.mn, .int .i64 n.mx, .slice none 0 0]] w fun e w' => ∃ b, e = .returned (.agg #[.slice (some ⟨b, 0, none⟩) 1 1, .int .i64 0]) ∧ TreeOwn w' (w.heap.size ≤ ·) ⟨some ⟨b, 0, none⟩, 1, [⟨n, none, 0⟩], 0⟩ ∧ Below w.heap.size w w' := by
  go_enter Tryz.func89, Tryz.ntmps89
  go_upto_region 1 with (fail)
  have HW := Lib.hid (bx2 w (.cells #[.int .u8 n.kind, .int .u64 n.s0, .int .u64 n.s1, .int .u64 n.s2, .int .u64 n.s3, .string n.text, .int .i64 n.mn, .int .i64 n.mx, .slice none 0 0] 71) (.cells #[.slice none 0 0, .int .i64 0] 48))
  have HX := Lib.hid (bx_old (p := .cells #[.slice none 0 0, .int .i64 0] 48) (bx_new w (.cells #[.int .u8 n.kind, .int .u64 n.s0, .int .u64 n.s1, .int .u64 n.s2, .int .u64 n.s3, .string n.text, .int .i64 n.mn, .int .i64 n.mx, .slice none 0 0] 71)))
  have HT := Lib.hid (bx_new (w.alloc (.cells #[.int .u8 n.kind, .int .u64 n.s0, .int .u64 n.s1, .int .u64 n.s2, .int .u64 n.s3, .string n.text, .int .i64 n.mn, .int .i64 n.mx, .slice none 0 0] 71)) (.cells #[.slice none 0 0, .int .i64 0] 48))
  have HZ := Lib.hid (show ((w.alloc (.cells #[.int .u8 n.kind, .int .u64 n.s0, .int .u64 n.s1, .int .u64 n.s2, .int .u64 n.s3, .string n.text, .int .i64 n.mn, .int .i64 n.mx, .slice none 0 0] 71)).alloc (.cells #[.slice none 0 0, .int .i64 0] 48)).heap.size = w.heap.size + 2 from by simp)
  generalize ((w.alloc (.cells #[.int .u8 n.kind, .int .u64 n.s0, .int .u64 n.s1, .int .u64 n.s2, .int .u64 n.s3, .string n.text, .int .i64 n.mn, .int .i64 n.mx, .slice none 0 0] 71)).alloc (.cells #[.slice none 0 0, .int .i64 0] 48)) = W at *
  simp only [World.size_alloc] at HT
  refine wp_region_list ?_
  refine wpList_val rfl (exec_load rfl rfl (load9 W w.heap.size _ _ _ _ _ _ _ _ _ _ HX.out)) ?_
  refine wpList_val rfl (exec_build rfl rfl (build9 W _ _ _ _ _ _ _ _ _)) ?_
  simp only [Act.put, List.setIfInBounds_toArray, List.set_cons_zero, List.set_cons_succ]
  have HN := Lib.hid (bx_new W (.cells #[.int .u8 n.kind, .int .u64 n.s0, .int .u64 n.s1, .int .u64 n.s2, .int .u64 n.s3, .string n.text, .int .i64 n.mn, .int .i64 n.mx, .slice none 0 0] 71))
  have HW2 := Lib.hid (bx1 W (.cells #[.int .u8 n.kind, .int .u64 n.s0, .int .u64 n.s1, .int .u64 n.s2, .int .u64 n.s3, .string n.text, .int .i64 n.mn, .int .i64 n.mx, .slice none 0 0] 71))
  generalize W.alloc (.cells #[.int .u8 n.kind, .int .u64 n.s0, .int .u64 n.s1, .int .u64 n.s2, .int .u64 n.s3, .string n.text, .int .i64 n.mn, .int .i64 n.mx, .slice none 0 0] 71) = W2 at *
  have HT2 := Lib.hid (bx_kept HW2.out HT.out)
  obtain ⟨t1, t2, t3, t4⟩ := blk2 HT2.out
  go_wp2_with fail
  refine bodyPost_ret (v := .agg #[.slice (some ⟨W.heap.size, 0, none⟩) 1 1, .int .i64 0]) (by simp [results, Tryz.results89, go_sem, t1, t2]) rfl ?_
  have hz := HZ.out
  refine ⟨W.heap.size, rfl, ((tree_one hn hk HN.out 0).agree (fun x hx _ => ?_)).mono (fun x _ hx => by have hx : W.heap.size ≤ x := hx; show w.heap.size ≤ x; omega), ((Below.step HW.out HW2.out).setCell (p := ⟨w.heap.size + 1, 0, none⟩) (by simp) _).setCell (p := ⟨w.heap.size + 1, 1, none⟩) (by simp) _⟩
  have hx : W.heap.size ≤ x := hx
  exact (Below.heap_setCell _ _ _ _ (by show x ≠ w.heap.size + 1; omega)).trans (Below.heap_setCell _ _ _ _ (by show x ≠ w.heap.size + 1; omega))
def textLf (s : ByteArray) : Nd := ⟨2, 0, 0, 0, 0, s, 0, 0, []⟩
def textT (s : ByteArray) : Tr := ⟨[textLf s], 0⟩
set_option maxRecDepth 100000 in
set_option maxHeartbeats 1600000 in
theorem text_any (s : ByteArray) (w : World) (hs : s.size ≤ 281474976710656) :
    Calls Tryz.prog 39 #[.string s] w fun e w' => ∃ b, e = .returned (.agg #[.slice (some ⟨b, 0, none⟩) 1 1, .int .i64 0]) ∧ TreeOwn w' (w.heap.size ≤ ·) ⟨some ⟨b, 0, none⟩, 1, [⟨textLf s, none, 0⟩], 0⟩ ∧ Below w.heap.size w w' := by
  have HWF := Lib.hid (show (textLf s).wf from ⟨by simp [textLf], hs, by simp [textLf], by simp [textLf, U64], by simp [textLf, U64], by simp [textLf, U64], by simp [textLf, U64]⟩)
  go_enter Tryz.func39, Tryz.ntmps39
  go_wp2_with (go_at_call 89; refine (leaf_any (textLf s) _ HWF.out rfl).mono ?_; rintro e w1 ⟨b, rfl, ht, hb⟩; have HT := Lib.hid ht; have HB := Lib.hid hb; obtain ⟨t1, t2, t3, t4⟩ := blk2 (bx_kept hb (bx_new w _)); clear ht hb)
  refine bodyPost_ret (v := .agg #[.slice (some ⟨b, 0, none⟩) 1 1, .int .i64 0]) (by simp [results, Tryz.results39, go_sem, t1, t2]) rfl ?_
  refine ⟨b, rfl, (HT.out.agree (fun x hx _ => ?_)).mono (fun x _ hx => ?_), ((Below.step (bx1 w _) HB.out).setCell (p := ⟨w.heap.size, 0, none⟩) (Nat.le_refl _) _).setCell (p := ⟨w.heap.size, 1, none⟩) (Nat.le_refl _) _⟩
  · have hx : (w.alloc _).heap.size ≤ x := hx
    rw [World.size_alloc] at hx
    exact (Below.heap_setCell _ _ _ _ (by show x ≠ w.heap.size; omega)).trans (Below.heap_setCell _ _ _ _ (by show x ≠ w.heap.size; omega))
  · have hx : (w.alloc _).heap.size ≤ x := hx
    rw [World.size_alloc] at hx
    show w.heap.size ≤ x; omega
theorem own_cap_le {w : World} {base : Nat} {e : TypeId} {size n c : Nat} {V : Option Addr} {xs : List Value} (h : w.ownsRow base e size (.slice V n c) n xs) : c ≤ 9223372036854775807 := by
  rcases h.2 with ⟨hv, h0⟩ | ⟨g, cap, cur, hv, _, _, _, hc, _⟩
  · cases hv; omega
  · cases hv; unfold maxLen at hc; omega
structure Lg where
  A : Option Addr
  c : Nat
  ds : List Ld
def grL : Lay Lg where
  size := 1
  cells g := [.slice g.A g.ds.length g.c]
  len _ := rfl
  one _ u hu := by simp at hu; subst hu; rfl
  inn w S g := g.ds.length ≤ 281474976710656 ∧ dfL.row w S g.A g.ds
  agree h hg := ⟨h.1, h.2.agree hg⟩
  mono h hS := ⟨h.1, h.2.mono hS⟩
theorem grRow {w : World} {S : Nat → Prop} {A : Option Addr} {l : List Lg} (h : grL.row w S A l) (i : Nat) (hi : i < l.length) : ∃ b o, A = some ⟨b, o, none⟩ ∧ S b ∧ b < w.heap.size ∧ w.cell? ⟨b, o + i, none⟩ = some (.slice l[i].A l[i].ds.length l[i].c) := by
  obtain ⟨b, o, e, hS, hl, hc⟩ := h.at (by decide) i hi
  refine ⟨b, o, e, hS, hl, ?_⟩
  have := hc 0 _ rfl
  simpa [grL] using this
theorem drewN_below' {B : Nat} {w w' : World} (h : Below B w w') (n : Nat) : Below B w (w'.drewN n) := ⟨h.1, h.2, h.3, h.4, fun k hk => h.5 k hk⟩
end Go.Proofs.YtmjkgnknfgoadaaGreatDoor
