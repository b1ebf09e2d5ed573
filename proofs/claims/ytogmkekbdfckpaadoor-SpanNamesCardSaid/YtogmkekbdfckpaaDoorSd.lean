/- The contracts of package span: together, Copy, Join, Cap. -/
import Derived.Test.YtogmkekbdfckpaaDoorSc
import Derived.Deep.RegionWith
namespace Go.Proofs.YtogmkekbdfckpaaDoor
open Go.RowKit

theorem infoCap : (Tryd.prog.info? 33).map (fun i => (i.zero, i.size, i.bytes)) = some (some (.agg #[.string ByteArray.empty, .int .i64 0, .int .i64 0]), 3, 32) := by kernel_rfl
/-- Captures in memory of one's own. -/
def OwnCaps (w : World) (B : Nat) (v : Value) (l : List Cap) : Prop := w.ownsRow B 33 3 v l.length (cellsOf l)
theorem cellsOf_one (l : List Cap) : ∀ u ∈ cellsOf l, u.oneCell' = true := fun u hu => by
  simp only [cellsOf, List.mem_flatMap, capCells] at hu
  obtain ⟨c, _, hu⟩ := hu
  simp only [List.mem_cons, List.not_mem_nil, or_false] at hu
  rcases hu with rfl | rfl | rfl <;> rfl

set_option maxHeartbeats 800000 in
theorem together_any (l m : List Cap) (A B : Option Addr) (c d : Nat) (w : World) (hA : RowAt w A (cellsOf l)) (hB : RowAt w B (cellsOf m)) (hl : l.length + m.length ≤ 4294967296) :
    Calls Tryd.prog 36 #[.slice A l.length c, .slice B m.length d] w fun e w' => ∃ C k, e = .returned (.slice C (l ++ m).length k) ∧ OwnCaps w' w.heap.size (.slice C (l ++ m).length k) (l ++ m) ∧ Below w.heap.size w w' := by
  obtain ⟨i0, hi, hz0, hz1, hz2⟩ := info_parts infoCap
  have hzc : (Value.agg #[.string ByteArray.empty, .int .i64 0, .int .i64 0]).cells.size = 3 := rfl
  by_cases h0 : l.length + m.length = 0
  · obtain rfl : l = [] := List.eq_nil_of_length_eq_zero (by omega)
    obtain rfl : m = [] := List.eq_nil_of_length_eq_zero (by omega)
    go_enter Tryd.func36, Tryd.ntmps36
    go_wp2_with fail
    go_ret
    exact ⟨none, 0, rfl, World.ownsRow_nil _ _ _ _, Below.refl _ _⟩
  · have e0 : (((l.length : Int) + (m.length : Int)) == 0) = false := by simp; omega
    go_enter Tryd.func36, Tryd.ntmps36
    go_wp2_with (first
      | (at_make; refine wpList_make_own _ rfl _ _ 22 rfl w.heap.size 33 i0 _ 3 Tryd.underlying22 hi hz0 hz1 .i64 .i64 _ (l.length + m.length) rfl rfl (by simp) ?_ ?_ ?_ ?_))
    · rw [hz2]; omega
    · unfold maxLen; omega
    · exact Nat.le_refl _
    intro w1 hown1 hgrow1
    have hB1 : Below w.heap.size w w1 := (Below.refl _ w).grown hgrow1 (Nat.le_refl _) (fun k e => by cases e)
    go_wp2_with (first
      | (at_builtin; refine wpList_append_row _ rfl (.tmp 18) (.tmp 19) _ rfl w.heap.size 33 i0 _ 3 32 Tryd.underlying22 hi hz0 hz1 hz2 hzc (by decide) _ 0 [] rfl hown1 A l.length c (cellsOf l) rfl (cellsOf_length l) (hA.below hB1) (cellsOf_one l) ?_ ?_ hB1.size ?_))
    · unfold maxLen; omega
    · omega
    intro v2 w2 hown2 hgrow2
    have hB2 : Below w.heap.size w w2 := hB1.grown hgrow2 hB1.size (fun k e => by cases e; exact Nat.le_refl _)
    obtain ⟨C2, c2, rfl⟩ := ownsRow_slice hown2
    go_wp2_with (first
      | (at_builtin; refine wpList_append_row _ rfl (.tmp 21) (.tmp 22) _ rfl w.heap.size 33 i0 _ 3 32 Tryd.underlying22 hi hz0 hz1 hz2 hzc (by decide) _ _ _ rfl hown2 B m.length d (cellsOf m) rfl (cellsOf_length m) (hB.below hB2) (cellsOf_one m) ?_ ?_ hB2.size ?_))
    · unfold maxLen; omega
    · omega
    intro v3 w3 hown3 hgrow3
    rw [← cellsOf_append, ← List.length_append] at hown3
    have hB3 : Below w.heap.size w w3 := hB2.grown hgrow3 hB2.size (fun k e => (hown2.lt k e).1)
    obtain ⟨C3, c3, rfl⟩ := ownsRow_slice hown3
    go_wp2_with fail
    go_ret
    exact ⟨C3, c3, rfl, hown3, hB3⟩

/-- An outcome that a call hands back, its captures in memory of the call's own. -/
def OutOwn (w : World) (B : Nat) (v : Value) (o : Outc) : Prop := ∃ A c, v = outV A c o ∧ OwnCaps w B (.slice A o.caps.length c) o.caps
theorem OutOwn.fail (w : World) (B : Nat) : OutOwn w B (outV none 0 ⟨false, 0, []⟩) ⟨false, 0, []⟩ := ⟨none, 0, rfl, World.ownsRow_nil _ _ _ _⟩

theorem blk3 {w : World} {b : Nat} {x y z : Value} {T : TypeId} (h : w.heap[b]? = some (.cells #[x, y, z] T (0, 0))) :
    w.cell? ⟨b, 0, none⟩ = some x ∧ w.cell? ⟨b, 1, none⟩ = some y ∧ w.cell? ⟨b, 2, none⟩ = some z ∧ w.frozen? ⟨b, 0, none⟩ = false ∧ w.frozen? ⟨b, 1, none⟩ = false ∧ w.frozen? ⟨b, 2, none⟩ = false := by
  simp [World.cell?, World.frozen?, h]
theorem kept1 {w W w' : World} {o : Obj} (hb : Below W.heap.size W w') (hW : W.heap = (w.alloc o).heap) : w'.heap[w.heap.size]? = some o := by
  rw [hb.block _ (by rw [hW]; simp), hW]; exact heap_alloc_new w o
theorem kept2 {w W w' : World} {o p : Obj} (hb : Below W.heap.size W w') (hW : W.heap = ((w.alloc o).alloc p).heap) : w'.heap[w.heap.size]? = some o ∧ w'.heap[w.heap.size + 1]? = some p := by
  constructor
  · rw [hb.block _ (by rw [hW]; simp; omega), hW, Below.heap_alloc _ _ _ (by simp)]; exact heap_alloc_new w o
  · rw [hb.block _ (by rw [hW]; simp), hW]; have := heap_alloc_new (w.alloc o) p; simpa using this
theorem kept3 {w W w' : World} {o p q : Obj} (hb : Below W.heap.size W w') (hW : W.heap = (((w.alloc o).alloc p).alloc q).heap) :
    w'.heap[w.heap.size]? = some o ∧ w'.heap[w.heap.size + 1]? = some p ∧ w'.heap[w.heap.size + 1 + 1]? = some q := by
  refine ⟨?_, ?_, ?_⟩
  · rw [hb.block _ (by rw [hW]; simp; omega), hW, Below.heap_alloc _ _ _ (by simp; omega), Below.heap_alloc _ _ _ (by simp)]; exact heap_alloc_new w o
  · rw [hb.block _ (by rw [hW]; simp), hW, Below.heap_alloc _ _ _ (by simp)]; have := heap_alloc_new (w.alloc o) p; simpa using this
  · rw [hb.block _ (by rw [hW]; simp), hW]; have := heap_alloc_new ((w.alloc o).alloc p) q; simpa using this
theorem kept2d {w w' : World} {o p : Obj} (hb : Below ((w.alloc o).alloc p).drew.heap.size ((w.alloc o).alloc p).drew w') : w'.heap[w.heap.size]? = some o ∧ w'.heap[w.heap.size + 1]? = some p := kept2 (W := ((w.alloc o).alloc p).drew) hb rfl
theorem kept2n {w w' : World} {o p : Obj} (hb : Below ((w.alloc o).alloc p).heap.size ((w.alloc o).alloc p) w') : w'.heap[w.heap.size]? = some o ∧ w'.heap[w.heap.size + 1]? = some p := kept2 hb rfl
theorem kept3d {w w' : World} {o p q : Obj} (hb : Below (((w.alloc o).alloc p).alloc q).drew.heap.size (((w.alloc o).alloc p).alloc q).drew w') :
    w'.heap[w.heap.size]? = some o ∧ w'.heap[w.heap.size + 1]? = some p ∧ w'.heap[w.heap.size + 1 + 1]? = some q := kept3 (W := (((w.alloc o).alloc p).alloc q).drew) hb rfl
theorem kept3n {w w' : World} {o p q : Obj} (hb : Below (((w.alloc o).alloc p).alloc q).heap.size (((w.alloc o).alloc p).alloc q) w') :
    w'.heap[w.heap.size]? = some o ∧ w'.heap[w.heap.size + 1]? = some p ∧ w'.heap[w.heap.size + 1 + 1]? = some q := kept3 hb rfl
theorem OwnCaps.set {w : World} {B : Nat} {v : Value} {l : List Cap} (h : OwnCaps w B v l) {a : Addr} (ha : a.block < B) (u : Value) : OwnCaps (w.setCell a u) B v l :=
  World.ownsRow.kept h (row := some a.block) ⟨rfl, rfl, rfl, by simp [World.setCell], fun k _ hk => Below.heap_setCell _ _ _ _ (fun e => hk (by simp [e]))⟩ (Or.inr (fun e => by have := (World.ownsRow.lt h _ e).1; omega))
theorem OwnCaps.mono {w : World} {B B' : Nat} {v : Value} {l : List Cap} (h : OwnCaps w B v l) (hb : B' ≤ B) : OwnCaps w B' v l :=
  ⟨h.1, h.2.imp id (fun ⟨g, cap, cur, e, hg, r⟩ => ⟨g, cap, cur, e, by omega, r⟩)⟩
theorem OwnCaps.row {w : World} {B : Nat} {A : Option Addr} {c : Nat} {l : List Cap} (h : OwnCaps w B (.slice A l.length c) l) : RowAt w A (cellsOf l) := RowAt.own h
theorem set3 {w w' : World} {b : Nat} {x y z : Value} (hb : Below w.heap.size w w') (h : w.heap.size ≤ b) : Below w.heap.size w (((w'.setCell ⟨b, 0, none⟩ x).setCell ⟨b, 1, none⟩ y).setCell ⟨b, 2, none⟩ z) :=
  ((hb.setCell (p := ⟨b, 0, none⟩) h x).setCell (p := ⟨b, 1, none⟩) h y).setCell (p := ⟨b, 2, none⟩) h z

set_option maxHeartbeats 4000000 in
theorem copy_any (o : Outc) (A : Option Addr) (c : Nat) (w : World) (hA : RowAt w A (cellsOf o.caps)) (hl : o.caps.length ≤ 4294967296) :
    Calls Tryd.prog 26 #[outV A c o] w fun e w' => ∃ v, e = .returned v ∧ OutOwn w' w.heap.size v o ∧ Below w.heap.size w w' := by
  obtain ⟨ok, to, l⟩ := o
  simp only at hA hl
  go_enter Tryd.func26, Tryd.ntmps26
  go_wp2_with fail
  go_region_with (go_at_call 36; go_loud (refine (together_any l [] A none c 0 _ (hA.below (box2 _ _ _).drew) (fun j u h => by simp [cellsOf] at h) (by simpa using hl)).mono ?_; rintro e w' ⟨C, k, rfl, hown, hb⟩; obtain ⟨k1, k2⟩ := kept2d hb; have f1 := blk3 k1; have f2 := blk3 k2))
  all_goals
    rw [List.append_nil] at hown
    go_wp2_with fail
    refine bodyPost_ret (v := outV C k ⟨ok, to, l⟩) (by simp [results, Tryd.results26, go_sem, f2]) rfl ⟨_, rfl, ⟨C, k, rfl, ?_⟩, ?_⟩
    · exact (((hown.mono (B' := w.heap.size + 2) (by simp)).set (a := ⟨w.heap.size + 1, 0, none⟩) (by simp) _ |>.set (a := ⟨w.heap.size + 1, 1, none⟩) (by simp) _).set (a := ⟨w.heap.size + 1, 2, none⟩) (by simp) _).mono (by omega)
    · exact set3 ((box2 w _ _).drew.trans (hb.mono (by simp; omega))) (by omega)
end Go.Proofs.YtogmkekbdfckpaaDoor
