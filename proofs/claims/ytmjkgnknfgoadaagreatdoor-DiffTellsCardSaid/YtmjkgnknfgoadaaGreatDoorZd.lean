/- The reference's table of common rows. -/
import Derived.Test.YtmjkgnknfgoadaaGreatDoorNr
import Derived.Test.YtmjkgnknfgoadaaGreatDoorZb
import Derived.Test.YtmjkgnknfgoadaaGreatDoorId
import Derived.Deep.RegionHeld3
import Derived.Deep.DeepCutAuto
import Derived.Deep.Cut
import Derived.Deep.CutRange
namespace Go.Proofs.YtmjkgnknfgoadaaGreatDoor
open Go.RowKit
set_option linter.unusedSimpArgs false
set_option linter.unusedVariables false
theorem infoInts : (Tryz.prog.info? 54).map (fun i => (i.zero, i.size, i.bytes)) = some (some (.slice none 0 0), 1, 24) := by kernel_rfl
def tabRow (a b : List Df) (j q : Nat) : List Nat := (List.range (b.length + 1)).map fun k => if q ≤ k then lcL (a.drop j) (b.drop k) else 0
theorem tabRow_len (a b : List Df) (j q : Nat) : (tabRow a b j q).length = b.length + 1 := by simp [tabRow]
theorem tabRow_at (a b : List Df) (j q k : Nat) (hk : k ≤ b.length) : (natV (tabRow a b j q))[k]? = some (.int .i64 ((if q ≤ k then lcL (a.drop j) (b.drop k) else 0 : Nat) : Int)) := by
  simp [natV, tabRow, show k < b.length + 1 by omega]
theorem tabRow_zero (a b : List Df) (j : Nat) : natV (tabRow a b j b.length) = List.replicate (b.length + 1) (.int .i64 0) := by
  apply List.ext_getElem?
  intro k
  by_cases hk : k ≤ b.length
  · rw [tabRow_at _ _ _ _ _ hk]
    simp only [List.getElem?_replicate, show k < b.length + 1 by omega, if_true]
    split
    · rw [show k = b.length by omega, List.drop_length, lcL_nil]; rfl
    · rfl
  · rw [List.getElem?_eq_none (by rw [natV_len, tabRow_len]; omega), List.getElem?_eq_none (by simp; omega)]
theorem tabRow_last (a b : List Df) (q q' : Nat) : tabRow a b a.length q = tabRow a b a.length q' := by
  unfold tabRow
  apply List.map_congr_left
  intro k _
  rw [List.drop_length]
  simp [lcL]
theorem tabRow_set (a b : List Df) (j q : Nat) (hq : q < b.length) : (natV (tabRow a b j (q + 1))).set q (.int .i64 ((lcL (a.drop j) (b.drop q) : Nat) : Int)) = natV (tabRow a b j q) := by
  apply List.ext_getElem?
  intro k
  by_cases hk : k ≤ b.length
  · rw [tabRow_at _ _ _ _ _ hk]
    by_cases e : q = k
    · subst e
      rw [List.getElem?_set_self (by rw [natV_len, tabRow_len]; omega), if_pos (Nat.le_refl _)]
    · rw [List.getElem?_set_ne e, tabRow_at _ _ _ _ _ hk]
      by_cases h : q ≤ k
      · rw [if_pos h, if_pos (by omega)]
      · rw [if_neg h, if_neg (by omega)]
  · rw [List.getElem?_eq_none (by rw [List.length_set, natV_len, tabRow_len]; omega), List.getElem?_eq_none (by rw [natV_len, tabRow_len]; omega)]
def outV (N M i : Nat) (g : Nat → Nat) : List Value := (List.range N).map fun j => if i ≤ j then .slice (some ⟨g j, 0, none⟩) M M else .slice none 0 0
theorem outV_len (N M i : Nat) (g : Nat → Nat) : (outV N M i g).length = N := by simp [outV]
theorem outV_at (N M i : Nat) (g : Nat → Nat) (j : Nat) (hj : j < N) (hi : i ≤ j) : (outV N M i g)[j]? = some (.slice (some ⟨g j, 0, none⟩) M M) := by simp [outV, hj, hi]
theorem outV_start (N M : Nat) (g : Nat → Nat) : outV N M N g = List.replicate N (.slice none 0 0) := by
  apply List.ext_getElem?
  intro j
  by_cases hj : j < N
  · simp only [outV, List.getElem?_map, List.getElem?_range hj, Option.map_some, List.getElem?_replicate, hj, if_true, if_neg (show ¬ N ≤ j by omega)]
  · rw [List.getElem?_eq_none (by rw [outV_len]; omega), List.getElem?_eq_none (by simp; omega)]
theorem outV_set (N M i b : Nat) (g : Nat → Nat) (hi : i < N) : (outV N M (i + 1) g).set i (.slice (some ⟨b, 0, none⟩) M M) = outV N M i (fun j => if j = i then b else g j) := by
  apply List.ext_getElem?
  intro j
  by_cases hj : j < N
  · by_cases e : i = j
    · subst e
      rw [List.getElem?_set_self (by rw [outV_len]; exact hi), outV_at _ _ _ _ _ hi (Nat.le_refl _)]; simp
    · rw [List.getElem?_set_ne e]
      simp only [outV, List.getElem?_map, List.getElem?_range hj, Option.map_some]
      by_cases h : i + 1 ≤ j
      · rw [if_pos h, if_pos (by omega), if_neg (by omega)]
      · rw [if_neg h, if_neg (by omega)]
  · rw [List.getElem?_eq_none (by rw [List.length_set, outV_len]; omega), List.getElem?_eq_none (by rw [outV_len]; omega)]
structure TabA (w0 : World) (G : Nat) (a b : List Df) (i : Nat) (R : List Value) (wr : World) : Prop where
  rows : ∃ g : Nat → Nat, wr.ownsRow G 54 1 (.slice (some ⟨G, 0, none⟩) (a.length + 1) (a.length + 1)) (a.length + 1) (outV (a.length + 1) (b.length + 1) i g) ∧
    (∀ j, i ≤ j → j ≤ a.length → G < g j ∧ wr.ownsRow (G + 1) 3 1 (.slice (some ⟨g j, 0, none⟩) (b.length + 1) (b.length + 1)) (b.length + 1) (if j = i then R else natV (tabRow a b j 0))) ∧
    (∀ j j', i ≤ j → j ≤ a.length → i ≤ j' → j' ≤ a.length → g j = g j' → j = j')
  below : Below G w0 wr
theorem own_lt' {w : World} {B g n c : Nat} {e : TypeId} {size : Nat} {xs : List Value} (h : w.ownsRow B e size (.slice (some ⟨g, 0, none⟩) n c) n xs) : g < w.heap.size := (own_lt h).2
theorem TabA.start {w0 w1 : World} {G : Nat} {a b : List Df} {R : List Value} (h : w1.ownsRow G 54 1 (.slice (some ⟨G, 0, none⟩) (a.length + 1) (a.length + 1)) (a.length + 1) (List.replicate (a.length + 1) (.slice none 0 0))) (hb : Below G w0 w1) : TabA w0 G a b (a.length + 1) R w1 := by
  refine ⟨⟨fun _ => 0, ?_, fun j h1 h2 => by omega, fun j j' h1 h2 => by omega⟩, hb⟩
  rw [outV_start]; exact h
theorem TabA.row {w0 : World} {G : Nat} {a b : List Df} {i : Nat} {wr w2 : World} (h : TabA w0 G a b (i + 1) (natV (tabRow a b (i + 1) 0)) wr) (hi : i ≤ a.length) (hG : G < wr.heap.size) (hb : Below wr.heap.size wr w2) (hn : w2.ownsRow wr.heap.size 3 1 (.slice (some ⟨wr.heap.size, 0, none⟩) (b.length + 1) (b.length + 1)) (b.length + 1) (natV (tabRow a b i b.length))) :
    TabA w0 G a b i (natV (tabRow a b i b.length)) (w2.setCell ⟨G, i, none⟩ (.slice (some ⟨wr.heap.size, 0, none⟩) (b.length + 1) (b.length + 1))) := by
  obtain ⟨g, h1, h2, h3⟩ := h.rows
  have h1' : w2.ownsRow G 54 1 (.slice (some ⟨G, 0, none⟩) (a.length + 1) (a.length + 1)) (a.length + 1) (outV (a.length + 1) (b.length + 1) (i + 1) g) := own_below h1 hb
  have hst := (World.ownsRow.stored h1' i (.slice (some ⟨wr.heap.size, 0, none⟩) (b.length + 1) (b.length + 1))).1
  rw [outV_set _ _ _ _ _ (by omega)] at hst
  have hne : ∀ x, x ≠ G → (w2.setCell ⟨G, i, none⟩ (.slice (some ⟨wr.heap.size, 0, none⟩) (b.length + 1) (b.length + 1))).heap[x]? = w2.heap[x]? := fun x hx => Below.heap_setCell _ _ _ _ hx
  refine ⟨⟨fun j => if j = i then wr.heap.size else g j, hst, fun j hj hja => ?_, fun j j' hj hja hj' hja' e => ?_⟩, (h.below.trans (hb.mono (by omega))).setCell (p := ⟨G, i, none⟩) (Nat.le_refl _) _⟩
  · by_cases e : j = i
    · subst e
      simp only [if_true]
      exact ⟨hG, own_mono (own_agree hn fun x hx => hne x (by have hx3 : wr.heap.size = x := Option.some.inj hx; omega)) (by omega)⟩
    · dsimp only
      rw [if_neg e, if_neg e]
      obtain ⟨k1, k2⟩ := h2 j (by omega) hja
      have k2' : wr.ownsRow (G + 1) 3 1 (.slice (some ⟨g j, 0, none⟩) (b.length + 1) (b.length + 1)) (b.length + 1) (natV (tabRow a b j 0)) := by
        by_cases e2 : j = i + 1
        · subst e2; simpa using k2
        · simpa [e2] using k2
      exact ⟨k1, own_agree (own_below k2' hb) fun x hx => hne x (by have hx3 : g j = x := Option.some.inj hx; omega)⟩
  · by_cases e1 : j = i
    · by_cases e2 : j' = i
      · omega
      · simp only [e1, if_true, if_neg e2] at e
        have := own_lt' (h2 j' (by omega) hja').2
        omega
    · by_cases e2 : j' = i
      · simp only [e2, if_true, if_neg e1] at e
        have := own_lt' (h2 j (by omega) hja).2
        omega
      · simp only [if_neg e1, if_neg e2] at e
        exact h3 j j' (by omega) hja (by omega) hja' e
theorem TabA.go {w0 : World} {G : Nat} {a b : List Df} {i : Nat} {R : List Value} {wr w2 : World} (h : TabA w0 G a b i R wr) (hb : Below wr.heap.size wr w2) (hG : G < wr.heap.size) : TabA w0 G a b i R w2 := by
  obtain ⟨g, h1, h2, h3⟩ := h.rows
  exact ⟨⟨g, own_below h1 hb, fun j hj hja => ⟨(h2 j hj hja).1, own_below (h2 j hj hja).2 hb⟩, h3⟩, h.below.trans (hb.mono (by omega))⟩
theorem TabA.lt {w0 : World} {G : Nat} {a b : List Df} {i : Nat} {R : List Value} {wr : World} (h : TabA w0 G a b i R wr) : G < wr.heap.size := by
  obtain ⟨g, h1, h2, h3⟩ := h.rows
  exact own_lt' h1
theorem TabA.opened {w0 : World} {G : Nat} {a b : List Df} {i q : Nat} {R : List Value} {wr : World} (h : TabA w0 G a b i R wr) (hi : i < a.length) (hq : q < b.length) :
    ∃ g1 g2 : Nat, G < g1 ∧ G < g2 ∧ g1 ≠ g2 ∧ wr.cell? ⟨G, i, none⟩ = some (.slice (some ⟨g1, 0, none⟩) (b.length + 1) (b.length + 1)) ∧ wr.cell? ⟨G, i + 1, none⟩ = some (.slice (some ⟨g2, 0, none⟩) (b.length + 1) (b.length + 1)) ∧
      (∀ x, R[q]? = some x → wr.cell? ⟨g1, q, none⟩ = some x) ∧ (∀ x, R[q + 1]? = some x → wr.cell? ⟨g1, q + 1, none⟩ = some x) ∧ wr.cell? ⟨g2, q, none⟩ = some (.int .i64 (lcL (a.drop (i + 1)) (b.drop q) : Nat)) ∧ wr.cell? ⟨g2, q + 1, none⟩ = some (.int .i64 (lcL (a.drop (i + 1)) (b.drop (q + 1)) : Nat)) ∧
      wr.frozen? ⟨g1, q, none⟩ = false ∧ ∀ v, TabA w0 G a b i (R.set q v) (wr.setCell ⟨g1, q, none⟩ v) := by
  obtain ⟨g, h1, h2, h3⟩ := h.rows
  obtain ⟨k1, k2⟩ := h2 i (Nat.le_refl _) (by omega)
  obtain ⟨l1, l2⟩ := h2 (i + 1) (by omega) (by omega)
  rw [if_pos rfl] at k2
  rw [if_neg (by omega)] at l2
  have hgn : g i ≠ g (i + 1) := fun e => by have := h3 i (i + 1) (Nat.le_refl _) (by omega) (by omega) (by omega) e; omega
  refine ⟨g i, g (i + 1), k1, l1, hgn, own_cell h1 i (by omega) (outV_at _ _ _ _ _ (by omega) (Nat.le_refl _)), own_cell h1 (i + 1) (by omega) (outV_at _ _ _ _ _ (by omega) (by omega)),
    fun x hx => own_cell k2 q (by omega) hx, fun x hx => own_cell k2 (q + 1) (by omega) hx, own_cell l2 q (by omega) (by rw [tabRow_at _ _ _ _ _ (by omega)]; simp), own_cell l2 (q + 1) (by omega) (by rw [tabRow_at _ _ _ _ _ (by omega)]; simp), World.ownsRow.frozenAt k2 q, fun v => ?_⟩
  have hne : ∀ x, x ≠ g i → (wr.setCell ⟨g i, q, none⟩ v).heap[x]? = wr.heap[x]? := fun x hx => Below.heap_setCell _ _ _ _ hx
  refine ⟨⟨g, own_agree h1 fun x hx => hne x (by have hx3 : G = x := Option.some.inj hx; omega), fun j hj hja => ?_, h3⟩, h.below.setCell (p := ⟨g i, q, none⟩) (Nat.le_of_lt k1) _⟩
  by_cases e : j = i
  · subst e
    rw [if_pos rfl]
    exact ⟨k1, (World.ownsRow.stored k2 q v).1⟩
  · have hx := h2 j hj hja
    rw [if_neg e] at hx ⊢
    exact ⟨hx.1, own_agree hx.2 fun x hx => hne x (by have hx3 : g j = x := Option.some.inj hx; intro e2; exact e (h3 j i hj hja (Nat.le_refl _) (by omega) (by omega)))⟩
def TabPost (a b : List Df) (w : World) (e : Ending) (w' : World) : Prop := e = .returned (.slice (some ⟨w.heap.size, 0, none⟩) (a.length + 1) (a.length + 1)) ∧ TabA w w.heap.size a b 0 (natV (tabRow a b 0 0)) w'
set_option maxRecDepth 100000 in
set_option maxHeartbeats 6400000 in
theorem table_any (la lb : List Ld) (A B : Option Addr) (c d : Nat) (S T : Nat → Prop) (w : World) (hA : dfL.row w S A la) (hB : dfL.row w T B lb) (hl : la.length ≤ 100000) (hm : lb.length ≤ 100000)
    (hma : ∀ x ∈ la, ModR x.t) (hmb : ∀ x ∈ lb, ModR x.t) :
    Calls Tryz.prog 74 #[.slice A la.length c, .slice B lb.length d] w (TabPost (la.map Ld.df) (lb.map Ld.df) w) := by
  obtain ⟨i0, hi, hz0, hz1, hz2⟩ := info_parts infoInt
  obtain ⟨j0, hj, hy0, hy1, hy2⟩ := info_parts infoInts
  have HTA := Lib.hid hA; have HTB := Lib.hid hB; have HMA := Lib.hid hma; have HMB := Lib.hid hmb
  clear hA hB hma hmb
  unfold TabPost
  go_enter Tryz.func74, Tryz.ntmps74
  have F1 := Lib.hid (show j0.bytes * (la.length + 1) ≤ 281474976710656 ∧ la.length + 1 ≤ maxLen from ⟨by rw [hy2]; omega, by unfold maxLen; omega⟩)
  have F2 := Lib.hid (show i0.bytes * (lb.length + 1) ≤ 281474976710656 ∧ lb.length + 1 ≤ maxLen from ⟨by rw [hz2]; omega, by unfold maxLen; omega⟩)
  have e0 : IntKind.i64.wrap ((la.length : Int) + 1) = ((la.length + 1 : Nat) : Int) := by rw [IntWalk.i64_in _ (by omega)]; omega
  have e1 : IntKind.i64.wrap ((lb.length : Int) + 1) = ((lb.length + 1 : Nat) : Int) := by rw [IntWalk.i64_in _ (by omega)]; omega
  go_wp2_with (first
    | (at_make; refine wpList_make_full _ rfl _ _ 108 rfl w.heap.size 54 j0 _ 1 Tryz.underlying108 hj hy0 hy1 .i64 .i64 _ _ (la.length + 1) rfl rfl rfl rfl F1.out.1 F1.out.2 (Nat.le_refl _) ?_; intro w1 hown1 hgrow1; have HO1 := Lib.hid hown1; have HB1 := Lib.hid (show Below w.heap.size w w1 from (Below.refl _ _).grown hgrow1 (Nat.le_refl _) (fun k e => by cases e)); clear hown1 hgrow1)
    | fail)
  have hLA : (la.map Ld.df).length = la.length := List.length_map ..
  have hLB : (lb.map Ld.df).length = lb.length := List.length_map ..
  have HT1 := Lib.hid (show TabA w w.heap.size (la.map Ld.df) (lb.map Ld.df) ((la.map Ld.df).length + 1) (natV (tabRow (la.map Ld.df) (lb.map Ld.df) (la.length + 1) 0)) w1 from TabA.start (by
    have h := HO1.out
    rw [show (Value.slice none 0 0).cells = #[.slice none 0 0] from rfl, Nat.mul_one, toList_madeCells_one] at h
    rw [hLA]; exact h) HB1.out)
  rw [hLA] at HT1
  clear HO1 HB1
  go_wp2_with fail
  go_loopw [6] (fun i wr => ∃ n : Nat, n ≤ la.length + 1 ∧ i = .int .i64 ((n : Int) - 1) ∧ Hid (TabA w w.heap.size (la.map Ld.df) (lb.map Ld.df) n (natV (tabRow (la.map Ld.df) (lb.map Ld.df) n 0)) wr)) (fun i _ => (intOf i + 1).toNat)
  case atStart => exact ⟨la.length + 1, Nat.le_refl _, by go_num, HT1⟩
  case round =>
    clear HT1
    obtain ⟨n, hn, rfl, HT⟩ := hrel
    rcases n with _ | i
    · have e3 : ¬ (0 : Int) ≤ ((0 : Nat) : Int) - 1 := by omega
      go_wp2_with fail
      go_ret
      exact ⟨by first | rfl | (rw [hLA]; rfl), HT.out⟩
    · have hii : ((i + 1 : Nat) : Int) - 1 = (i : Int) := by omega
      rw [hii]
      have i1 : (0 : Int) ≤ (i : Int) := by omega
      have i2 : (i : Int) < ((la.length + 1 : Nat) : Int) := by omega
      have i3 : (i : Int) < (la.length : Int) + 1 := by omega
      have HGL := Lib.hid HT.out.lt
      have HC0 := Lib.hid (show ∀ w2, Below wr.heap.size wr w2 → (∃ u, w2.cell? ⟨w.heap.size, i, none⟩ = some u) ∧ w2.frozen? ⟨w.heap.size, i, none⟩ = false from fun w2 hb => by
        obtain ⟨g, h1, _, _⟩ := (HT.out.go hb HGL.out).rows
        exact ⟨⟨_, own_cell h1 i (by omega) (List.getElem?_eq_getElem (by rw [outV_len]; omega))⟩, World.ownsRow.frozenAt h1 i⟩)
      have hin : i ≤ la.length := by omega
      go_wp2_with (first
        | (at_make; refine wpList_make_full _ rfl _ _ 54 rfl wr.heap.size 3 i0 _ 1 Tryz.underlying54 hi hz0 hz1 .i64 .i64 _ _ (lb.length + 1) rfl rfl rfl rfl F2.out.1 F2.out.2 (Nat.le_refl _) ?_; intro w2 hown2 hgrow2; have HO2 := Lib.hid hown2; have HB2 := Lib.hid (show Below wr.heap.size wr w2 from (Below.refl _ _).grown hgrow2 (Nat.le_refl _) (fun k e => by cases e)); clear hown2 hgrow2; obtain ⟨⟨u0, hu0⟩, hf0⟩ := HC0.out w2 HB2.out)
        | fail)
      have HT2 := Lib.hid (TabA.row HT.out (by omega) HGL.out HB2.out (show w2.ownsRow wr.heap.size 3 1 (.slice (some ⟨wr.heap.size, 0, none⟩) ((lb.map Ld.df).length + 1) ((lb.map Ld.df).length + 1)) ((lb.map Ld.df).length + 1) (natV (tabRow (la.map Ld.df) (lb.map Ld.df) i (lb.map Ld.df).length)) from by
        have h := HO2.out
        rw [show (Value.int IntKind.i64 0).cells = #[.int .i64 0] from rfl, Nat.mul_one, toList_madeCells_one] at h
        rw [tabRow_zero, hLB]; exact h))
      rw [hLB] at HT2
      clear hu0 hf0
      generalize w2.setCell ⟨w.heap.size, i, none⟩ (.slice (some ⟨wr.heap.size, 0, none⟩) (lb.length + 1) (lb.length + 1)) = w3 at *
      clear HT HC0 HO2 HB2
      have HGW := Lib.hid (show w.heap.size < w3.heap.size from HT2.out.lt)
      go_wp2_with fail
      go_loopw [7] (fun k wr => ∃ n : Nat, n ≤ lb.length ∧ (i < la.length ∨ n = lb.length) ∧ k = .int .i64 ((n : Int) - 1) ∧ Hid (TabA w w.heap.size (la.map Ld.df) (lb.map Ld.df) i (natV (tabRow (la.map Ld.df) (lb.map Ld.df) i n)) wr)) (fun k _ => (intOf k + 1).toNat)
      case atStart => exact ⟨lb.length, Nat.le_refl _, Or.inr rfl, by go_num, HT2⟩
      case round =>
        clear HT2 HGW HGL
        obtain ⟨wx, rfl⟩ : ∃ wx : World, wx = wr := ⟨_, rfl⟩
        obtain ⟨n, hn, hin2, rfl, HT⟩ := hrel
        by_cases hil : i < la.length
        · rcases n with _ | q
          · have e3 : ¬ (0 : Int) ≤ ((0 : Nat) : Int) - 1 := by omega
            go_wp2_with fail
            exact ⟨⟨i, by omega, by go_num, HT⟩, by simp only [intOf]; omega⟩
          · have hqq : ((q + 1 : Nat) : Int) - 1 = (q : Int) := by omega
            rw [hqq]
            have k1 : (0 : Int) ≤ (q : Int) := by omega
            have i4 : (i : Int) < (la.length : Int) := by omega
            have hql : q < lb.length := by omega
            have HSTP := Lib.hid (lc_step (a := la.map Ld.df) (b := lb.map Ld.df) (i := i) (k := q) (by rw [hLA]; exact hil) (by rw [hLB]; exact hql))
            have HEND := Lib.hid (show ∀ (x : Int) wz, x = (lcL ((la.map Ld.df).drop i) ((lb.map Ld.df).drop q) : Nat) → TabA w w.heap.size (la.map Ld.df) (lb.map Ld.df) i ((natV (tabRow (la.map Ld.df) (lb.map Ld.df) i (q + 1))).set q (.int .i64 x)) wz → TabA w w.heap.size (la.map Ld.df) (lb.map Ld.df) i (natV (tabRow (la.map Ld.df) (lb.map Ld.df) i q)) wz from fun x wz hx h => by
              subst hx
              rwa [tabRow_set _ _ _ _ (by rw [hLB]; exact hql)] at h)
            have HGX := Lib.hid HT.out.lt
            obtain ⟨g1, g2, hg1, hg2, hg3, c1, c2, c3, c4, c5, c6, hf, hset⟩ := (HT.out.go (Below.refl _ wx).drew HGX.out).opened (i := i) (q := q) (by rw [hLA]; exact hil) (by rw [hLB]; exact hql)
            have c3 := c3 _ (tabRow_at _ _ _ _ _ (by rw [hLB]; omega))
            have c4 := c4 _ (tabRow_at _ _ _ _ _ (by rw [hLB]; omega))
            have HSET := Lib.hid hset; clear hset
            rw [hLB] at c1 c2
            rw [if_pos (Nat.le_refl _)] at c4
            have m1 := lc_le ((la.map Ld.df).drop (i + 1)) ((lb.map Ld.df).drop q)
            have m2 := lc_le ((la.map Ld.df).drop i) ((lb.map Ld.df).drop (q + 1))
            have m3 := lc_le ((la.map Ld.df).drop (i + 1)) ((lb.map Ld.df).drop (q + 1))
            simp only [List.length_drop, hLA] at m1 m2 m3
            have HROW := Lib.hid (show ∀ x, ((natV (tabRow (la.map Ld.df) (lb.map Ld.df) i (q + 1))).set q (.int .i64 x))[q]? = some (.int .i64 x) from fun x => List.getElem?_set_self (by rw [natV_len, tabRow_len, hLB]; omega))
            have HTX := Lib.hid (show TabA w w.heap.size (la.map Ld.df) (lb.map Ld.df) i (natV (tabRow (la.map Ld.df) (lb.map Ld.df) i (q + 1))) wx from HT.out)
            have HXE := Lib.hid (show (if q + 1 ≤ q then lcL ((la.map Ld.df).drop i) ((lb.map Ld.df).drop q) else 0) = 0 from if_neg (by omega))
            generalize (if q + 1 ≤ q then lcL ((la.map Ld.df).drop i) ((lb.map Ld.df).drop q) else 0) = z0 at *
            generalize lcL ((la.map Ld.df).drop i) ((lb.map Ld.df).drop q) = L00 at *
            have HL10 := Lib.hid (Eq.refl (lcL ((la.map Ld.df).drop (i + 1)) ((lb.map Ld.df).drop q)))
            generalize lcL ((la.map Ld.df).drop (i + 1)) ((lb.map Ld.df).drop q) = L10 at *
            generalize lcL ((la.map Ld.df).drop i) ((lb.map Ld.df).drop (q + 1)) = L01 at *
            clear HL10
            have HT3 := Lib.hid (show TabA w w.heap.size (la.map Ld.df) (lb.map Ld.df) i ((natV (tabRow (la.map Ld.df) (lb.map Ld.df) i (q + 1))).set q (.int .i64 (max (L10 : Int) (L01 : Int)))) (wx.setCell ⟨g1, q, none⟩ (.int .i64 (max (L10 : Int) (L01 : Int)))).drew from HSET.out (.int .i64 (max (L10 : Int) (L01 : Int))))
            have e6 : IntKind.i64.wrap ((i : Int) + 1) = (i : Int) + 1 := IntWalk.i64_in _ (by omega)
            have e7 : IntKind.i64.wrap ((q : Int) + 1) = (q : Int) + 1 := IntWalk.i64_in _ (by omega)
            have c1x : wx.cell? ⟨w.heap.size, i, none⟩ = some (.slice (some ⟨g1, 0, none⟩) (lb.length + 1) (lb.length + 1)) := c1
            have c2x : wx.cell? ⟨w.heap.size, i + 1, none⟩ = some (.slice (some ⟨g2, 0, none⟩) (lb.length + 1) (lb.length + 1)) := c2
            have c4x : wx.cell? ⟨g1, q + 1, none⟩ = some (.int .i64 (L01 : Int)) := c4
            have c5x : wx.cell? ⟨g2, q, none⟩ = some (.int .i64 (L10 : Int)) := c5
            have k2 : (q : Int) < (lb.length : Int) := by omega
            have k3 : (q : Int) < (lb.length : Int) + 1 := by omega
            have k4 : (q : Int) + 1 < (lb.length : Int) + 1 := by omega
            have i5 : (i : Int) + 1 < (la.length : Int) + 1 := by omega
            have i6 : (0 : Int) ≤ (i : Int) + 1 := by omega
            have k6 : (0 : Int) ≤ (q : Int) + 1 := by omega
            have i7 : ((i : Int) + 1).toNat = i + 1 := by omega
            have k7 : ((q : Int) + 1).toNat = q + 1 := by omega
            clear HSET
            go_upto_region 9 with (fail)
            go_still_tail 23, (by kernel_rfl)
            change wpList _ _ _ _ _ wx.drew
            clear c1x c2x c4x c5x c1 c2 c4 c5 c6
            go_upto_region 10 with (fail)
            clear c3 hf e6 e7
            have HGY := Lib.hid HT3.out.lt
            generalize (wx.setCell ⟨g1, q, none⟩ (.int .i64 (max (L10 : Int) (L01 : Int)))).drew = wy at *
            have HBY := Lib.hid HT3.out.below
            obtain ⟨ab, ao, rfl, _, _, x0, x1, x2⟩ := dfRow (HTA.out.agree (below_all HBY.out)) i hil
            obtain ⟨bb, bo, rfl, _, _, y0, y1, y2⟩ := dfRow (HTB.out.agree (below_all HBY.out)) q hql
            have HIA := Lib.hid (dfSub (HTA.out.agree (below_all HBY.out)) i hil)
            have HIB := Lib.hid (dfSub (HTB.out.agree (below_all HBY.out)) q hql)
            have HM1 := Lib.hid (HMA.out la[i] (List.getElem_mem hil)); have HM2 := Lib.hid (HMB.out lb[q] (List.getElem_mem hql))
            have HSB := Lib.hid (show ∀ w', Below wy.heap.size wy w' → (w'.cell? ⟨ab, ao + i * 3, none⟩ = some (.string la[i].name) ∧ w'.cell? ⟨ab, ao + i * 3 + 1, none⟩ = some (.slice la[i].t.A la[i].t.ls.length la[i].t.c) ∧ w'.cell? ⟨ab, ao + i * 3 + 2, none⟩ = some (.int .i64 la[i].t.root)) ∧ w'.cell? ⟨bb, bo + q * 3, none⟩ = some (.string lb[q].name) ∧ w'.cell? ⟨bb, bo + q * 3 + 1, none⟩ = some (.slice lb[q].t.A lb[q].t.ls.length lb[q].t.c) ∧ w'.cell? ⟨bb, bo + q * 3 + 2, none⟩ = some (.int .i64 lb[q].t.root) from fun w' hb =>
              ⟨⟨(hb.cell (cellLt x0)).trans x0, (hb.cell (cellLt x1)).trans x1, (hb.cell (cellLt x2)).trans x2⟩, (hb.cell (cellLt y0)).trans y0, (hb.cell (cellLt y1)).trans y1, (hb.cell (cellLt y2)).trans y2⟩)
            have HSTQ := Lib.hid (show (sameD la[i].df lb[q].df = true → max (max L10 L01) (1 + lcL ((la.map Ld.df).drop (i + 1)) ((lb.map Ld.df).drop (q + 1))) = L00) ∧ (sameD la[i].df lb[q].df = false → max L10 L01 = L00) from by
              have h := HSTP.out
              simp only [List.getElem_map] at h
              exact ⟨fun h1 => (h.1 h1).1, h.2⟩)
            clear x0 x1 x2 y0 y1 y2 HSTP
            go_region_held3 (fun w' => (w'.cell? ⟨ab, ao + i * 3, none⟩ = some (.string la[i].name) ∧ w'.cell? ⟨ab, ao + i * 3 + 1, none⟩ = some (.slice la[i].t.A la[i].t.ls.length la[i].t.c) ∧ w'.cell? ⟨ab, ao + i * 3 + 2, none⟩ = some (.int .i64 la[i].t.root)) ∧ w'.cell? ⟨bb, bo + q * 3, none⟩ = some (.string lb[q].name) ∧ w'.cell? ⟨bb, bo + q * 3 + 1, none⟩ = some (.slice lb[q].t.A lb[q].t.ls.length lb[q].t.c) ∧ w'.cell? ⟨bb, bo + q * 3 + 2, none⟩ = some (.int .i64 lb[q].t.root))
              (first | exact HSB.out _ (Below.refl _ _).drew | exact HSB.out _ HB3.out)
              (((go_at_call 75; (with_reducible refine (r30same_any la[i] lb[q] S T _ (HIA.out.below (Below.refl _ wy).drew) (HIB.out.below (Below.refl _ wy).drew) HM1.out HM2.out).mono ?_)); rintro e w3 ⟨rfl, hb3⟩; have HB3 := Lib.hid (show Below wy.heap.size wy w3 from (Below.refl _ wy).drew.trans hb3); clear hb3))
            have HT4 := Lib.hid (HT3.out.go HB3.out HGY.out)
            clear HSB HIA HIB HM1 HM2 HB3 HT3 HBY
            cases hsd : sameD la[i].df lb[q].df
            · have HE := Lib.hid (HEND.out _ _ (by rw [← HSTQ.out.2 hsd, max_cast]) HT4.out)
              go_wp2_with fail
              exact ⟨⟨q, by omega, Or.inl hil, by go_num, HE⟩, by simp only [intOf]; omega⟩
            · have HG4 := Lib.hid HT4.out.lt
              have HQ := Lib.hid (HSTQ.out.1 hsd)
              clear HSTQ hsd
              obtain ⟨h1, h2, hh1, hh2, hh3, c1, c2, c3, c4, c5, c6, hf, hset⟩ := (HT4.out.go (Below.refl _ w3).drew HG4.out).opened (i := i) (q := q) (by rw [hLA]; exact hil) (by rw [hLB]; exact hql)
              have c3 := c3 _ (HROW.out _)
              have HSET := Lib.hid hset; clear hset
              rw [hLB] at c1 c2
              generalize lcL ((la.map Ld.df).drop (i + 1)) ((lb.map Ld.df).drop (q + 1)) = L11 at *
              have HT5 := Lib.hid (show TabA w w.heap.size (la.map Ld.df) (lb.map Ld.df) i (natV (tabRow (la.map Ld.df) (lb.map Ld.df) i q)) (w3.setCell ⟨h1, q, none⟩ (.int .i64 (max (max (L10 : Int) (L01 : Int)) (1 + (L11 : Int))))).drew from HEND.out (max (max (L10 : Int) (L01 : Int)) (1 + (L11 : Int))) _ (by have h := congrArg (fun n : Nat => (n : Int)) HQ.out; simp only [max_cast, Int.natCast_add, Int.natCast_one] at h; exact h) (by have h := HSET.out (.int .i64 (max (max (L10 : Int) (L01 : Int)) (1 + (L11 : Int)))); rw [List.set_set] at h; exact h))
              rw [show max (max (L10 : Int) (L01 : Int)) (1 + (L11 : Int)) = max (L10 : Int) (max (L01 : Int) (1 + (L11 : Int))) from by omega] at HT5
              have e6 : IntKind.i64.wrap ((i : Int) + 1) = (i : Int) + 1 := IntWalk.i64_in _ (by omega)
              have e7 : IntKind.i64.wrap ((q : Int) + 1) = (q : Int) + 1 := IntWalk.i64_in _ (by omega)
              have e8 : IntKind.i64.wrap (1 + (L11 : Int)) = 1 + (L11 : Int) := IntWalk.i64_in _ (by omega)
              have c1x : w3.cell? ⟨w.heap.size, i, none⟩ = some (.slice (some ⟨h1, 0, none⟩) (lb.length + 1) (lb.length + 1)) := c1
              have c2x : w3.cell? ⟨w.heap.size, i + 1, none⟩ = some (.slice (some ⟨h2, 0, none⟩) (lb.length + 1) (lb.length + 1)) := c2
              have c3x : w3.cell? ⟨h1, q, none⟩ = some (.int .i64 (max (L10 : Int) (L01 : Int))) := c3
              have c6x : w3.cell? ⟨h2, q + 1, none⟩ = some (.int .i64 (L11 : Int)) := c6
              clear HSET c4 c5 HEND HROW HT4 HTX HT
              go_upto_region 11 with (fail)
              go_still_tail 24, (by kernel_rfl)
              change wpList _ _ _ _ _ w3.drew
              clear c1x c2x c3x c6x c1 c2 c6 e6 e7 e8
              go_wp2_with fail
              exact ⟨⟨q, by omega, Or.inl hil, by go_num, HT5⟩, by simp only [intOf]; omega⟩
        · have i4 : ¬ (i : Int) < (la.length : Int) := by omega
          have hnl : n = lb.length := by omega
          subst hnl
          have HTL := Lib.hid (show TabA w w.heap.size (la.map Ld.df) (lb.map Ld.df) i (natV (tabRow (la.map Ld.df) (lb.map Ld.df) i 0)) wx from by
            have h := HT.out
            rw [show i = (la.map Ld.df).length by rw [hLA]; omega] at h ⊢
            rwa [tabRow_last _ _ _ 0] at h)
          by_cases hz : lb.length = 0
          · have e3 : ¬ (0 : Int) ≤ (lb.length : Int) - 1 := by omega
            go_wp2_with fail
            exact ⟨⟨i, by omega, by go_num, HTL⟩, by simp only [intOf]; omega⟩
          · have e3 : (0 : Int) ≤ (lb.length : Int) - 1 := by omega
            go_wp2_with fail
            exact ⟨⟨i, by omega, by go_num, HTL⟩, by simp only [intOf]; omega⟩
end Go.Proofs.YtmjkgnknfgoadaaGreatDoor
