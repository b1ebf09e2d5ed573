/- The walk of DiffTells. -/
import Derived.Test.YtmjkgnknfgoadaaGreatDoorZf
import Derived.Test.YtmjkgnknfgoadaaGreatDoorZg
import Derived.Test.YtmjkgnknfgoadaaGreatDoorEa
import Derived.Test.YtmjkgnknfgoadaaGreatDoorEh
import Derived.Test.YtmjkgnknfgoadaaGreatDoorEl
import Derived.Test.YtmjkgnknfgoadaaGreatDoorRj
import Derived.BigQuiet
import Derived.Deep.RegionHeld3
import Derived.Deep.DeepCutAuto
import Derived.Deep.Cut
import Derived.Deep.CutRange
namespace Go.Proofs.YtmjkgnknfgoadaaGreatDoor
open Go.RowKit
set_option linter.unusedSimpArgs false
set_option linter.unusedVariables false
def NotG (w : World) (x : Nat) : Prop := ∃ o, w.heap[x]? = some o ∧ ∀ cs fz, o ≠ .cells cs 24 fz
theorem notG_below {w w' : World} (hb : Below w.heap.size w w') {x : Nat} (h : NotG w x) : NotG w' x := by
  obtain ⟨o, ho, hn⟩ := h
  exact ⟨o, (hb.block x (Array.getElem?_eq_some_iff.1 ho).1).trans ho, hn⟩
theorem notG_but {w w' : World} {p : Nat} {cs : Array Value} {fz : Nat × Nat} (hp : w.heap[p]? = some (.cells cs 24 fz)) (hb : ∀ k, k ≠ p → w'.heap[k]? = w.heap[k]?) : Agree (NotG w) w w' ∧ ∀ x, NotG w x → NotG w' x := by
  have key : ∀ x, NotG w x → w'.heap[x]? = w.heap[x]? := fun x ⟨o, ho, hn⟩ => hb x (fun e => by rw [e, hp] at ho; injection ho with ho; exact hn _ _ ho.symm)
  exact ⟨fun x hx _ => key x hx, fun x hx => by obtain ⟨o, ho, hn⟩ := id hx; exact ⟨o, (key x hx).trans ho, hn⟩⟩
theorem own_notG {w : World} {S : Nat → Prop} {e : TypeId} {size n c : Nat} {V : Option Addr} {xs : List Value} (h : OwnS w S e size V n c xs) (he : e ≠ 24) : OwnS w (NotG w) e size V n c xs :=
  ⟨h.1, fun k hk => by
    obtain ⟨cur, hc⟩ := own_cells h.1 hk
    exact ⟨_, hc, fun cs fz e' => he (by injection e' with _ e2)⟩⟩
theorem tree_notG {w : World} {S : Nat → Prop} {t : Lt} (h : TreeOwn w S t) : TreeOwn w (NotG w) t :=
  ⟨h.len, own_notG h.row (by decide), fun l hl => ⟨(h.kids l hl).1, own_notG (h.kids l hl).2 (by decide)⟩⟩
theorem gram_notG {w : World} {S : Nat → Prop} {A : Option Addr} {c : Nat} {ds : List Ld} (h : GramOwn w S A c ds) : dfL.row w (NotG w) A ds := by
  obtain ⟨Q, h1, h2, _⟩ := h.kids
  refine ⟨(own_notG h.row (by decide)).row, fun d hd => ?_⟩
  obtain ⟨i, hi, rfl⟩ := List.mem_iff_getElem.1 hd
  exact ⟨(h1 i hi).1, (tree_notG (h1 i hi).2).inn⟩
def OwnG (w : World) (v : Value) (D : List Df) : Prop := ∃ (V : Option Addr) (c : Nat) (ds : List Ld), v = .agg #[.slice V ds.length c] ∧ dfL.row w (NotG w) V ds ∧ ds.map Ld.df = D
theorem OwnG.below {w w' : World} {v : Value} {D : List Df} (h : OwnG w v D) (hb : Below w.heap.size w w') : OwnG w' v D := by
  obtain ⟨V, c, ds, hv, ho, ht⟩ := h
  exact ⟨V, c, ds, hv, (ho.below hb).mono (fun x _ hx => notG_below hb hx), ht⟩
theorem OwnG.but {w w' : World} {p : Nat} {v : Value} {D : List Df} {cs : Array Value} {fz : Nat × Nat} (h : OwnG w v D) (hp : w.heap[p]? = some (.cells cs 24 fz)) (hb : ∀ k, k ≠ p → w'.heap[k]? = w.heap[k]?) : OwnG w' v D := by
  obtain ⟨V, c, ds, hv, ho, ht⟩ := h
  obtain ⟨h1, h2⟩ := notG_but hp hb
  exact ⟨V, c, ds, hv, (ho.agree h1).mono (fun x _ hx => h2 x hx), ht⟩
def BoxG (w : World) (B : Nat) (v : Value) (U : Prop) (src : Value) : Prop :=
  ∃ (p : Nat) (x : Value), v = .pointer (some ⟨p, 0, none⟩) ∧ B ≤ p ∧ w.heap[p]? = some (.cells #[x] 24 (0, 0)) ∧ (U → src = .agg #[x])
theorem BoxG.below {w w' : World} {B : Nat} {v : Value} {U U' : Prop} {src : Value} (h : BoxG w B v U src) (hU : U' → U) (hb : Below w.heap.size w w') : BoxG w' B v U' src := by
  obtain ⟨p, x, he, hB, hh, hs⟩ := h
  exact ⟨p, x, he, hB, bx_kept hb hh, fun u => hs (hU u)⟩
theorem BoxG.but {w w' : World} {B p : Nat} {v : Value} {U U' : Prop} {src : Value} (h : BoxG w B v U src) (hU : U' → U) (hne : v ≠ .pointer (some ⟨p, 0, none⟩)) (hb : ∀ k, k ≠ p → w'.heap[k]? = w.heap[k]?) : BoxG w' B v U' src := by
  obtain ⟨q, x, he, hB, hh, hs⟩ := h
  exact ⟨q, x, he, hB, (hb q (fun e => hne (by rw [he, e]))).trans hh, fun u => hs (hU u)⟩
theorem BoxG.off {w : World} {B : Nat} {v : Value} {U U' : Prop} {src src' : Value} (h : BoxG w B v U src) (hU : ¬ U') : BoxG w B v U' src' := by
  obtain ⟨q, x, he, hB, hh, hs⟩ := h
  exact ⟨q, x, he, hB, hh, fun u => absurd u hU⟩
theorem BoxG.new {w : World} {B : Nat} (hB : B ≤ w.heap.size) {U : Prop} (hU : ¬ U) (src x : Value) : BoxG (w.alloc (.cells #[x] 24)) B (.pointer (some ⟨w.heap.size, 0, none⟩)) U src :=
  ⟨w.heap.size, x, rfl, hB, heap_alloc_new _ _, fun u => absurd u hU⟩
theorem BoxG.fresh {w : World} {B : Nat} {v : Value} {U : Prop} {src : Value} (h : BoxG w B v U src) : v ≠ .pointer (some ⟨w.heap.size, 0, none⟩) := by
  obtain ⟨p, x, he, hB, hh, hs⟩ := h
  rw [he]; intro e; injection e with e; injection e with e; injection e with e
  have := heap_lt' hh; omega
theorem set1h {W : World} {B p : Nat} {x0 : Value} (x : Value) (hB : B ≤ p) (hh : W.heap[p]? = some (.cells #[x0] 24 (0, 0))) :
    (W.setCell ⟨p, 0, none⟩ x).heap[p]? = some (.cells #[x] 24 (0, 0)) ∧ (∀ k, k ≠ p → (W.setCell ⟨p, 0, none⟩ x).heap[k]? = W.heap[k]?) ∧ Below B W (W.setCell ⟨p, 0, none⟩ x) := by
  refine ⟨?_, fun k hk => Below.heap_setCell _ _ _ _ hk, (Below.refl _ _).setCell (p := ⟨p, 0, none⟩) hB _⟩
  have h := heap_setCell_same W p 0 _ 24 x hh
  simpa using h
def TellInv (TV XV : Value) (T X : List Df) (B : Nat) (V : World) (A0 : Act) (listed : Array Bool) (a : Act) (w' : World) : Prop :=
  listed.size = 8 ∧ Below B V w' ∧ B ≤ w'.heap.size ∧ ∃ v19 v20 v21 v22 v5 v6 : Value,
    a = ((((((A0.put (some 19) v19).put (some 20) v20).put (some 21) v21).put (some 22) v22).put (some 5) v5).put (some 6) v6) ∧
    (listed.getD 0 false = true → v19 = TV) ∧
    (listed.getD 1 false = true → OwnG w' v20 T) ∧
    (listed.getD 2 false = true → v21 = XV) ∧
    (listed.getD 3 false = true → OwnG w' v22 X) ∧
    (listed.getD 4 false = true → BoxG w' B v5 (listed.getD 6 false = true) v20) ∧
    (listed.getD 5 false = true → BoxG w' B v6 (listed.getD 7 false = true) v22) ∧
    (listed.getD 4 false = true → listed.getD 5 false = true → v5 ≠ v6) ∧
    (listed.getD 6 false = true → listed.getD 1 false = true ∧ listed.getD 3 false = true ∧ listed.getD 4 false = true) ∧
    (listed.getD 7 false = true → listed.getD 5 false = true ∧ listed.getD 3 false = true ∧ listed.getD 6 false = true)
theorem of_all0 (Q : Ed → Prop) (h0 : Q ⟨0, ⟨⟨#[]⟩, ⟨[], 0⟩⟩⟩) (h1 : Q ⟨1, ⟨⟨#[]⟩, ⟨[], 0⟩⟩⟩) (n : Nat) : ∀ a b : List Df, a.length + b.length ≤ n → (∀ y ∈ b, Q ⟨2, y⟩) → ∀ e ∈ ofL a b, Q e := by
  induction n with
  | zero =>
    intro a b h hb e he
    obtain rfl : a = [] := List.eq_nil_of_length_eq_zero (by omega)
    obtain rfl : b = [] := List.eq_nil_of_length_eq_zero (by omega)
    rw [ofL] at he; simp at he
  | succ n ih =>
    intro a b h hb e he
    cases a with
    | nil =>
      cases b with
      | nil => rw [ofL] at he; simp at he
      | cons y b =>
        rw [ofL, List.mem_cons] at he
        rcases he with rfl | he
        · exact hb y List.mem_cons_self
        · exact ih [] b (by simp only [List.length_cons] at h; omega) (fun z hz => hb z (List.mem_cons_of_mem _ hz)) e he
    | cons x a =>
      cases b with
      | nil =>
        rw [ofL, List.mem_cons] at he
        rcases he with rfl | he
        · exact h1
        · exact ih a [] (by simp only [List.length_cons] at h; omega) (by simp) e he
      | cons y b =>
        have hb' : ∀ z ∈ b, Q ⟨2, z⟩ := fun z hz => hb z (List.mem_cons_of_mem _ hz)
        rw [ofL] at he
        split at he
        · rcases List.mem_cons.1 he with rfl | he
          · exact h0
          · exact ih a b (by simp only [List.length_cons] at h; omega) hb' e he
        · split at he
          · rcases List.mem_cons.1 he with rfl | he
            · exact h1
            · exact ih a (y :: b) (by simp only [List.length_cons] at h ⊢; omega) hb e he
          · rcases List.mem_cons.1 he with rfl | he
            · exact hb y List.mem_cons_self
            · exact ih (x :: a) b (by simp only [List.length_cons] at h ⊢; omega) hb' e he
def DfSmall0 (d : Df) : Prop := d.body.nodes.length ≤ 500 ∧ ∀ n ∈ d.body.nodes, n.kids.length ≤ 500
theorem SmallD.df0 {d : Ld} (h : SmallD d) : DfSmall0 d.df := ⟨by show (d.t.ls.map Ln.nd).length ≤ 500; rw [List.length_map]; exact h.1, fun n hn => by
  obtain ⟨l, hl, rfl⟩ := List.mem_map.1 (show n ∈ d.t.ls.map Ln.nd from hn)
  exact h.2 l hl⟩
theorem DfSmall0.ld {d : Ld} (h : DfSmall0 d.df) : SmallD d := ⟨by have h1 : (d.t.ls.map Ln.nd).length ≤ 500 := h.1; rwa [List.length_map] at h1, fun l hl => h.2 l.nd (List.mem_map.2 ⟨l, hl, rfl⟩)⟩
theorem of_dmod {la lb : List Ld} (hs : SmallG lb) {es : List Le} (h : es.map Le.ed = ofL (la.map Ld.df) (lb.map Ld.df)) : ∀ e ∈ es, SmallD e.d := fun e he => by
  have h1 : ∀ e ∈ ofL (la.map Ld.df) (lb.map Ld.df), DfSmall0 e.d := of_all0 (fun e => DfSmall0 e.d) ⟨by simp, by simp⟩ ⟨by simp, by simp⟩ _ _ _ (Nat.le_refl _) (fun y hy => by
    obtain ⟨z, hz, rfl⟩ := List.mem_map.1 hy
    exact SmallD.df0 (hs.2 z hz))
  exact DfSmall0.ld (h1 e.ed (by rw [← h]; exact List.mem_map.2 ⟨e, he, rfl⟩))
theorem kidsOf_smallR (B : Nat) : ∀ (l : List Nd), (∀ n ∈ l, n.kids.length ≤ B) → (kidsOf l).length ≤ l.length * B
  | [], _ => by simp [kidsOf]
  | n :: l, h => by
    have h1 := kidsOf_smallR B l fun x hx => h x (List.mem_cons_of_mem _ hx)
    have h2 := h n List.mem_cons_self
    simp only [kidsOf, List.flatMap_cons, List.length_append, List.length_cons] at h1 ⊢
    rw [Nat.succ_mul]; omega
theorem smallG_map {xa la : List Ld} (h : xa.map Ld.df = la.map Ld.df) (hs : SmallG la) : SmallG xa := by
  refine ⟨by have := congrArg List.length h; simp only [List.length_map] at this; have := hs.1; omega, fun x hx => ?_⟩
  have h1 : x.df ∈ la.map Ld.df := by rw [← h]; exact List.mem_map_of_mem hx
  obtain ⟨y, hy, hyx⟩ := List.mem_map.1 h1
  exact DfSmall0.ld (by rw [← hyx]; exact SmallD.df0 (hs.2 y hy))
theorem TreeOwn.hangsE {w : World} {S : Nat → Prop} {t : Lt} (h : TreeOwn w S t) {x : Nat} (hx : Hangs t x) : x < w.heap.size ∧ ∀ cur, w.heap[x]? ≠ some (.cells cur 52 (0, 0)) := by
  rcases hx with hx | ⟨l, hl, hx⟩
  · obtain ⟨cur, hc⟩ := own_cells h.row.1 hx
    exact ⟨(own_blk h.row.1 x hx).2, fun cur' h' => by rw [hc] at h'; cases h'⟩
  · obtain ⟨cur, hc⟩ := own_cells (h.kids l hl).2.1 hx
    exact ⟨(own_blk (h.kids l hl).2.1 x hx).2, fun cur' h' => by rw [hc] at h'; cases h'⟩
theorem EdsOwn.tight {w : World} {B : Nat} {V : Option Addr} {c : Nat} {es : List Le} (h : EdsOwn w (B ≤ ·) V c es) :
    ∃ Q : Nat → Nat → Prop, (∀ i (h : i < es.length), TreeOwn w (Q i) es[i].d.t) ∧ (∀ i x, Q i x → B ≤ x ∧ x < w.heap.size ∧ blkOf V ≠ some x) ∧ ∀ i j x, i ≠ j → Q i x → ¬ Q j x := by
  obtain ⟨Q, h1, h2, h3⟩ := h.kids
  refine ⟨fun i x => Q i x ∧ ∃ h : i < es.length, Hangs es[i].d.t x, fun i hi => (h1 i hi).2.2.tight.mono (fun x _ hx => ⟨hx.1, hi, hx.2⟩), fun i x hx => ?_, fun i j x hij hi hj => h3 i j x hij hi.1 hj.1⟩
  obtain ⟨hq, hi, hh⟩ := hx
  have h4 := (h1 i hi).2.2.hangsE hh
  refine ⟨h2 i x hq, h4.1, fun e => ?_⟩
  obtain ⟨cur, hc⟩ := own_cells h.row.1 e
  exact h4.2 cur hc
theorem own_at4E {w : World} {B g n c : Nat} {es : List Le} (h : w.ownsRow B 52 4 (.slice (some ⟨g, 0, none⟩) n c) n (edL.all es)) (k : Nat) (hk : k < es.length) :
    w.cell? ⟨g, k * 4 + 1, none⟩ = some (.string es[k].d.name) ∧ w.cell? ⟨g, k * 4 + 2, none⟩ = some (.slice es[k].d.t.A es[k].d.t.ls.length es[k].d.t.c) ∧ w.cell? ⟨g, k * 4 + 3, none⟩ = some (.int .i64 es[k].d.t.root) := by
  have hn : n * 4 = es.length * 4 := by have h1 := h.1; rw [edL.all_length] at h1; exact h1.symm
  have hc : ∀ j u, j < 4 → (edL.cells es[k])[j]? = some u → w.cell? ⟨g, k * 4 + j, none⟩ = some u := fun j u hj hu => (World.ownsRow.cellAt h (k * 4 + j) (by omega)).trans ((edL.all_at es k j hk hj).trans hu)
  exact ⟨hc 1 _ (by decide) rfl, hc 2 _ (by decide) rfl, hc 3 _ (by decide) rfl⟩
def SpRelE (wb : World) (Q : Nat → Nat → Prop) (V : Option Addr) (vc : Nat) (es : List Le) (i : Value) (wr : World) : Prop :=
  ∃ k : Nat, k ≤ es.length ∧ i = .int .i64 k ∧ Hid (wr.ownsRow 0 52 4 (.slice V es.length vc) es.length (edL.all es)) ∧ Hid (∀ j (h : j < es.length), k ≤ j → TreeOwn wr (Q j) es[j].d.t) ∧ Hid (Below wb.heap.size wb wr)
theorem SpRelE.step {wb wr w5 : World} {Q : Nat → Nat → Prop} {V : Option Addr} {vc : Nat} {es : List Le} {k : Nat} (hk : k < es.length) (hown : wr.ownsRow 0 52 4 (.slice V es.length vc) es.length (edL.all es))
    (hT : ∀ j (h : j < es.length), k ≤ j → TreeOwn wr (Q j) es[j].d.t) (hB : Below wb.heap.size wb wr) (hs : Spoilt (Q k) wr w5)
    (hQ2 : ∀ i x, Q i x → wb.heap.size ≤ x ∧ blkOf V ≠ some x) (hQ3 : ∀ i j x, i ≠ j → Q i x → ¬ Q j x) : SpRelE wb Q V vc es (.int .i64 ((k : Int) + 1)) w5 := by
  refine ⟨k + 1, by omega, by go_num, Lib.hid (own_agree hown (fun x hx => hs.block x (own_blk hown x hx).2 (fun hq => (hQ2 k x hq).2 hx))), Lib.hid (fun j hj hjk => (hT j hj (by omega)).agree (fun x hx hxl => hs.block x hxl (hQ3 j k x (by omega) hx))), Lib.hid ?_⟩
  exact ⟨hs.os.trans hB.os, hs.tape.trans hB.tape, hs.output.trans hB.output, Nat.le_trans hB.size hs.size, fun x hx => (hs.block x (by have := hB.size; omega) (fun hq => by have := (hQ2 k x hq).1; omega)).trans (hB.block x hx)⟩
theorem SmallD.modR {d : Ld} (h : SmallD d) : ModR d.t := by
  refine ⟨by have := h.1; omega, fun l hl => by have := h.2 l hl; omega, ?_⟩
  have h1 := kidsOf_smallR 500 (d.t.ls.map Ln.nd) fun n hn => by
    obtain ⟨l, hl, rfl⟩ := List.mem_map.1 hn
    exact h.2 l hl
  rw [List.length_map] at h1
  have h2 := Nat.mul_le_mul_right 500 h.1
  omega
set_option maxRecDepth 100000 in
set_option maxHeartbeats 12800000 in
theorem difftells_walk (A B : Option Addr) (c d : Nat) (la lb : List Ld) (S T : Nat → Prop) (w : World) (hA : dfL.row w S A la) (hB : dfL.row w T B lb) (hl1 : la.length ≤ 281474976710656) (hl2 : lb.length ≤ 281474976710656) (hp : PTabs w) :
    Calls Tryz.prog 4 #[.agg #[.slice A la.length c], .agg #[.slice B lb.length d]] w fun e w' => e = .returned (.bool true) ∧ Below w.heap.size w w' := by
  have HA := Lib.hid hA; have HB := Lib.hid hB; have HP := Lib.hid hp
  clear hA hB hp
  generalize ho1 : Obj.cells #[.slice A la.length c] 24 (0, 0) = o1
  generalize ho2 : Obj.cells #[.slice B lb.length d] 24 (0, 0) = o2
  have HB3 := Lib.hid ((bx2 w o1 o2).trans ((bx1 ((w.alloc o1).alloc o2) (.cells #[.slice A la.length c, .slice B lb.length d] 24)).mono (by simp; omega)))
  have HGR := Lib.hid (show grL.row (((w.alloc o1).alloc o2).alloc (.cells #[.slice A la.length c, .slice B lb.length d] 24)) (fun _ => True) (some ⟨w.heap.size + 1 + 1, 0, none⟩) [⟨A, c, la⟩, ⟨B, d, lb⟩] from by
    refine ⟨⟨?_, fun _ _ _ => trivial⟩, fun g hg => ?_⟩
    · have h := bx_new ((w.alloc o1).alloc o2) (.cells #[.slice A la.length c, .slice B lb.length d] 24)
      rw [World.size_alloc, World.size_alloc] at h
      have h2 := row_blk (cs := [.slice A la.length c, .slice B lb.length d]) h
      have e : grL.all [⟨A, c, la⟩, ⟨B, d, lb⟩] = [.slice A la.length c, .slice B lb.length d] := rfl
      rw [e]; exact h2
    · simp only [List.mem_cons, List.not_mem_nil, or_false] at hg
      rcases hg with rfl | rfl
      · exact ⟨hl1, (HA.out.below HB3.out).mono (fun _ _ _ => trivial)⟩
      · exact ⟨hl2, (HB.out.below HB3.out).mono (fun _ _ _ => trivial)⟩)
  have HKK := Lib.hid (show ∀ o w', Below (((w.alloc o1).alloc o2).alloc o).heap.size (((w.alloc o1).alloc o2).alloc o) w' → w'.heap[w.heap.size]? = some o1 ∧ w'.heap[w.heap.size + 1]? = some o2 from fun o w' hb => by
    refine ⟨bx_kept hb (bx_old (bx_old (bx_new w o1))), bx_kept hb (bx_old ?_)⟩
    have h := bx_new (w.alloc o1) o2
    rw [World.size_alloc] at h; exact h)
  subst ho1 ho2
  go_enter Tryz.func4, Tryz.ntmps4
  go_wp2_with fail
  refine (large_any [⟨A, c, la⟩, ⟨B, d, lb⟩] (some ⟨w.heap.size + 1 + 1, 0, none⟩) 2 (fun _ => True) _ HGR.out (by simp)).mono ?_
  rintro e w1 ⟨r, rfl, hr1, hb1⟩
  have HB1 := Lib.hid (Below.step HB3.out hb1)
  have HK1 := Lib.hid (HKK.out _ _ hb1)
  have HS1 := Lib.hid (show r = false → SmallG la ∧ SmallG lb from fun h => ⟨hr1 h ⟨A, c, la⟩ (by simp), hr1 h ⟨B, d, lb⟩ (by simp)⟩)
  clear hb1 HGR HKK HB3 hr1
  cases r
  case true =>
    as_aux_lemma =>
      go_wp2_with (go_at_call 21; refine (awake_any _ (HP.out.below HB1.out).cn).mono ?_; rintro e w3 ⟨rfl, hb3⟩; have HB3 := Lib.hid (Below.step HB1.out hb3); clear hb3)
      go_ret
      exact ⟨rfl, HB3.out⟩
  have hs1 := (HS1.out rfl).1.1; have hs2 := (HS1.out rfl).2.1
  have HSA := Lib.hid (HS1.out rfl).1; have HSB := Lib.hid (HS1.out rfl).2
  clear HS1
  have HCX := Lib.hid (show ∀ w', Below w1.heap.size w1 w' → w'.cell? ⟨w.heap.size, 0, none⟩ = some (.slice A la.length c) ∧ w'.cell? ⟨w.heap.size + 1, 0, none⟩ = some (.slice B lb.length d) from fun w' h => ⟨(blk1 (bx_kept h HK1.out.1)).1, (blk1 (bx_kept h HK1.out.2)).1⟩)
  have HOT := Lib.hid (show ∀ w', Below w1.heap.size w1 w' → Calls Tryz.prog 22 #[.agg #[.slice A la.length c]] w' fun e w'' => ∃ v, e = .returned v ∧ OwnG w'' v (la.map Ld.df) ∧ Below w'.heap.size w' w'' from fun w' h => (lawown_any A c la S w' (HA.out.below (Below.step HB1.out h)) (by omega) (fun x hx => (HSA.out.2 x hx).mod)).mono (by
    rintro e w'' ⟨V, vc, ds, rfl, h1, h2, h3⟩
    exact ⟨_, rfl, ⟨V, vc, ds, rfl, gram_notG h2, h1⟩, h3⟩))
  have HOX := Lib.hid (show ∀ w', Below w1.heap.size w1 w' → Calls Tryz.prog 22 #[.agg #[.slice B lb.length d]] w' fun e w'' => ∃ v, e = .returned v ∧ OwnG w'' v (lb.map Ld.df) ∧ Below w'.heap.size w' w'' from fun w' h => (lawown_any B d lb T w' (HB.out.below (Below.step HB1.out h)) (by omega) (fun x hx => (HSB.out.2 x hx).mod)).mono (by
    rintro e w'' ⟨V, vc, ds, rfl, h1, h2, h3⟩
    exact ⟨_, rfl, ⟨V, vc, ds, rfl, gram_notG h2, h1⟩, h3⟩))
  go_upto_region 3 with (fail)
  go_cut [5, 6] (fun v5 v6 wx => ∃ (g h : Nat) (VA VB : Option Addr) (ac bc : Nat) (xa xb : List Ld), v5 = .pointer (some ⟨g, 0, none⟩) ∧ v6 = .pointer (some ⟨h, 0, none⟩) ∧ Hid (wx.heap[g]? = some (.cells #[.slice VA xa.length ac] 24 (0, 0))) ∧ Hid (wx.heap[h]? = some (.cells #[.slice VB xb.length bc] 24 (0, 0))) ∧ Hid (dfL.row wx (NotG wx) VA xa ∧ xa.map Ld.df = la.map Ld.df) ∧ Hid (dfL.row wx (NotG wx) VB xb ∧ xb.map Ld.df = lb.map Ld.df) ∧ Hid (Below w1.heap.size w1 wx))
  case first =>
    refine wp_region_inv0 (TellInv (.agg #[.slice A la.length c]) (.agg #[.slice B lb.length d]) (la.map Ld.df) (lb.map Ld.df) w1.heap.size w1) (by kernel_rfl) ?_ ?_ ?_
    · exact ⟨rfl, (Below.refl _ _).drew, Nat.le_refl _, _, _, _, _, _, _, (self_puts _ [19, 20, 21, 22, 5, 6] rfl).symm, fun h => absurd h (by decide), fun h => absurd h (by decide), fun h => absurd h (by decide), fun h => absurd h (by decide), fun h => absurd h (by decide), fun h => absurd h (by decide), fun h => absurd h (by decide), fun h => absurd h (by decide), fun h => absurd h (by decide)⟩
    · as_aux_lemma =>
        intro listed a' w' hI i hi
        obtain ⟨hsz, hb, hB, v19, v20, v21, v22, v5, v6, rfl, c0, c1, c2, c3, c4, c5, c6, c7, c8⟩ := hI
        have hun := (ready_mem hi).2.1
        have hlt : i < 8 := (ready_mem hi).1
        have hcs : i = 0 ∨ i = 1 ∨ i = 2 ∨ i = 3 ∨ i = 4 ∨ i = 5 ∨ i = 6 ∨ i = 7 := by omega
        clear hlt
        rcases hcs with rfl | rfl | rfl | rfl | rfl | rfl | rfl | rfl
        · have hp := ready_after (o := { dst := some 19, op := Go.Op.load 24 (Go.Operand.tmp 2), type := 24, pos := "law.go:73", after := #[], guard := none }) hi rfl
          simp [Region.binds] at hp
          have hbk : Below w'.heap.size w' w' := Below.refl _ _
          obtain ⟨u1, u2⟩ := HCX.out w' hb
          refine wpOp_shut (o := { dst := some 19, op := Go.Op.load 24 (Go.Operand.tmp 2), type := 24, pos := "law.go:73", after := #[], guard := none }) rfl (fun K hK => ?_)
          simp only [Act.put, List.setIfInBounds_toArray, List.set_cons_zero, List.set_cons_succ]
          go_simp
          exact hK.out _ _ ⟨by simp [hsz], hb, hB, _, _, _, _, _, _, (by simp only [Act.put, List.setIfInBounds_toArray, List.set_cons_zero, List.set_cons_succ]; try rfl),
              fun _ => rfl,
              fun h => (c1 (flag_of (by decide) h)).below hbk,
              fun h => c2 (flag_of (by decide) h),
              fun h => (c3 (flag_of (by decide) h)).below hbk,
              fun h => (c4 (flag_of (by decide) h)).below (flag_of (by decide)) hbk,
              fun h => (c5 (flag_of (by decide) h)).below (flag_of (by decide)) hbk,
              fun h k => c6 (flag_of (by decide) h) (flag_of (by decide) k),
              fun h => ⟨flag_old (c7 (flag_of (by decide) h)).1, flag_old (c7 (flag_of (by decide) h)).2.1, flag_old (c7 (flag_of (by decide) h)).2.2⟩,
              fun h => ⟨flag_old (c8 (flag_of (by decide) h)).1, flag_old (c8 (flag_of (by decide) h)).2.1, flag_old (c8 (flag_of (by decide) h)).2.2⟩⟩
        · have hp := ready_after (o := { dst := some 20, op := Go.Op.call { callee := Go.Callee.value (Go.Operand.func 22), args := #[Go.Operand.tmp 19], argTypes := #[24] }, type := 24, pos := "law.go:73", after := #[{ on := 0, ground := Go.Ground.data }], guard := none }) hi rfl
          simp [Region.binds] at hp
          obtain rfl := c0 (by first | exact hp | exact hp.1 | exact hp.2 | exact hp.2.1 | exact hp.1.1 | simp [hp])
          refine wpOp_shut (o := { dst := some 20, op := Go.Op.call { callee := Go.Callee.value (Go.Operand.func 22), args := #[Go.Operand.tmp 19], argTypes := #[24] }, type := 24, pos := "law.go:73", after := #[{ on := 0, ground := Go.Ground.data }], guard := none }) rfl (fun K hK => ?_)
          simp only [Act.put, List.setIfInBounds_toArray, List.set_cons_zero, List.set_cons_succ]
          go_simp
          refine (HOT.out w' hb).mono ?_
          rintro e w1 ⟨v, rfl, hto, hbk⟩
          go_wp2_with fail
          exact hK.out _ _ ⟨by simp [hsz], (hb.trans (hbk.mono hB)), (Nat.le_trans hB hbk.size), _, _, _, _, _, _, (by simp only [Act.put, List.setIfInBounds_toArray, List.set_cons_zero, List.set_cons_succ]; try rfl),
              fun _ => rfl,
              fun _ => hto,
              fun h => c2 (flag_of (by decide) h),
              fun h => (c3 (flag_of (by decide) h)).below hbk,
              fun h => ((c4 (flag_of (by decide) h)).below id hbk).off (fun u => flag_not hun (c7 (flag_of (by decide) u)).1),
              fun h => (c5 (flag_of (by decide) h)).below (flag_of (by decide)) hbk,
              fun h k => c6 (flag_of (by decide) h) (flag_of (by decide) k),
              fun h => ⟨flag_old (c7 (flag_of (by decide) h)).1, flag_old (c7 (flag_of (by decide) h)).2.1, flag_old (c7 (flag_of (by decide) h)).2.2⟩,
              fun h => ⟨flag_old (c8 (flag_of (by decide) h)).1, flag_old (c8 (flag_of (by decide) h)).2.1, flag_old (c8 (flag_of (by decide) h)).2.2⟩⟩
        · have hp := ready_after (o := { dst := some 21, op := Go.Op.load 24 (Go.Operand.tmp 3), type := 24, pos := "law.go:73", after := #[], guard := none }) hi rfl
          simp [Region.binds] at hp
          have hbk : Below w'.heap.size w' w' := Below.refl _ _
          obtain ⟨u1, u2⟩ := HCX.out w' hb
          refine wpOp_shut (o := { dst := some 21, op := Go.Op.load 24 (Go.Operand.tmp 3), type := 24, pos := "law.go:73", after := #[], guard := none }) rfl (fun K hK => ?_)
          simp only [Act.put, List.setIfInBounds_toArray, List.set_cons_zero, List.set_cons_succ]
          go_simp
          exact hK.out _ _ ⟨by simp [hsz], hb, hB, _, _, _, _, _, _, (by simp only [Act.put, List.setIfInBounds_toArray, List.set_cons_zero, List.set_cons_succ]; try rfl),
              fun h => c0 (flag_of (by decide) h),
              fun h => (c1 (flag_of (by decide) h)).below hbk,
              fun _ => rfl,
              fun h => (c3 (flag_of (by decide) h)).below hbk,
              fun h => (c4 (flag_of (by decide) h)).below (flag_of (by decide)) hbk,
              fun h => (c5 (flag_of (by decide) h)).below (flag_of (by decide)) hbk,
              fun h k => c6 (flag_of (by decide) h) (flag_of (by decide) k),
              fun h => ⟨flag_old (c7 (flag_of (by decide) h)).1, flag_old (c7 (flag_of (by decide) h)).2.1, flag_old (c7 (flag_of (by decide) h)).2.2⟩,
              fun h => ⟨flag_old (c8 (flag_of (by decide) h)).1, flag_old (c8 (flag_of (by decide) h)).2.1, flag_old (c8 (flag_of (by decide) h)).2.2⟩⟩
        · have hp := ready_after (o := { dst := some 22, op := Go.Op.call { callee := Go.Callee.value (Go.Operand.func 22), args := #[Go.Operand.tmp 21], argTypes := #[24] }, type := 24, pos := "law.go:73", after := #[{ on := 2, ground := Go.Ground.data }, { on := 1, ground := Go.Ground.chain }], guard := none }) hi rfl
          simp [Region.binds] at hp
          obtain rfl := c2 (by first | exact hp | exact hp.1 | exact hp.2 | exact hp.2.1 | exact hp.1.1 | simp [hp])
          refine wpOp_shut (o := { dst := some 22, op := Go.Op.call { callee := Go.Callee.value (Go.Operand.func 22), args := #[Go.Operand.tmp 21], argTypes := #[24] }, type := 24, pos := "law.go:73", after := #[{ on := 2, ground := Go.Ground.data }, { on := 1, ground := Go.Ground.chain }], guard := none }) rfl (fun K hK => ?_)
          simp only [Act.put, List.setIfInBounds_toArray, List.set_cons_zero, List.set_cons_succ]
          go_simp
          refine (HOX.out w' hb).mono ?_
          rintro e w1 ⟨v, rfl, hto, hbk⟩
          go_wp2_with fail
          exact hK.out _ _ ⟨by simp [hsz], (hb.trans (hbk.mono hB)), (Nat.le_trans hB hbk.size), _, _, _, _, _, _, (by simp only [Act.put, List.setIfInBounds_toArray, List.set_cons_zero, List.set_cons_succ]; try rfl),
              fun h => c0 (flag_of (by decide) h),
              fun h => (c1 (flag_of (by decide) h)).below hbk,
              fun _ => rfl,
              fun _ => hto,
              fun h => (c4 (flag_of (by decide) h)).below (flag_of (by decide)) hbk,
              fun h => ((c5 (flag_of (by decide) h)).below id hbk).off (fun u => flag_not hun (c8 (flag_of (by decide) u)).2.1),
              fun h k => c6 (flag_of (by decide) h) (flag_of (by decide) k),
              fun h => ⟨flag_old (c7 (flag_of (by decide) h)).1, flag_old (c7 (flag_of (by decide) h)).2.1, flag_old (c7 (flag_of (by decide) h)).2.2⟩,
              fun h => ⟨flag_old (c8 (flag_of (by decide) h)).1, flag_old (c8 (flag_of (by decide) h)).2.1, flag_old (c8 (flag_of (by decide) h)).2.2⟩⟩
        · have hp := ready_after (o := { dst := some 5, op := Go.Op.alloc 24, type := 0, pos := "law.go:73", after := #[], guard := none }) hi rfl
          simp [Region.binds] at hp
          refine wpOp_shut (o := { dst := some 5, op := Go.Op.alloc 24, type := 0, pos := "law.go:73", after := #[], guard := none }) rfl (fun K hK => ?_)
          simp only [Act.put, List.setIfInBounds_toArray, List.set_cons_zero, List.set_cons_succ]
          go_simp
          have hbk := bx1 w' (.cells #[.slice none 0 0] 24)
          exact hK.out _ _ ⟨by simp [hsz], (hb.alloc hB _), (by simp; omega), _, _, _, _, _, _, (by simp only [Act.put, List.setIfInBounds_toArray, List.set_cons_zero, List.set_cons_succ]; try rfl),
              fun h => c0 (flag_of (by decide) h),
              fun h => (c1 (flag_of (by decide) h)).below hbk,
              fun h => c2 (flag_of (by decide) h),
              fun h => (c3 (flag_of (by decide) h)).below hbk,
              fun _ => BoxG.new hB (fun u => flag_not hun (c7 (flag_of (by decide) u)).2.2) _ _,
              fun h => (c5 (flag_of (by decide) h)).below (flag_of (by decide)) hbk,
              fun _ h => Ne.symm (c5 (flag_of (by decide) h)).fresh,
              fun h => ⟨flag_old (c7 (flag_of (by decide) h)).1, flag_old (c7 (flag_of (by decide) h)).2.1, flag_old (c7 (flag_of (by decide) h)).2.2⟩,
              fun h => ⟨flag_old (c8 (flag_of (by decide) h)).1, flag_old (c8 (flag_of (by decide) h)).2.1, flag_old (c8 (flag_of (by decide) h)).2.2⟩⟩
        · have hp := ready_after (o := { dst := some 6, op := Go.Op.alloc 24, type := 0, pos := "law.go:73", after := #[], guard := none }) hi rfl
          simp [Region.binds] at hp
          refine wpOp_shut (o := { dst := some 6, op := Go.Op.alloc 24, type := 0, pos := "law.go:73", after := #[], guard := none }) rfl (fun K hK => ?_)
          simp only [Act.put, List.setIfInBounds_toArray, List.set_cons_zero, List.set_cons_succ]
          go_simp
          have hbk := bx1 w' (.cells #[.slice none 0 0] 24)
          exact hK.out _ _ ⟨by simp [hsz], (hb.alloc hB _), (by simp; omega), _, _, _, _, _, _, (by simp only [Act.put, List.setIfInBounds_toArray, List.set_cons_zero, List.set_cons_succ]; try rfl),
              fun h => c0 (flag_of (by decide) h),
              fun h => (c1 (flag_of (by decide) h)).below hbk,
              fun h => c2 (flag_of (by decide) h),
              fun h => (c3 (flag_of (by decide) h)).below hbk,
              fun h => (c4 (flag_of (by decide) h)).below (flag_of (by decide)) hbk,
              fun _ => BoxG.new hB (fun u => flag_not hun (c8 (flag_of (by decide) u)).1) _ _,
              fun h _ => (c4 (flag_of (by decide) h)).fresh,
              fun h => ⟨flag_old (c7 (flag_of (by decide) h)).1, flag_old (c7 (flag_of (by decide) h)).2.1, flag_old (c7 (flag_of (by decide) h)).2.2⟩,
              fun h => ⟨flag_old (c8 (flag_of (by decide) h)).1, flag_old (c8 (flag_of (by decide) h)).2.1, flag_old (c8 (flag_of (by decide) h)).2.2⟩⟩
        · have hp := ready_after (o := { dst := none, op := Go.Op.store 24 (Go.Operand.tmp 5) (Go.Operand.tmp 20), type := 0, pos := "law.go:73", after := #[{ on := 4, ground := Go.Ground.data }, { on := 1, ground := Go.Ground.data }, { on := 3, ground := Go.Ground.chain }, { on := 0, ground := Go.Ground.phase }, { on := 1, ground := Go.Ground.phase }, { on := 2, ground := Go.Ground.textOnly Go.Departure.lateStores }, { on := 3, ground := Go.Ground.textOnly Go.Departure.lateStoresUnsure }, { on := 4, ground := Go.Ground.phase }, { on := 5, ground := Go.Ground.phase }], guard := none }) hi rfl
          simp [Region.binds] at hp
          have hfa : listed.getD 4 false = true := by first | exact hp | exact hp.1 | exact hp.2 | exact hp.2.1 | exact hp.1.1 | simp [hp]
          have hfs : listed.getD 1 false = true := by first | exact hp | exact hp.1 | exact hp.2 | exact hp.2.1 | exact hp.1.1 | simp [hp]
          have hf3 : listed.getD 3 false = true := by first | exact hp | exact hp.1 | exact hp.2 | exact hp.2.1 | exact hp.1.1 | simp [hp]
          obtain ⟨p, x, rfl, hBp, hh, _⟩ := c4 hfa
          obtain ⟨TA, tc, tds, rfl, hto, htr⟩ := id (c1 hfs)
          obtain ⟨s1, s2⟩ := blk1 hh
          refine wpOp_shut (o := { dst := none, op := Go.Op.store 24 (Go.Operand.tmp 5) (Go.Operand.tmp 20), type := 0, pos := "law.go:73", after := #[{ on := 4, ground := Go.Ground.data }, { on := 1, ground := Go.Ground.data }, { on := 3, ground := Go.Ground.chain }, { on := 0, ground := Go.Ground.phase }, { on := 1, ground := Go.Ground.phase }, { on := 2, ground := Go.Ground.textOnly Go.Departure.lateStores }, { on := 3, ground := Go.Ground.textOnly Go.Departure.lateStoresUnsure }, { on := 4, ground := Go.Ground.phase }, { on := 5, ground := Go.Ground.phase }], guard := none }) rfl (fun K hK => ?_)
          simp only [Act.put, List.setIfInBounds_toArray, List.set_cons_zero, List.set_cons_succ]
          go_simp
          have hs3 := fun x => set1h (W := w') x hBp hh
          exact hK.out _ _ ⟨by simp [hsz], (hb.trans (hs3 _).2.2), (Nat.le_trans hB (hs3 _).2.2.size), _, _, _, _, _, _, (by simp only [Act.put, List.setIfInBounds_toArray, List.set_cons_zero, List.set_cons_succ]; try rfl),
              fun h => c0 (flag_of (by decide) h),
              fun h => (c1 (flag_of (by decide) h)).but hh (hs3 _).2.1,
              fun h => c2 (flag_of (by decide) h),
              fun h => (c3 (flag_of (by decide) h)).but hh (hs3 _).2.1,
              fun _ => ⟨p, _, rfl, hBp, (hs3 _).1, fun _ => rfl⟩,
              fun h => (c5 (flag_of (by decide) h)).but (flag_of (by decide)) (Ne.symm (c6 hfa (flag_of (by decide) h))) (hs3 _).2.1,
              fun h k => c6 (flag_of (by decide) h) (flag_of (by decide) k),
              fun _ => ⟨flag_old hfs, flag_old hf3, flag_old hfa⟩,
              fun h => ⟨flag_old (c8 (flag_of (by decide) h)).1, flag_old (c8 (flag_of (by decide) h)).2.1, flag_old (c8 (flag_of (by decide) h)).2.2⟩⟩
        · have hp := ready_after (o := { dst := none, op := Go.Op.store 24 (Go.Operand.tmp 6) (Go.Operand.tmp 22), type := 0, pos := "law.go:73", after := #[{ on := 5, ground := Go.Ground.data }, { on := 3, ground := Go.Ground.data }, { on := 6, ground := Go.Ground.chain }, { on := 0, ground := Go.Ground.phase }, { on := 1, ground := Go.Ground.phase }, { on := 2, ground := Go.Ground.phase }, { on := 3, ground := Go.Ground.phase }, { on := 4, ground := Go.Ground.phase }, { on := 5, ground := Go.Ground.phase }, { on := 6, ground := Go.Ground.phase }], guard := none }) hi rfl
          simp [Region.binds] at hp
          have hfa : listed.getD 5 false = true := by first | exact hp | exact hp.1 | exact hp.2 | exact hp.2.1 | exact hp.1.1 | simp [hp]
          have hfs : listed.getD 3 false = true := by first | exact hp | exact hp.1 | exact hp.2 | exact hp.2.1 | exact hp.1.1 | simp [hp]
          have hf6 : listed.getD 6 false = true := by first | exact hp | exact hp.1 | exact hp.2 | exact hp.2.1 | exact hp.1.1 | simp [hp]
          obtain ⟨p, x, rfl, hBp, hh, _⟩ := c5 hfa
          obtain ⟨TA, tc, tds, rfl, hto, htr⟩ := id (c3 hfs)
          obtain ⟨s1, s2⟩ := blk1 hh
          refine wpOp_shut (o := { dst := none, op := Go.Op.store 24 (Go.Operand.tmp 6) (Go.Operand.tmp 22), type := 0, pos := "law.go:73", after := #[{ on := 5, ground := Go.Ground.data }, { on := 3, ground := Go.Ground.data }, { on := 6, ground := Go.Ground.chain }, { on := 0, ground := Go.Ground.phase }, { on := 1, ground := Go.Ground.phase }, { on := 2, ground := Go.Ground.phase }, { on := 3, ground := Go.Ground.phase }, { on := 4, ground := Go.Ground.phase }, { on := 5, ground := Go.Ground.phase }, { on := 6, ground := Go.Ground.phase }], guard := none }) rfl (fun K hK => ?_)
          simp only [Act.put, List.setIfInBounds_toArray, List.set_cons_zero, List.set_cons_succ]
          go_simp
          have hs3 := fun x => set1h (W := w') x hBp hh
          exact hK.out _ _ ⟨by simp [hsz], (hb.trans (hs3 _).2.2), (Nat.le_trans hB (hs3 _).2.2.size), _, _, _, _, _, _, (by simp only [Act.put, List.setIfInBounds_toArray, List.set_cons_zero, List.set_cons_succ]; try rfl),
              fun h => c0 (flag_of (by decide) h),
              fun h => (c1 (flag_of (by decide) h)).but hh (hs3 _).2.1,
              fun h => c2 (flag_of (by decide) h),
              fun h => (c3 (flag_of (by decide) h)).but hh (hs3 _).2.1,
              fun h => (c4 (flag_of (by decide) h)).but (flag_of (by decide)) (c6 (flag_of (by decide) h) hfa) (hs3 _).2.1,
              fun _ => ⟨p, _, rfl, hBp, (hs3 _).1, fun _ => rfl⟩,
              fun h k => c6 (flag_of (by decide) h) (flag_of (by decide) k),
              fun h => ⟨flag_old (c7 (flag_of (by decide) h)).1, flag_old (c7 (flag_of (by decide) h)).2.1, flag_old (c7 (flag_of (by decide) h)).2.2⟩,
              fun _ => ⟨flag_old hfa, flag_old hfs, flag_old hf6⟩⟩
    · intro listed a' wz hI hr
      obtain ⟨hsz, hb, hB, v19, v20, v21, v22, v5, v6, rfl, c0, c1, c2, c3, c4, c5, c6, c7, c8⟩ := hI
      have hall := all_listed hsz (by kernel_rfl) hr
      obtain ⟨VA, ac, xa, rfl, hao, hat⟩ := c1 (hall 1 (by decide))
      obtain ⟨VB, bc, xb, rfl, hbo, hbt⟩ := c3 (hall 3 (by decide))
      obtain ⟨p', x0, rfl, _, hp, hps⟩ := c4 (hall 4 (by decide))
      obtain ⟨q', y0, rfl, _, hq, hqs⟩ := c5 (hall 5 (by decide))
      have e1 := hps (hall 6 (by decide)); simp at e1; subst e1
      have e2 := hqs (hall 7 (by decide)); simp at e2; subst e2
      simp only [Act.put, List.setIfInBounds_toArray, List.set_cons_zero, List.set_cons_succ]
      have HF1 := Lib.hid hp; have HF2 := Lib.hid hq
      have HF3 := Lib.hid (And.intro hao hat); have HF4 := Lib.hid (And.intro hbo hbt)
      have HF5 := Lib.hid hb
      clear hsz hb hB c0 c1 c2 c3 c4 c5 c6 c7 c8 hall hao hat hbo hbt hp hps hq hqs hr
      go_wp2_with fail
      go_meet
      exact ⟨p', q', VA, VB, ac, bc, xa, xb, rfl, rfl, HF1, HF2, HF3, HF4, HF5⟩
  case rest =>
    obtain ⟨ga, gb, VA, VB, ac, bc, xa, xb, rfl, rfl, HKa, HKb, HVa, HVb, HR⟩ := hcut
    clear HCX HOT HOX
    have HRB := Lib.hid (Below.step HB1.out HR.out)
    have HK2 := Lib.hid (And.intro (bx_kept HR.out HK1.out.1) (bx_kept HR.out HK1.out.2))
    have HXA := Lib.hid (smallG_map HVa.out.2 HSA.out); have HXB := Lib.hid (smallG_map HVb.out.2 HSB.out)
    have hx1 := HXA.out.1; have hx2 := HXB.out.1
    obtain ⟨p0, _⟩ := blk1 HK2.out.1
    obtain ⟨q0, _⟩ := blk1 HK2.out.2
    clear HK1 HB1 HR
    go_wp2_with (first
      | (go_at_call 23; refine (r30of_any la lb A B c d S T _ (HA.out.below HRB.out) (HB.out.below HRB.out) (by omega) (by omega) (fun x hx => (HSA.out.2 x hx).modR) (fun x hx => (HSB.out.2 x hx).modR)).mono ?_; rintro e wd ⟨U, uc, us, rfl, hus, hur, hul, hb⟩; have HUS := Lib.hid hus; have HUR := Lib.hid hur; have HBD := Lib.hid (Below.step HRB.out hb); have HBCD := Lib.hid hb; clear hus hur hb p0 q0)
      | fail)
    have hul2 : us.length ≤ 1000 := by
      have h := of_counts _ (la.map Ld.df) (lb.map Ld.df) (Nat.le_refl _)
      have h2 := congrArg List.length HUS.out
      simp only [List.length_map] at h h2
      omega
    clear hul
    have HKa2 := Lib.hid (bx_kept HBCD.out HKa.out); have HKb2 := Lib.hid (bx_kept HBCD.out HKb.out)
    have HKA2 := Lib.hid (And.intro (bx_kept HBCD.out HK2.out.1) (bx_kept HBCD.out HK2.out.2))
    have HVa2 := Lib.hid (And.intro (HVa.out.1.below HBCD.out) HVa.out.2); have HVb2 := Lib.hid (And.intro (HVb.out.1.below HBCD.out) HVb.out.2)
    clear HKa HKb HK2 HVa HVb HBCD HRB
    go_loopw [8] (fun i wr => ∃ r : Nat, r ≤ 2 ∧ i = .int .i64 r ∧ Hid (Below wd.heap.size wd wr)) (fun i _ => 2 - (intOf i).toNat)
    case atStart => exact ⟨0, by omega, rfl, Lib.hid (Below.refl _ _)⟩
    case round =>
      obtain ⟨r, hr, rfl, HBr⟩ := hrel
      rename World => wz
      obtain ⟨p0, _⟩ := blk1 (bx_kept HBr.out HKa2.out)
      obtain ⟨q0, _⟩ := blk1 (bx_kept HBr.out HKb2.out)
      have HBW := Lib.hid (Below.step HBD.out HBr.out)
      by_cases hr2 : r < 2
      · have i1 : (r : Int) < 2 := by omega
        have i2 : (0 : Int) ≤ (r : Int) := by omega
        have HOF := Lib.hid (show Calls Tryz.prog 24 #[.agg #[.slice VA xa.length ac], .agg #[.slice VB xb.length bc]] wz (OfPost (ofL (la.map Ld.df) (lb.map Ld.df)) wz) from by
          have h := of_any xa xb VA VB ac bc _ _ wz (HVa2.out.1.below HBr.out) (HVb2.out.1.below HBr.out) (by omega) (by omega) (fun x hx => by have := (HXA.out.2 x hx).1; omega) (fun x hx => (HXB.out.2 x hx).mod) (HP.out.below HBW.out).cn
          rw [HVa2.out.2, HVb2.out.2] at h
          exact h)
        go_wp2_with (first
          | (go_at_call 24; refine HOF.out.mono ?_; rintro e w3 ⟨V, vc, es, rfl, hes, heo, hb⟩; have HES := Lib.hid hes; have HEO := Lib.hid heo; have HB3 := Lib.hid hb; clear hes heo hb HOF p0 q0)
          | fail)
        have hel : es.length ≤ 1000 := by
          have h := congrArg List.length (HES.out.trans HUS.out.symm)
          simp only [List.length_map] at h
          omega
        have HEW := Lib.hid (show ∀ w', Below w3.heap.size w3 w' → edL.row w' (wz.heap.size ≤ ·) V es from fun w' hb => HEO.out.inn.below hb)
        have HUW := Lib.hid (show ∀ w', Below w3.heap.size w3 w' → edL.row w' (fun x => T x ∨ wc.heap.size ≤ x) U us from fun w' hb => HUR.out.below (Below.step HBr.out (Below.step HB3.out hb)))
        have HEU := Lib.hid (show es.map Le.ed = us.map Le.ed from HES.out.trans HUS.out.symm)
        have HCT := Lib.hid (show ∀ w', Below w3.heap.size w3 w' → Calls Tryz.prog 25 #[.slice V es.length vc] w' fun e w'' => e = .returned (.tuple #[.int .i64 (countK 0 (us.map Le.ed) : Nat), .int .i64 (countK 1 (us.map Le.ed) : Nat), .int .i64 (countK 2 (us.map Le.ed) : Nat)]) ∧ Below w'.heap.size w' w'' from fun w' hb => by
          rw [← HEU.out]
          exact ecount_any es V vc _ w' (HEW.out w' hb) (by omega))
        have HR0 := Lib.hid (show ∀ w', Below w3.heap.size w3 w' → Calls Tryz.prog 28 #[.slice U us.length uc, .int .u8 0] w' fun e w'' => e = .returned (.int .i64 (countK 0 (us.map Le.ed) : Nat)) ∧ w' = w'' from fun w' hb => redcount_any us U uc 0 _ w' (HUW.out w' hb) (by omega))
        have HR1 := Lib.hid (show ∀ w', Below w3.heap.size w3 w' → Calls Tryz.prog 28 #[.slice U us.length uc, .int .u8 1] w' fun e w'' => e = .returned (.int .i64 (countK 1 (us.map Le.ed) : Nat)) ∧ w' = w'' from fun w' hb => redcount_any us U uc 1 _ w' (HUW.out w' hb) (by omega))
        have HR2 := Lib.hid (show ∀ w', Below w3.heap.size w3 w' → Calls Tryz.prog 28 #[.slice U us.length uc, .int .u8 2] w' fun e w'' => e = .returned (.int .i64 (countK 2 (us.map Le.ed) : Nat)) ∧ w' = w'' from fun w' hb => redcount_any us U uc 2 _ w' (HUW.out w' hb) (by omega))
        have HMD := Lib.hid (show ∀ e ∈ es, DMod e.d from fun e he => (of_dmod HSB.out HES.out e he).mod)
        generalize countK 0 (us.map Le.ed) = n0 at *
        generalize countK 1 (us.map Le.ed) = n1 at *
        generalize countK 2 (us.map Le.ed) = n2 at *
        have e0 : ((n0 : Int) != (n0 : Int)) = false := by simp
        have e1 : ((n1 : Int) != (n1 : Int)) = false := by simp
        have e2 : ((n2 : Int) != (n2 : Int)) = false := by simp
        have HB8 := Lib.hid (Below.refl w3.heap.size w3)
        go_wp2_with (first
          | (go_at_call 25; (with_reducible refine (HCT.out _ HB8.out).mono ?_); rintro e wa ⟨rfl, hba⟩; have HBn := Lib.hid (Below.step HB8.out hba); clear HB8 hba; have HB8 := HBn; clear HBn)
          | (go_at_call 27; (with_reducible refine (told_any es V vc _ _ (HEW.out _ HB8.out) (by omega)).mono ?_); rintro e wa ⟨V7, c7, rfl, hr7, hba⟩; have HBn := Lib.hid (Below.step HB8.out hba); have HR7 := Lib.hid hr7; clear HB8 hba hr7; have HB8 := HBn; clear HBn)
          | (go_at_call 26; (with_reducible refine (redsame_any V7 U c7 uc es us _ _ _ HR7.out (HUW.out _ HB8.out) HEU.out (by omega)).mono ?_); rintro e wa ⟨rfl, hba⟩; have HBn := Lib.hid (Below.step HB8.out hba); clear HB8 hba; have HB8 := HBn; clear HBn)
          | (go_at_call 28; (with_reducible refine (HR0.out _ HB8.out).mono ?_); rintro e wa ⟨rfl, rfl⟩)
          | (go_at_call 28; (with_reducible refine (HR1.out _ HB8.out).mono ?_); rintro e wa ⟨rfl, rfl⟩)
          | (go_at_call 28; (with_reducible refine (HR2.out _ HB8.out).mono ?_); rintro e wa ⟨rfl, rfl⟩)
          | fail)
        clear HCT HR0 HR1 HR2 HUW HEW
        obtain ⟨Q, hQ1, hQ2, hQ3⟩ := HEO.out.tight
        have HQ1 := Lib.hid hQ1; have HQ2 := Lib.hid hQ2; have HQ3 := Lib.hid hQ3
        clear hQ1 hQ2 hQ3
        go_loopw [13] (fun i w' => SpRelE wz Q V vc es i w') (fun i _ => es.length - (intOf i).toNat)
        case atStart => exact ⟨0, Nat.zero_le _, rfl, Lib.hid (own_belowA2 HEO.out.row.1 HB8.out), Lib.hid (fun j h _ => (HQ1.out j h).below HB8.out), Lib.hid (Below.step HB3.out HB8.out)⟩
        case round =>
          rename World => wy
          obtain ⟨k, hk4, rfl, HO, HTT, HBS⟩ := hrel
          by_cases hlt4 : k < es.length
          · obtain ⟨g, rfl, _, hg2⟩ := own_some HO.out (by omega)
            obtain ⟨x0, x1, x2⟩ := own_at4E HO.out k hlt4
            have i3 : (k : Int) < (es.length : Int) := by omega
            have i4 : (0 : Int) ≤ (k : Int) := by omega
            have HSP := Lib.hid (spoil_any es[k].d (Q k) wy (HTT.out k hlt4 (Nat.le_refl _)) (HMD.out _ (List.getElem_mem hlt4)))
            as_aux_lemma =>
              go_wp2_with (go_at_call 29; (with_reducible refine HSP.out.mono ?_); rintro e w7 ⟨rfl, hsp⟩; have HSD := Lib.hid hsp; clear hsp)
              exact ⟨SpRelE.step hlt4 HO.out HTT.out HBS.out HSD.out (fun i x hx => ⟨(HQ2.out i x hx).1, (HQ2.out i x hx).2.2⟩) HQ3.out, by simp only [intOf]; omega⟩
          · have i3 : ¬ (k : Int) < (es.length : Int) := by omega
            as_aux_lemma =>
              go_wp2_with fail
              exact ⟨⟨r + 1, by omega, by go_num, Lib.hid (Below.step HBr.out HBS.out)⟩, by simp only [intOf]; omega⟩
      · obtain rfl : r = 2 := by omega
        clear p0 q0
        have HCP := Lib.hid (show ∀ w', Below wz.heap.size wz w' → Below w.heap.size w w' ∧ w'.cell? ⟨ga, 0, none⟩ = some (.slice VA xa.length ac) ∧ w'.cell? ⟨gb, 0, none⟩ = some (.slice VB xb.length bc) ∧ w'.cell? ⟨w.heap.size, 0, none⟩ = some (.slice A la.length c) ∧ w'.cell? ⟨w.heap.size + 1, 0, none⟩ = some (.slice B lb.length d) from fun w' hb => by
          have h := Below.step HBr.out hb
          exact ⟨Below.step HBW.out hb, (blk1 (bx_kept h HKa2.out)).1, (blk1 (bx_kept h HKb2.out)).1, (blk1 (bx_kept h HKA2.out.1)).1, (blk1 (bx_kept h HKA2.out.2)).1⟩)
        have HC1 := Lib.hid (show ∀ w', Below wz.heap.size wz w' → Calls Tryz.prog 30 #[.agg #[.slice VA xa.length ac], .agg #[.slice VB xb.length bc]] w' (TextPost (repG (la.map Ld.df) (lb.map Ld.df)) w') from fun w' hb => by
          have h := report_any xa xb VA VB ac bc _ _ w' (HVa2.out.1.below (Below.step HBr.out hb)) (HVb2.out.1.below (Below.step HBr.out hb)) HXA.out HXB.out (HP.out.below (HCP.out w' hb).1)
          rw [HVa2.out.2, HVb2.out.2] at h
          exact h)
        have HC2 := Lib.hid (show ∀ w', Below wz.heap.size wz w' → Calls Tryz.prog 31 #[.agg #[.slice A la.length c], .agg #[.slice B lb.length d]] w' (TextPost (repG (la.map Ld.df) (lb.map Ld.df)) w') from fun w' hb => r30report_any la lb A B c d S T w' (HA.out.below (HCP.out w' hb).1) (HB.out.below (HCP.out w' hb).1) (by omega) (by omega) (fun x hx => (HSA.out.2 x hx).modR) (fun x hx => (HSB.out.2 x hx).modR))
        have HC3 := Lib.hid (show ∀ w', Below wz.heap.size wz w' → Calls Tryz.prog 32 #[.agg #[.slice VA xa.length ac], .agg #[.slice A la.length c]] w' fun e w'' => e = .returned (.bool true) ∧ Below w'.heap.size w' w'' from fun w' hb => exact9_any VA A ac c xa la _ _ w' (HVa2.out.1.below (Below.step HBr.out hb)) (HA.out.below (HCP.out w' hb).1) HVa2.out.2 (by omega))
        have HC4 := Lib.hid (show ∀ w', Below wz.heap.size wz w' → Calls Tryz.prog 32 #[.agg #[.slice VB xb.length bc], .agg #[.slice B lb.length d]] w' fun e w'' => e = .returned (.bool true) ∧ Below w'.heap.size w' w'' from fun w' hb => exact9_any VB B bc d xb lb _ _ w' (HVb2.out.1.below (Below.step HBr.out hb)) (HB.out.below (HCP.out w' hb).1) HVb2.out.2 (by omega))
        have HC5 := Lib.hid (show ∀ w', Below wz.heap.size wz w' → Calls Tryz.prog 21 #[] w' fun e w'' => e = .returned (.bool true) ∧ Below w'.heap.size w' w'' from fun w' hb => awake_any w' (HP.out.below (HCP.out w' hb).1).cn)
        clear HA HB HP HSA HSB HUS HUR HBD HKa2 HKb2 HKA2 HVa2 HVb2 HXA HXB HBr HBW
        unfold TextPost at HC1 HC2
        generalize repG (la.map Ld.df) (lb.map Ld.df) = rp at *
        go_upto_region 16 with (fail)
        have HE0 := Lib.hid (Below.refl wz.heap.size wz)
        have hund : undef = Value.tuple #[] := rfl
        have e1 : ((⟨rp.toArray⟩ : ByteArray).toList == (⟨rp.toArray⟩ : ByteArray).toList) = true := by simp
        obtain ⟨SP, HSD⟩ : ∃ SP : World → Prop, Hid (SP = fun w' => w'.cell? ⟨ga, 0, none⟩ = some (.slice VA xa.length ac) ∧ w'.cell? ⟨gb, 0, none⟩ = some (.slice VB xb.length bc) ∧ w'.cell? ⟨w.heap.size, 0, none⟩ = some (.slice A la.length c) ∧ w'.cell? ⟨w.heap.size + 1, 0, none⟩ = some (.slice B lb.length d)) := ⟨_, Lib.hid rfl⟩
        refine wp_region_held_drew (S := SP) (by kernel_rfl) (by rw [HSD.out]; exact (HCP.out _ (by first | exact HE0.out | exact HE0.out.drew)).2) (fun hHeld => ?_)
        try simp only [Act.put, List.setIfInBounds_toArray, List.set_cons_zero, List.set_cons_succ]
        (refine wpAnyH_take (i := 0) (oi := { dst := some 74, op := Go.Op.load 24 (Go.Operand.tmp 5), type := 24, pos := "law.go:85", after := #[], guard := none }) (v := ?_) rfl (by kernel_rfl) (by kernel_rfl) (by kernel_rfl) (fun _ _ _ h => h) (Or.inl ⟨by rfl, ?_⟩) (by assumption) ?_; rotate_left 1; (focus (intro w hSw; rw [HSD.out] at hSw; (try dsimp only at hSw); go_simp; (try with_reducible rfl))); (try simp only [Act.put, List.setIfInBounds_toArray, List.set_cons_zero, List.set_cons_succ]))
        (refine wpAnyH_take (i := 1) (oi := { dst := some 75, op := Go.Op.load 24 (Go.Operand.tmp 6), type := 24, pos := "law.go:85", after := #[], guard := none }) (v := ?_) rfl (by kernel_rfl) (by kernel_rfl) (by kernel_rfl) (fun _ _ _ h => h) (Or.inl ⟨by rfl, ?_⟩) (by assumption) ?_; rotate_left 1; (focus (intro w hSw; rw [HSD.out] at hSw; (try dsimp only at hSw); go_simp; (try with_reducible rfl))); (try simp only [Act.put, List.setIfInBounds_toArray, List.set_cons_zero, List.set_cons_succ]))
        (refine wpAnyH_take (i := 3) (oi := { dst := some 77, op := Go.Op.load 24 (Go.Operand.tmp 2), type := 24, pos := "law.go:85", after := #[], guard := none }) (v := ?_) rfl (by kernel_rfl) (by kernel_rfl) (by kernel_rfl) (fun _ _ _ h => h) (Or.inl ⟨by rfl, ?_⟩) (by assumption) ?_; rotate_left 1; (focus (intro w hSw; rw [HSD.out] at hSw; (try dsimp only at hSw); go_simp; (try with_reducible rfl))); (try simp only [Act.put, List.setIfInBounds_toArray, List.set_cons_zero, List.set_cons_succ]))
        (refine wpAnyH_take (i := 4) (oi := { dst := some 78, op := Go.Op.load 24 (Go.Operand.tmp 3), type := 24, pos := "law.go:85", after := #[], guard := none }) (v := ?_) rfl (by kernel_rfl) (by kernel_rfl) (by kernel_rfl) (fun _ _ _ h => h) (Or.inl ⟨by rfl, ?_⟩) (by assumption) ?_; rotate_left 1; (focus (intro w hSw; rw [HSD.out] at hSw; (try dsimp only at hSw); go_simp; (try with_reducible rfl))); (try simp only [Act.put, List.setIfInBounds_toArray, List.set_cons_zero, List.set_cons_succ]))
        (refine wpAnyH_ready (rs := [2]) (by kernel_rfl) (by simp) ?_; refine AllReadyH.cons (o := { dst := some 76, op := Go.Op.call { callee := Go.Callee.value (Go.Operand.func 30), args := #[Go.Operand.tmp 74, Go.Operand.tmp 75], argTypes := #[24, 24] }, type := 9, pos := "law.go:85", after := #[{ on := 0, ground := Go.Ground.data }, { on := 1, ground := Go.Ground.data }], guard := none }) rfl (fun K hK => ?_) AllReadyH.nil; go_simp; (go_at_call 30; (with_reducible refine (HC1.out _ (by first | exact HE0.out | exact HE0.out.drew)).mono ?_); rintro e wx ⟨rfl, hb⟩; have HE' := Lib.hid (Below.step (by first | exact HE0.out | exact HE0.out.drew) hb); clear HE0; have HE0 := HE'; clear HE'; clear hb HC1); (try go_wp2_with fail); refine hK.out _ _ (by rw [HSD.out]; exact (HCP.out _ (by first | exact HE0.out | exact HE0.out.drew)).2) (fun hHeld => ?_); clear hK K; (try simp only [Act.put, List.setIfInBounds_toArray, List.set_cons_zero, List.set_cons_succ]))
        (refine wpAnyH_ready (rs := [5]) (by kernel_rfl) (by simp) ?_; refine AllReadyH.cons (o := { dst := some 79, op := Go.Op.call { callee := Go.Callee.value (Go.Operand.func 31), args := #[Go.Operand.tmp 77, Go.Operand.tmp 78], argTypes := #[24, 24] }, type := 9, pos := "law.go:85", after := #[{ on := 3, ground := Go.Ground.data }, { on := 4, ground := Go.Ground.data }, { on := 2, ground := Go.Ground.chain }], guard := none }) rfl (fun K hK => ?_) AllReadyH.nil; go_simp; (go_at_call 31; (with_reducible refine (HC2.out _ (by first | exact HE0.out | exact HE0.out.drew)).mono ?_); rintro e wx ⟨rfl, hb⟩; have HE' := Lib.hid (Below.step (by first | exact HE0.out | exact HE0.out.drew) hb); clear HE0; have HE0 := HE'; clear HE'; clear hb HC2); (try go_wp2_with fail); refine hK.out _ _ (by rw [HSD.out]; exact (HCP.out _ (by first | exact HE0.out | exact HE0.out.drew)).2) (fun hHeld => ?_); clear hK K; (try simp only [Act.put, List.setIfInBounds_toArray, List.set_cons_zero, List.set_cons_succ]))
        (refine wpAnyH_take (i := 6) (oi := { dst := some 80, op := Go.Op.binOp Go.BinOp.eql 9 (Go.Operand.tmp 76) (Go.Operand.tmp 79) 9, type := 4, pos := "law.go:85", after := #[{ on := 2, ground := Go.Ground.data }, { on := 5, ground := Go.Ground.data }], guard := none }) (v := ?_) rfl (by kernel_rfl) (by kernel_rfl) (by kernel_rfl) (fun _ _ _ h => h) (Or.inl ⟨by rfl, ?_⟩) (by assumption) ?_; rotate_left 1; (focus (intro w hSw; rw [HSD.out] at hSw; (try dsimp only at hSw); go_simp; (try with_reducible rfl))); (try simp only [Act.put, List.setIfInBounds_toArray, List.set_cons_zero, List.set_cons_succ]))
        (refine wpAnyH_take (i := 7) (oi := { dst := some 81, op := Go.Op.move (Go.Operand.tmp 80), type := 4, pos := "law.go:85", after := #[{ on := 6, ground := Go.Ground.data }, { on := 5, ground := Go.Ground.chain }], guard := none }) (v := ?_) rfl (by kernel_rfl) (by kernel_rfl) (by kernel_rfl) (fun _ _ _ h => h) (Or.inl ⟨by rfl, ?_⟩) (by assumption) ?_; rotate_left 1; (focus (intro w hSw; rw [HSD.out] at hSw; (try dsimp only at hSw); go_simp; (try with_reducible rfl))); (try simp only [Act.put, List.setIfInBounds_toArray, List.set_cons_zero, List.set_cons_succ]))
        (refine wpAnyH_take (i := 8) (oi := { dst := some 82, op := Go.Op.load 24 (Go.Operand.tmp 5), type := 24, pos := "law.go:85", after := #[{ on := 7, ground := Go.Ground.guard }], guard := some (7, true) }) (v := ?_) rfl (by kernel_rfl) (by kernel_rfl) (by kernel_rfl) (fun _ _ _ h => h) (Or.inl ⟨by rfl, ?_⟩) (by assumption) ?_; rotate_left 1; (focus (intro w hSw; rw [HSD.out] at hSw; (try dsimp only at hSw); go_simp; (try with_reducible rfl))); (try simp only [Act.put, List.setIfInBounds_toArray, List.set_cons_zero, List.set_cons_succ]))
        (refine wpAnyH_take (i := 9) (oi := { dst := some 83, op := Go.Op.load 24 (Go.Operand.tmp 2), type := 24, pos := "law.go:85", after := #[{ on := 7, ground := Go.Ground.guard }], guard := some (7, true) }) (v := ?_) rfl (by kernel_rfl) (by kernel_rfl) (by kernel_rfl) (fun _ _ _ h => h) (Or.inl ⟨by rfl, ?_⟩) (by assumption) ?_; rotate_left 1; (focus (intro w hSw; rw [HSD.out] at hSw; (try dsimp only at hSw); go_simp; (try with_reducible rfl))); (try simp only [Act.put, List.setIfInBounds_toArray, List.set_cons_zero, List.set_cons_succ]))
        (refine wpAnyH_ready (rs := [10]) (by kernel_rfl) (by simp) ?_; refine AllReadyH.cons (o := { dst := some 84, op := Go.Op.call { callee := Go.Callee.value (Go.Operand.func 32), args := #[Go.Operand.tmp 82, Go.Operand.tmp 83], argTypes := #[24, 24] }, type := 4, pos := "law.go:85", after := #[{ on := 8, ground := Go.Ground.data }, { on := 9, ground := Go.Ground.data }, { on := 7, ground := Go.Ground.chain }, { on := 7, ground := Go.Ground.guard }], guard := some (7, true) }) rfl (fun K hK => ?_) AllReadyH.nil; go_simp; (go_at_call 32; (with_reducible refine (HC3.out _ (by first | exact HE0.out | exact HE0.out.drew)).mono ?_); rintro e wx ⟨rfl, hb⟩; have HE' := Lib.hid (Below.step (by first | exact HE0.out | exact HE0.out.drew) hb); clear HE0; have HE0 := HE'; clear HE'; clear hb HC3); (try go_wp2_with fail); refine hK.out _ _ (by rw [HSD.out]; exact (HCP.out _ (by first | exact HE0.out | exact HE0.out.drew)).2) (fun hHeld => ?_); clear hK K; (try simp only [Act.put, List.setIfInBounds_toArray, List.set_cons_zero, List.set_cons_succ]))
        (refine wpAnyH_take (i := 11) (oi := { dst := some 85, op := Go.Op.pick (Go.Operand.tmp 81) (Go.Operand.tmp 84) (Go.Operand.const (Go.Value.bool false)), type := 4, pos := "law.go:85", after := #[{ on := 7, ground := Go.Ground.data }, { on := 10, ground := Go.Ground.data }], guard := none }) (v := ?_) rfl (by kernel_rfl) (by kernel_rfl) (by kernel_rfl) (fun _ _ _ h => h) (Or.inl ⟨by rfl, ?_⟩) (by assumption) ?_; rotate_left 1; (focus (intro w hSw; rw [HSD.out] at hSw; (try dsimp only at hSw); go_simp; (try with_reducible rfl))); (try simp only [Act.put, List.setIfInBounds_toArray, List.set_cons_zero, List.set_cons_succ]))
        (refine wpAnyH_take (i := 12) (oi := { dst := some 86, op := Go.Op.move (Go.Operand.tmp 85), type := 4, pos := "law.go:85", after := #[{ on := 11, ground := Go.Ground.data }, { on := 10, ground := Go.Ground.chain }], guard := none }) (v := ?_) rfl (by kernel_rfl) (by kernel_rfl) (by kernel_rfl) (fun _ _ _ h => h) (Or.inl ⟨by rfl, ?_⟩) (by assumption) ?_; rotate_left 1; (focus (intro w hSw; rw [HSD.out] at hSw; (try dsimp only at hSw); go_simp; (try with_reducible rfl))); (try simp only [Act.put, List.setIfInBounds_toArray, List.set_cons_zero, List.set_cons_succ]))
        (refine wpAnyH_take (i := 13) (oi := { dst := some 87, op := Go.Op.load 24 (Go.Operand.tmp 6), type := 24, pos := "law.go:85", after := #[{ on := 12, ground := Go.Ground.guard }], guard := some (12, true) }) (v := ?_) rfl (by kernel_rfl) (by kernel_rfl) (by kernel_rfl) (fun _ _ _ h => h) (Or.inl ⟨by rfl, ?_⟩) (by assumption) ?_; rotate_left 1; (focus (intro w hSw; rw [HSD.out] at hSw; (try dsimp only at hSw); go_simp; (try with_reducible rfl))); (try simp only [Act.put, List.setIfInBounds_toArray, List.set_cons_zero, List.set_cons_succ]))
        (refine wpAnyH_take (i := 14) (oi := { dst := some 88, op := Go.Op.load 24 (Go.Operand.tmp 3), type := 24, pos := "law.go:85", after := #[{ on := 12, ground := Go.Ground.guard }], guard := some (12, true) }) (v := ?_) rfl (by kernel_rfl) (by kernel_rfl) (by kernel_rfl) (fun _ _ _ h => h) (Or.inl ⟨by rfl, ?_⟩) (by assumption) ?_; rotate_left 1; (focus (intro w hSw; rw [HSD.out] at hSw; (try dsimp only at hSw); go_simp; (try with_reducible rfl))); (try simp only [Act.put, List.setIfInBounds_toArray, List.set_cons_zero, List.set_cons_succ]))
        (refine wpAnyH_ready (rs := [15]) (by kernel_rfl) (by simp) ?_; refine AllReadyH.cons (o := { dst := some 89, op := Go.Op.call { callee := Go.Callee.value (Go.Operand.func 32), args := #[Go.Operand.tmp 87, Go.Operand.tmp 88], argTypes := #[24, 24] }, type := 4, pos := "law.go:85", after := #[{ on := 13, ground := Go.Ground.data }, { on := 14, ground := Go.Ground.data }, { on := 12, ground := Go.Ground.chain }, { on := 12, ground := Go.Ground.guard }], guard := some (12, true) }) rfl (fun K hK => ?_) AllReadyH.nil; go_simp; (go_at_call 32; (with_reducible refine (HC4.out _ (by first | exact HE0.out | exact HE0.out.drew)).mono ?_); rintro e wx ⟨rfl, hb⟩; have HE' := Lib.hid (Below.step (by first | exact HE0.out | exact HE0.out.drew) hb); clear HE0; have HE0 := HE'; clear HE'; clear hb HC4); (try go_wp2_with fail); refine hK.out _ _ (by rw [HSD.out]; exact (HCP.out _ (by first | exact HE0.out | exact HE0.out.drew)).2) (fun hHeld => ?_); clear hK K; (try simp only [Act.put, List.setIfInBounds_toArray, List.set_cons_zero, List.set_cons_succ]))
        (refine wpAnyH_take (i := 16) (oi := { dst := some 90, op := Go.Op.pick (Go.Operand.tmp 86) (Go.Operand.tmp 89) (Go.Operand.const (Go.Value.bool false)), type := 4, pos := "law.go:85", after := #[{ on := 12, ground := Go.Ground.data }, { on := 15, ground := Go.Ground.data }], guard := none }) (v := ?_) rfl (by kernel_rfl) (by kernel_rfl) (by kernel_rfl) (fun _ _ _ h => h) (Or.inl ⟨by rfl, ?_⟩) (by assumption) ?_; rotate_left 1; (focus (intro w hSw; rw [HSD.out] at hSw; (try dsimp only at hSw); go_simp; (try with_reducible rfl))); (try simp only [Act.put, List.setIfInBounds_toArray, List.set_cons_zero, List.set_cons_succ]))
        (refine wpAnyH_take (i := 17) (oi := { dst := some 91, op := Go.Op.move (Go.Operand.tmp 90), type := 4, pos := "law.go:85", after := #[{ on := 16, ground := Go.Ground.data }, { on := 15, ground := Go.Ground.chain }], guard := none }) (v := ?_) rfl (by kernel_rfl) (by kernel_rfl) (by kernel_rfl) (fun _ _ _ h => h) (Or.inl ⟨by rfl, ?_⟩) (by assumption) ?_; rotate_left 1; (focus (intro w hSw; rw [HSD.out] at hSw; (try dsimp only at hSw); go_simp; (try with_reducible rfl))); (try simp only [Act.put, List.setIfInBounds_toArray, List.set_cons_zero, List.set_cons_succ]))
        (refine wpAnyH_ready (rs := [18]) (by kernel_rfl) (by simp) ?_; refine AllReadyH.cons (o := { dst := some 92, op := Go.Op.call { callee := Go.Callee.value (Go.Operand.func 21), args := #[], argTypes := #[] }, type := 4, pos := "law.go:85", after := #[{ on := 17, ground := Go.Ground.chain }, { on := 17, ground := Go.Ground.guard }], guard := some (17, true) }) rfl (fun K hK => ?_) AllReadyH.nil; go_simp; (go_at_call 21; (with_reducible refine (HC5.out _ (by first | exact HE0.out | exact HE0.out.drew)).mono ?_); rintro e wx ⟨rfl, hb⟩; have HE' := Lib.hid (Below.step (by first | exact HE0.out | exact HE0.out.drew) hb); clear HE0; have HE0 := HE'; clear HE'; clear hb HC5); (try go_wp2_with fail); refine hK.out _ _ (by rw [HSD.out]; exact (HCP.out _ (by first | exact HE0.out | exact HE0.out.drew)).2) (fun hHeld => ?_); clear hK K; (try simp only [Act.put, List.setIfInBounds_toArray, List.set_cons_zero, List.set_cons_succ]))
        (refine wpAnyH_take (i := 19) (oi := { dst := some 93, op := Go.Op.pick (Go.Operand.tmp 91) (Go.Operand.tmp 92) (Go.Operand.const (Go.Value.bool false)), type := 4, pos := "law.go:85", after := #[{ on := 17, ground := Go.Ground.data }, { on := 18, ground := Go.Ground.data }], guard := none }) (v := ?_) rfl (by kernel_rfl) (by kernel_rfl) (by kernel_rfl) (fun _ _ _ h => h) (Or.inl ⟨by rfl, ?_⟩) (by assumption) ?_; rotate_left 1; (focus (intro w hSw; rw [HSD.out] at hSw; (try dsimp only at hSw); go_simp; (try with_reducible rfl))); (try simp only [Act.put, List.setIfInBounds_toArray, List.set_cons_zero, List.set_cons_succ]))
        (refine wpAnyH_take (i := 20) (oi := { dst := some 4, op := Go.Op.assign (Go.Operand.tmp 93), type := 4, pos := "law.go:85", after := #[{ on := 19, ground := Go.Ground.data }, { on := 18, ground := Go.Ground.chain }, { on := 0, ground := Go.Ground.phase }, { on := 1, ground := Go.Ground.phase }, { on := 2, ground := Go.Ground.phase }, { on := 3, ground := Go.Ground.phase }, { on := 4, ground := Go.Ground.phase }, { on := 5, ground := Go.Ground.phase }, { on := 6, ground := Go.Ground.phase }, { on := 7, ground := Go.Ground.phase }, { on := 8, ground := Go.Ground.phase }, { on := 9, ground := Go.Ground.phase }, { on := 10, ground := Go.Ground.phase }, { on := 11, ground := Go.Ground.phase }, { on := 12, ground := Go.Ground.phase }, { on := 13, ground := Go.Ground.phase }, { on := 14, ground := Go.Ground.phase }, { on := 15, ground := Go.Ground.phase }, { on := 16, ground := Go.Ground.phase }, { on := 17, ground := Go.Ground.phase }, { on := 18, ground := Go.Ground.phase }, { on := 19, ground := Go.Ground.phase }], guard := none }) (v := ?_) rfl (by kernel_rfl) (by kernel_rfl) (by kernel_rfl) (fun _ _ _ h => h) (Or.inl ⟨by rfl, ?_⟩) (by assumption) ?_; rotate_left 1; (focus (intro w hSw; rw [HSD.out] at hSw; (try dsimp only at hSw); go_simp; (try with_reducible rfl))); (try simp only [Act.put, List.setIfInBounds_toArray, List.set_cons_zero, List.set_cons_succ]))
        refine wpAnyH_done (by kernel_rfl) ?_ _
        go_wp2_with fail
        go_ret
        exact ⟨rfl, (HCP.out _ (by first | exact HE0.out | exact HE0.out.drew)).1⟩
end Go.Proofs.YtmjkgnknfgoadaaGreatDoor
