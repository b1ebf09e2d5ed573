/- Facts that the invariants of drawn regions carry: owned outcomes and boxes. -/
import Derived.Test.YtogmkekbdfckpaaDoorTg
import Derived.Test.YtogmkekbdfckpaaDoorSz
import Derived.Test.YtogmkekbdfckpaaDoorRg
namespace Go.Proofs.YtogmkekbdfckpaaDoor
open Go.RowKit
set_option linter.unusedSimpArgs false
set_option linter.unusedVariables false

theorem OutOwn.below {w w' : World} {B : Nat} {v : Value} {o : Outc} (h : OutOwn w B v o) (hb : Below w.heap.size w w') : OutOwn w' B v o := by
  obtain ⟨A, c, he, ho⟩ := h
  refine ⟨A, c, he, ho.1, ho.2.imp id ?_⟩
  rintro ⟨g, cap, cur, hv, hg, hh, r⟩
  exact ⟨g, cap, cur, hv, hg, (hb.block g (heap_lt hh)).trans hh, r⟩
theorem OutOwn.mono {w : World} {B B' : Nat} {v : Value} {o : Outc} (h : OutOwn w B v o) (hb : B' ≤ B) : OutOwn w B' v o := by
  obtain ⟨A, c, he, ho⟩ := h
  exact ⟨A, c, he, ho.mono hb⟩
/-- A store into a box of an outcome's type turns no row of captures. -/
theorem OutOwn.but {w w' : World} {B p : Nat} {v : Value} {o : Outc} {cs : Array Value} (h : OutOwn w B v o) (hp : w.heap[p]? = some (.cells cs 24 (0, 0))) (hb : ∀ k, k ≠ p → w'.heap[k]? = w.heap[k]?) : OutOwn w' B v o := by
  obtain ⟨A, c, he, ho⟩ := h
  refine ⟨A, c, he, ho.1, ho.2.imp id ?_⟩
  rintro ⟨g, cap, cur, hv, hg, hh, r⟩
  refine ⟨g, cap, cur, hv, hg, (hb g (fun e => ?_)).trans hh, r⟩
  subst e; rw [hp] at hh; injection hh with hh; injection hh with _ hT; exact absurd hT (by decide)

/-- v points to a box of an outcome's type, from block B on; where U, the box holds src. -/
def BoxF (w : World) (B : Nat) (v : Value) (U : Prop) (src : Value) : Prop :=
  ∃ (p : Nat) (x y z : Value), v = .pointer (some ⟨p, 0, none⟩) ∧ B ≤ p ∧ w.heap[p]? = some (.cells #[x, y, z] 24 (0, 0)) ∧ (U → src = .agg #[x, y, z])
theorem BoxF.below {w w' : World} {B : Nat} {v : Value} {U U' : Prop} {src : Value} (h : BoxF w B v U src) (hU : U' → U) (hb : Below w.heap.size w w') : BoxF w' B v U' src := by
  obtain ⟨p, x, y, z, he, hB, hh, hs⟩ := h
  exact ⟨p, x, y, z, he, hB, (hb.block p (heap_lt hh)).trans hh, fun u => hs (hU u)⟩
theorem BoxF.imp {w : World} {B : Nat} {v : Value} {U U' : Prop} {src src' : Value} (h : BoxF w B v U src) (hU : U' → U ∧ src' = src) : BoxF w B v U' src' := by
  obtain ⟨p, x, y, z, he, hB, hh, hs⟩ := h
  exact ⟨p, x, y, z, he, hB, hh, fun u => (hU u).2.trans (hs (hU u).1)⟩
theorem BoxF.but {w w' : World} {B p : Nat} {v : Value} {U U' : Prop} {src : Value} (h : BoxF w B v U src) (hU : U' → U) (hne : v ≠ .pointer (some ⟨p, 0, none⟩)) (hb : ∀ k, k ≠ p → w'.heap[k]? = w.heap[k]?) : BoxF w' B v U' src := by
  obtain ⟨q, x, y, z, he, hB, hh, hs⟩ := h
  exact ⟨q, x, y, z, he, hB, (hb q (fun e => hne (by rw [he, e]))).trans hh, fun u => hs (hU u)⟩
theorem BoxF.new {w : World} {B : Nat} (hB : B ≤ w.heap.size) {U : Prop} (hU : ¬ U) (src x y z : Value) : BoxF (w.alloc (.cells #[x, y, z] 24)) B (.pointer (some ⟨w.heap.size, 0, none⟩)) U src :=
  ⟨w.heap.size, x, y, z, rfl, hB, heap_alloc_new _ _, fun u => absurd u hU⟩
theorem BoxF.fresh {w : World} {B : Nat} {v : Value} {U : Prop} {src : Value} (h : BoxF w B v U src) : v ≠ .pointer (some ⟨w.heap.size, 0, none⟩) := by
  obtain ⟨p, x, y, z, he, hB, hh, hs⟩ := h
  rw [he]; intro e; injection e with e; injection e with e; injection e with e
  have := heap_lt hh; omega
theorem flag_of {listed : Array Bool} {i k : Nat} (hk : k ≠ i) (h : (listed.setIfInBounds i true).getD k false = true) : listed.getD k false = true :=
  (flag_set h).elim (fun e => absurd e hk) id
theorem flag_old {listed : Array Bool} {i k : Nat} (h : listed.getD k false = true) : (listed.setIfInBounds i true).getD k false = true := by
  simp only [Array.getD_eq_getD_getElem?, Array.getElem?_setIfInBounds] at h ⊢
  by_cases hk : i = k
  · subst hk
    by_cases hi : i < listed.size
    · simp [hi]
    · simp [hi] at h
  · rwa [if_neg hk]
theorem flag_not {listed : Array Bool} {i : Nat} (h : listed.getD i true = false) (k : listed.getD i false = true) : False := by
  simp only [Array.getD_eq_getD_getElem?] at h k
  cases hx : listed[i]? with
  | none => rw [hx] at k; simp at k
  | some b => rw [hx] at h k; simp at h k; rw [h] at k; cases k
theorem BoxF.none {w : World} {B : Nat} {v : Value} {U U' : Prop} {src src' : Value} (h : BoxF w B v U src) (hU : ¬ U') : BoxF w B v U' src' := by
  obtain ⟨q, x, y, z, he, hB, hh, hs⟩ := h
  exact ⟨q, x, y, z, he, hB, hh, fun u => absurd u hU⟩
/-- The block of an outcome's row. -/
def rowOf : Value → Option Nat
  | .agg cs => (match cs.toList with
    | [_, _, s] => s.ownBlock
    | _ => Option.none)
  | _ => Option.none
def SepO (u v : Value) : Prop := ∀ g, rowOf u = some g → rowOf v ≠ some g
theorem SepO.symm {u v : Value} (h : SepO u v) : SepO v u := fun g hv hu => h g hu hv
theorem OutOwn.rowLt {w : World} {B : Nat} {v : Value} {o : Outc} (h : OutOwn w B v o) : ∀ g, rowOf v = some g → B ≤ g ∧ g < w.heap.size := by
  obtain ⟨A, c, rfl, ho⟩ := h
  intro g hg
  exact World.ownsRow.lt ho g hg
theorem SepO.of {w w' : World} {B : Nat} {u v : Value} {o p : Outc} (h : OutOwn w B u o) (k : OutOwn w' w.heap.size v p) : SepO u v := fun g hu hv => by
  have h1 := h.rowLt g hu
  have h2 := k.rowLt g hv
  omega
theorem own_row {w : World} {B : Nat} {A : Option Addr} {c : Nat} {o : Outc} (h : OutOwn w B (outV A c o) o) : OwnCaps w B (.slice A o.caps.length c) o.caps := by
  obtain ⟨A', c', he, ho⟩ := h
  simp only [outV, Value.agg.injEq, Array.mk.injEq, List.cons.injEq, Value.slice.injEq, and_true, true_and] at he
  obtain ⟨rfl, rfl⟩ := he
  exact ho
theorem spoil_at (o : Outc) (A : Option Addr) (c B : Nat) (w : World) (hown : OutOwn w B (outV A c o) o) (hB : B ≤ w.heap.size) (hl : o.caps.length ≤ 281474976710656) :
    Calls Tryd.prog 30 #[outV A c o] w fun e w' => e = .returned (.tuple #[]) ∧ Hid (w.grownBy w' (rowOf (outV A c o))) :=
  (spoil_grown o A c B w (own_row hown) hB hl).mono fun e w' ⟨he, hg⟩ => ⟨he, Lib.hid hg⟩
theorem own_grown {w w' : World} {B B' : Nat} {u v : Value} {o p : Outc} (hu : OutOwn w B u o) (hg : w.grownBy w' (rowOf u)) (h : OutOwn w B' v p) (hs : SepO u v) : OutOwn w' B' v p := by
  obtain ⟨A, c, rfl, ho⟩ := h
  refine ⟨A, c, rfl, World.ownsRow.kept ho hg ?_⟩
  cases hv : Value.ownBlock (.slice A p.caps.length c) with
  | none => exact .inl rfl
  | some g => exact .inr fun e => hs g e.symm hv
theorem box_grown {w w' : World} {B p : Nat} {u : Value} {o : Outc} {cs : Array Value} (hu : OutOwn w B u o) (hg : w.grownBy w' (rowOf u)) (hp : w.heap[p]? = some (.cells cs 24 (0, 0))) : w'.heap[p]? = some (.cells cs 24 (0, 0)) := by
  refine (hg.block p (heap_lt hp) (fun e => ?_)).trans hp
  obtain ⟨A, c, rfl, ho⟩ := hu
  rcases ho.2 with ⟨hv, _⟩ | ⟨g, cap, cur, hv, _, hh, _⟩
  · injection hv with hA; subst hA; cases e
  · injection hv with hA; subst hA
    obtain rfl : p = g := by simpa [rowOf, Value.ownBlock] using e
    rw [hp] at hh; injection hh with hh; injection hh with _ hT; exact absurd hT (by decide)
theorem below_grown {w w' : World} {B : Nat} {u : Value} {o : Outc} (hu : OutOwn w B u o) (hg : w.grownBy w' (rowOf u)) (hB : B ≤ w.heap.size) : Below B w w' :=
  (Below.refl B w).grown hg hB (fun k e => (hu.rowLt k e).1)
theorem ShiftPost.own {w w' : World} {r : Outc × Bool} {e : Ending} (h : ShiftPost w r e w') : ∃ A c, e = .returned (.tuple #[outV A c r.1, .bool r.2]) ∧ Hid (OutOwn w' w.heap.size (outV A c r.1) r.1) ∧ Below w.heap.size w w' := by
  obtain ⟨v, he, ⟨A, c, rfl, ho⟩, hb⟩ := h
  exact ⟨A, c, he, Lib.hid ⟨A, c, rfl, ho⟩, hb⟩
theorem own_rowAt {w : World} {B : Nat} {A : Option Addr} {c : Nat} {o : Outc} (h : OutOwn w B (outV A c o) o) : RowAt w A (cellsOf o.caps) := (own_row h).row
theorem put_self (a : Act) (d : Nat) (h : d < a.tmps.size) : a.put (some d) (a.tmps.getD d undef) = a := by
  obtain ⟨tmps, defers⟩ := a
  simp only at h
  simp only [Act.put, Act.mk.injEq, and_true]
  apply Array.ext_getElem?
  intro i
  rw [Array.getElem?_setIfInBounds]
  split
  · rename_i e; subst e
    simp [h, Array.getD]
  · rfl
theorem self_puts (a : Act) : ∀ (ds : List Nat), ds.all (fun d => decide (d < a.tmps.size)) = true → ds.foldl (fun b d => b.put (some d) (a.tmps.getD d undef)) a = a
  | [], _ => rfl
  | d :: ds, h => by
    simp only [List.all_cons, Bool.and_eq_true, decide_eq_true_eq] at h
    rw [List.foldl_cons, put_self a d h.1]
    exact self_puts a ds h.2
/-- A step of a region, its way on shut. -/
theorem wpOp_shut {P : Program} {ops : Array Oper} {Q : Exit → Act → World → Prop} {i : Nat} {o : Oper} {K : Act → World → Prop} {a : Act} {w : World} (ho : ops[i]? = some o)
    (h : ∀ K' : Act → World → Prop, Shut (∀ a w, K a w → K' a w) → if Region.wanted o (yielded ops a.tmps) = true then Oper.wp P o a w K' Q else K' (a.put o.dst undef) w) : wpOp P ops Q i K a w :=
  wpOp_step ho h
theorem wp_region_inv0 {P : Program} {ops : Array Oper} {Q : Exit → Act → World → Prop} {id : Nat} {a : Act} {w : World} (Inv : Act → Array Bool → Act → World → Prop) (hm : P.follows .mixedOrders = true)
    (h0 : Inv a (Array.replicate ops.size false) a w.drew)
    (hstep : ∀ listed a' w', Inv a listed a' w' → ∀ i, i ∈ Region.ready .any ops listed → wpOp P ops Q i (fun a'' w'' => Inv a (listed.setIfInBounds i true) a'' w'') a' w')
    (hend : ∀ listed a' w', Inv a listed a' w' → Region.ready .any ops listed = [] → Q .normal a' w') : (Code.region id ops true).wp P Q a w :=
  wp_region_inv (Inv a) hm h0 hstep hend
end Go.Proofs.YtogmkekbdfckpaaDoor
