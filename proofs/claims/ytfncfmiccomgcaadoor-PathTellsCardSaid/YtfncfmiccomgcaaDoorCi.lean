/- A region that draws its order, by an invariant over what has come up: each operation is walked once. -/
import Derived.Deep.RegionHeld3
import Derived.Test.YtfncfmiccomgcaaDoorPn
import Derived.Test.YtfncfmiccomgcaaDoorDw
import Derived.Test.YtfncfmiccomgcaaDoorDn
import Derived.Test.YtfncfmiccomgcaaDoorBb
import Derived.Test.YtfncfmiccomgcaaDoorCg
import Derived.Test.YtfncfmiccomgcaaDoorIr
import Derived.BigQuiet
import Derived.Deep.DeepCutAuto
import Derived.Deep.Cut
import Derived.Deep.CutRange
namespace Go.Proofs.YtfncfmiccomgcaaDoor

section
variable {P : Program} {ops : Array Oper} {Q : Exit → Act → World → Prop} {md : Region.Mode}

theorem countP_less {p q : Nat → Bool} : ∀ (l : List Nat), (∀ j, q j = true → p j = true) → ∀ i, i ∈ l → p i = true → q i = false → l.countP q < l.countP p
  | [], _, i, hi, _, _ => by cases hi
  | x :: l, hpq, i, hi, hp, hq => by
    have hle : l.countP q ≤ l.countP p := List.countP_mono_left (fun j _ h => hpq j h)
    simp only [List.countP_cons]
    rcases List.mem_cons.1 hi with rfl | hi
    · rw [hp, hq]; simp; omega
    · have ih := countP_less l hpq i hi hp hq
      cases hqx : q x
      · cases p x <;> simp <;> omega
      · rw [hpq x hqx]; simp; omega

theorem ready_mem {listed : Array Bool} {i : Nat} (h : i ∈ Region.ready md ops listed) : i < ops.size ∧ listed.getD i true = false ∧ ((ops[i]?).map (·.after.all fun e => !Region.binds md e || listed.getD e.on false)).getD false = true := by
  simp only [Region.ready, List.mem_filter, List.mem_range, Bool.and_eq_true, Bool.not_eq_true'] at h
  exact ⟨h.1, h.2.1, h.2.2⟩
theorem ready_after {listed : Array Bool} {i : Nat} {o : Oper} (h : i ∈ Region.ready md ops listed) (ho : ops[i]? = some o) : (o.after.all fun e => !Region.binds md e || listed.getD e.on false) = true := by
  have := (ready_mem h).2.2
  rw [ho] at this
  exact this

theorem wpAny_inv {Inv : Array Bool → Act → World → Prop}
    (hstep : ∀ listed a w, Inv listed a w → ∀ i, i ∈ Region.ready md ops listed → wpOp P ops Q i (fun a' w' => Inv (listed.setIfInBounds i true) a' w') a w)
    (hend : ∀ listed a w, Inv listed a w → Region.ready md ops listed = [] → Q .normal a w) :
    ∀ (fuel : Nat) (listed : Array Bool) (a : Act) (w : World), Inv listed a w → (List.range ops.size).countP (fun i => !listed.getD i true) ≤ fuel → wpAny P md ops Q fuel listed a w := by
  intro fuel
  induction fuel with
  | zero =>
    intro listed a w h hc
    have hr : Region.ready md ops listed = [] := by
      apply List.eq_nil_iff_forall_not_mem.2
      intro i hi
      have hm := ready_mem hi
      have h0 : (List.range ops.size).countP (fun i => !listed.getD i true) = 0 := by omega
      have := List.countP_eq_zero.1 h0 i (List.mem_range.2 hm.1)
      rw [hm.2.1] at this
      simp at this
    exact ⟨hr, hend _ _ _ h hr⟩
  | succ fuel ih =>
    intro listed a w h hc
    refine ⟨hend _ _ _ h, fun i hi => wpOp_mono (fun a' w' h' => ih _ _ _ h' ?_) (hstep _ _ _ h i hi)⟩
    have hm := ready_mem hi
    have hlt : i < listed.size := by
      apply Decidable.byContradiction
      intro hn
      have := hm.2.1
      simp [Array.getD, hn] at this
    have := countP_less (p := fun j => !listed.getD j true) (q := fun j => !(listed.setIfInBounds i true).getD j true) (List.range ops.size) (fun j hj => by
      by_cases hji : j = i
      · subst hji; rw [hm.2.1]; rfl
      · simp only [Bool.not_eq_true'] at hj ⊢
        simp only [Array.getD_eq_getD_getElem?, Array.getElem?_setIfInBounds] at hj ⊢
        rw [if_neg (fun e => hji e.symm)] at hj
        exact hj) i (List.mem_range.2 hm.1) (by rw [hm.2.1]; rfl) (by
      simp [Array.getD_eq_getD_getElem?, hlt])
    omega

theorem wp_region_inv {id : Nat} {a : Act} {w : World} (Inv : Array Bool → Act → World → Prop) (hm : P.follows .mixedOrders = true)
    (h0 : Inv (Array.replicate ops.size false) a w.drew)
    (hstep : ∀ listed a w, Inv listed a w → ∀ i, i ∈ Region.ready .any ops listed → wpOp P ops Q i (fun a' w' => Inv (listed.setIfInBounds i true) a' w') a w)
    (hend : ∀ listed a w, Inv listed a w → Region.ready .any ops listed = [] → Q .normal a w) : (Code.region id ops true).wp P Q a w :=
  wp_region_any hm (wpAny_inv hstep hend _ _ _ _ h0 (by
    refine Nat.le_trans List.countP_le_length ?_
    simp))

/-- What has come up has come up: the flag behind a step. -/
theorem flag_set {listed : Array Bool} {i k : Nat} (h : (listed.setIfInBounds i true).getD k false = true) : k = i ∨ listed.getD k false = true := by
  by_cases hk : k = i
  · exact .inl hk
  · refine .inr ?_
    simp only [Array.getD_eq_getD_getElem?, Array.getElem?_setIfInBounds] at h ⊢
    rwa [if_neg (fun e => hk e.symm)] at h
/-- Edges lead back: where nothing may come up, all has come up. -/
theorem all_listed {listed : Array Bool} (hs : listed.size = ops.size) (hb : (ops.toList.zipIdx.all fun x => x.1.after.all fun e => decide (e.on < x.2)) = true) (h : Region.ready md ops listed = []) : ∀ i, i < ops.size → listed.getD i false = true := by
  intro i
  induction i using Nat.strongRecOn with
  | _ i ih =>
    intro hi
    apply Decidable.byContradiction
    intro hn
    have hmem : i ∈ Region.ready md ops listed := by
      simp only [Region.ready, List.mem_filter, List.mem_range, Bool.and_eq_true, Bool.not_eq_true']
      refine ⟨hi, ?_, ?_⟩
      · simp only [Array.getD_eq_getD_getElem?] at hn ⊢
        have : i < listed.size := by omega
        rw [Array.getElem?_eq_getElem this] at hn ⊢
        simpa using hn
      · rw [Array.getElem?_eq_getElem hi]
        simp only [Option.map_some, Option.getD_some, Array.all_eq_true']
        intro e he
        have hx := List.all_eq_true.1 hb (ops[i], i) (by
          rw [List.mem_zipIdx_iff_getElem?]; simp [hi])
        have := Array.all_eq_true'.1 hx e he
        simp only [decide_eq_true_eq] at this
        rw [ih e.on this (by omega)]
        simp
    rw [h] at hmem
    cases hmem
end
end Go.Proofs.YtfncfmiccomgcaaDoor

/- Facts for invariants of drawn regions: flags, slots, steps. -/
namespace Go.Proofs.YtfncfmiccomgcaaDoor
open Go.RowKit
set_option linter.unusedSimpArgs false
set_option linter.unusedVariables false

theorem flag_of {listed : Array Bool} {i k : Nat} (hk : k ≠ i) (h : (listed.setIfInBounds i true).getD k false = true) : listed.getD k false = true :=
  (flag_set h).elim (fun e => absurd e hk) id
theorem flag_old {listed : Array Bool} {i k : Nat} (h : listed.getD k false = true) : (listed.setIfInBounds i true).getD k false = true := by
  simp only [Array.getD_eq_getD_getElem?, Array.getElem?_setIfInBounds] at h ⊢
  by_cases hk : i = k
  · subst hk
    by_cases hi : i < listed.size
    · simp [hi]
    · simp [hi] at h
  · rwa [if_neg hk]
theorem flag_not {listed : Array Bool} {i : Nat} (h : listed.getD i true = false) (k : listed.getD i false = true) : False := by
  simp only [Array.getD_eq_getD_getElem?] at h k
  cases hx : listed[i]? with
  | none => rw [hx] at k; simp at k
  | some b => rw [hx] at h k; simp at h k; rw [h] at k; cases k
theorem slot_self (a : Act) (d : Nat) (h : d < a.tmps.size) : a.put (some d) (a.tmps.getD d undef) = a := by
  obtain ⟨tmps, defers⟩ := a
  simp only at h
  simp only [Act.put, Act.mk.injEq, and_true]
  apply Array.ext_getElem?
  intro i
  rw [Array.getElem?_setIfInBounds]
  split
  · rename_i e; subst e
    simp [h, Array.getD]
  · rfl
theorem self_puts (a : Act) : ∀ (ds : List Nat), ds.all (fun d => decide (d < a.tmps.size)) = true → ds.foldl (fun b d => b.put (some d) (a.tmps.getD d undef)) a = a
  | [], _ => rfl
  | d :: ds, h => by
    simp only [List.all_cons, Bool.and_eq_true, decide_eq_true_eq] at h
    rw [List.foldl_cons, slot_self a d h.1]
    exact self_puts a ds h.2
/-- A step of a region, its way on shut. -/
theorem wpOp_shut {P : Program} {ops : Array Oper} {Q : Exit → Act → World → Prop} {i : Nat} {o : Oper} {K : Act → World → Prop} {a : Act} {w : World} (ho : ops[i]? = some o)
    (h : ∀ K' : Act → World → Prop, Shut (∀ a w, K a w → K' a w) → if Region.wanted o (yielded ops a.tmps) = true then Oper.wp P o a w K' Q else K' (a.put o.dst undef) w) : wpOp P ops Q i K a w :=
  wpOp_step ho h
theorem wp_region_inv0 {P : Program} {ops : Array Oper} {Q : Exit → Act → World → Prop} {id : Nat} {a : Act} {w : World} (Inv : Act → Array Bool → Act → World → Prop) (hm : P.follows .mixedOrders = true)
    (h0 : Inv a (Array.replicate ops.size false) a w.drew)
    (hstep : ∀ listed a' w', Inv a listed a' w' → ∀ i, i ∈ Region.ready .any ops listed → wpOp P ops Q i (fun a'' w'' => Inv a (listed.setIfInBounds i true) a'' w'') a' w')
    (hend : ∀ listed a' w', Inv a listed a' w' → Region.ready .any ops listed = [] → Q .normal a' w') : (Code.region id ops true).wp P Q a w :=
  wp_region_inv (Inv a) hm h0 hstep hend
end Go.Proofs.YtfncfmiccomgcaaDoor

/- The contracts of the law's own and spoil. -/
namespace Go.Proofs.YtfncfmiccomgcaaDoor
open Go.RowKit
set_option linter.unusedSimpArgs false
set_option linter.unusedVariables false

/-- Nothing but the blocks Q has changed. -/
structure Spoilt (Q : Nat → Prop) (w w' : World) : Prop where
  os : w'.os = w.os
  tape : w'.tape = w.tape
  output : w'.output = w.output
  size : w.heap.size ≤ w'.heap.size
  block : ∀ x, x < w.heap.size → ¬ Q x → w'.heap[x]? = w.heap[x]?
theorem Spoilt.below {Q : Nat → Prop} {w w' w2 : World} (h : Spoilt Q w w') (hb : Below w'.heap.size w' w2) : Spoilt Q w w2 :=
  ⟨hb.os.trans h.os, hb.tape.trans h.tape, hb.output.trans h.output, Nat.le_trans h.size hb.size, fun x hx hq => (hb.block x (by have := h.size; omega)).trans (h.block x hx hq)⟩
theorem Spoilt.set {Q : Nat → Prop} {w w' : World} (h : Spoilt Q w w') {b o : Nat} (u : Value) (hq : Q b) : Spoilt Q w (w'.setCell ⟨b, o, none⟩ u) := by
  have hb : Below b w' (w'.setCell ⟨b, o, none⟩ u) := (Below.refl b w').setCell (p := ⟨b, o, none⟩) (Nat.le_refl _) u
  exact ⟨hb.os.trans h.os, hb.tape.trans h.tape, hb.output.trans h.output, Nat.le_trans h.size hb.size, fun x hx hn => (Below.heap_setCell _ _ _ _ (fun e => hn (by have e : x = b := e; rw [e]; exact hq))).trans (h.block x hx hn)⟩
/-- A block of integers, long enough. -/
def IntBlk (w : World) (Q : Nat → Prop) (A : Option Addr) (n : Nat) : Prop := n = 0 ∨ ∃ (g : Nat) (cur : Array Value), A = some ⟨g, 0, none⟩ ∧ Q g ∧ w.heap[g]? = some (.cells cur 3 (0, 0)) ∧ n ≤ cur.size
theorem IntBlk.set {w : World} {Q : Nat → Prop} {A : Option Addr} {n b o : Nat} {u : Value} (h : IntBlk w Q A n) : IntBlk (w.setCell ⟨b, o, none⟩ u) Q A n := by
  rcases h with h | ⟨g, cur, hA, hq, hg, hn⟩
  · exact .inl h
  · by_cases e : g = b
    · subst e
      exact .inr ⟨g, cur.setIfInBounds o u, hA, hq, heap_setCell_same w g o cur _ u hg, by simpa using hn⟩
    · exact .inr ⟨g, cur, hA, hq, (Below.heap_setCell _ _ _ _ e).trans hg, hn⟩
theorem IntBlk.below {w w' : World} {Q : Nat → Prop} {A : Option Addr} {n : Nat} (h : IntBlk w Q A n) (hb : Below w.heap.size w w') : IntBlk w' Q A n := by
  rcases h with h | ⟨g, cur, hA, hq, hg, hn⟩
  · exact .inl h
  · exact .inr ⟨g, cur, hA, hq, bx_kept hb hg, hn⟩
theorem IntBlk.of_own {w : World} {Q : Nat → Prop} {A : Option Addr} {n c : Nat} {xs : List Value} (h : OwnS w Q 3 1 A n c xs) : IntBlk w Q A n := by
  rcases h.1.2 with ⟨hv, h0⟩ | ⟨g, cap, cur, hv, hb, hh, hn, hc, hs, ht⟩
  · exact .inl h0
  · cases hv
    exact .inr ⟨g, cur, rfl, h.2 g rfl, hh, by omega⟩
theorem IntBlk.cell {w : World} {Q : Nat → Prop} {A : Option Addr} {n : Nat} (h : IntBlk w Q A n) {j : Nat} (hj : j < n) : ∃ g u, A = some ⟨g, 0, none⟩ ∧ Q g ∧ w.cell? ⟨g, j, none⟩ = some u ∧ w.frozen? ⟨g, j, none⟩ = false := by
  rcases h with h | ⟨g, cur, hA, hq, hg, hn⟩
  · omega
  · refine ⟨g, cur[j]'(by omega), hA, hq, ?_, ?_⟩
    · simp [World.cell?, hg, show j < cur.size by omega]
    · simp [World.frozen?, hg]
/-- The nodes' row, its kids' slices as they were. -/
def NodBlk (w : World) (Q : Nat → Prop) (A : Option Addr) (ls : List Ln) : Prop := ls = [] ∨ ∃ (g : Nat) (cur : Array Value), A = some ⟨g, 0, none⟩ ∧ Q g ∧ w.heap[g]? = some (.cells cur 56 (0, 0)) ∧ ls.length * 9 ≤ cur.size ∧ ∀ k (h : k < ls.length), cur[k * 9 + 8]? = some (.slice ls[k].A ls[k].nd.kids.length ls[k].c)
theorem NodBlk.below {w w' : World} {Q : Nat → Prop} {A : Option Addr} {ls : List Ln} (h : NodBlk w Q A ls) (hb : Below w.heap.size w w') : NodBlk w' Q A ls := by
  rcases h with h | ⟨g, cur, hA, hq, hg, hn⟩
  · exact .inl h
  · exact .inr ⟨g, cur, hA, hq, bx_kept hb hg, hn⟩
theorem NodBlk.of_own {w : World} {Q : Nat → Prop} {t : Lt} (h : TreeOwn w Q t) : NodBlk w Q t.A t.ls := by
  rcases h.row.1.2 with ⟨hv, h0⟩ | ⟨g, cap, cur, hv, hb, hh, hn, hc, hs, ht⟩
  · exact .inl (List.eq_nil_of_length_eq_zero h0)
  · have hA : t.A = some ⟨g, 0, none⟩ := by simp only [Value.slice.injEq] at hv; exact hv.1
    refine .inr ⟨g, cur, hA, h.row.2 g (by rw [hA]; rfl), hh, by rw [hs]; exact Nat.mul_le_mul_right _ hn, fun k hk => ?_⟩
    have e := ndL.all_at t.ls k 8 hk (by decide)
    rw [← ht] at e
    have hk8 : k * 9 + 8 < t.ls.length * 9 := by omega
    rw [show k * ndL.size + 8 = k * 9 + 8 from rfl, List.getElem?_take_of_lt hk8, Array.getElem?_toList] at e
    exact e
theorem NodBlk.set_int {w : World} {Q : Nat → Prop} {A : Option Addr} {ls : List Ln} {b o : Nat} {u : Value} {cur : Array Value} (h : NodBlk w Q A ls) (hb : w.heap[b]? = some (.cells cur 3 (0, 0))) : NodBlk (w.setCell ⟨b, o, none⟩ u) Q A ls := by
  rcases h with h | ⟨g, cg, hA, hq, hg, hn⟩
  · exact .inl h
  · have e : g ≠ b := fun e => by rw [e, hb] at hg; cases hg
    exact .inr ⟨g, cg, hA, hq, (Below.heap_setCell _ _ _ _ e).trans hg, hn⟩
def SpoilRel (w : World) (Q : Nat → Prop) (H : Nat) (box : Obj) (A : Option Addr) (ls : List Ln) (wr : World) : Prop :=
  Spoilt (fun x => Q x ∧ x < w.heap.size) w wr ∧ wr.heap[H]? = some box ∧ NodBlk wr (fun x => Q x ∧ x < w.heap.size) A ls ∧ ∀ l ∈ ls, IntBlk wr (fun x => Q x ∧ x < w.heap.size) l.A l.nd.kids.length
set_option maxRecDepth 100000 in
set_option maxHeartbeats 3200000 in
theorem spoil18_any (t : Lt) (Q : Nat → Prop) (w : World) (ht : TreeOwn w Q t) (hml : t.ls.length ≤ 4294967296) (hmk : ∀ l ∈ t.ls, l.nd.kids.length ≤ 4294967296) :
    Calls Tryd.prog 14 #[.agg #[.slice t.A t.ls.length t.c, .int .i64 t.root]] w fun e w' => e = .returned (.tuple #[]) ∧ Spoilt Q w w' := by
  obtain ⟨A, c, ls, r⟩ := t
  have hm1 : ls.length ≤ 4294967296 := hml
  have HM := Lib.hid (show ∀ l ∈ ls, l.nd.kids.length ≤ 4294967296 from hmk)
  have ht2 : TreeOwn w (fun x => Q x ∧ x < w.heap.size) ⟨A, c, ls, r⟩ := ht.mono (fun x h1 h2 => ⟨h2, h1⟩)
  have HN := Lib.hid (NodBlk.of_own ht2)
  have HI := Lib.hid (show ∀ l ∈ ls, IntBlk w (fun x => Q x ∧ x < w.heap.size) l.A l.nd.kids.length from fun l hl => IntBlk.of_own (ht2.kids l hl).2)
  clear ht ht2 hml hmk
  simp only
  go_enter Tryd.func14, Tryd.ntmps14
  go_wp2_with fail
  go_loopw [2] (fun i wr => ∃ k : Nat, k ≤ ls.length ∧ i = .int .i64 k ∧ Hid (SpoilRel w Q w.heap.size (.cells #[.slice A ls.length c, .int .i64 r] 24 (0, 0)) A ls wr)) (fun i _ => ls.length - (intOf i).toNat)
  case atStart =>
    exact ⟨0, Nat.zero_le _, rfl, Lib.hid ⟨Spoilt.below ⟨rfl, rfl, rfl, Nat.le_refl _, fun _ _ _ => rfl⟩ (bx1 w _), bx_new w _, HN.out.below (bx1 w _), fun l hl => (HI.out l hl).below (bx1 w _)⟩⟩
  case round =>
    obtain ⟨k, hk, rfl, HR⟩ := hrel
    obtain ⟨p0, p1, p2, _⟩ := blk2 HR.out.2.1
    by_cases hlt : k < ls.length
    · obtain ⟨wo, rfl⟩ : ∃ wo : World, wo = wr := ⟨_, rfl⟩
      have i1 : (k : Int) < (ls.length : Int) := by omega
      have i2 : (0 : Int) ≤ (k : Int) := by omega
      have HKL := Lib.hid (HM.out ls[k] (List.getElem_mem hlt))
      have hne : ls ≠ [] := fun e => by subst e; simp at hlt
      go_wp2_with fail
      go_loopw [3] (fun j wr => ∃ q : Nat, q ≤ ls[k].nd.kids.length ∧ j = .int .i64 q ∧ Hid (SpoilRel w Q w.heap.size (.cells #[.slice A ls.length c, .int .i64 r] 24 (0, 0)) A ls wr)) (fun j _ => ls[k].nd.kids.length - (intOf j).toNat)
      case atStart => exact ⟨0, Nat.zero_le _, rfl, HR⟩
      case round =>
        clear HR p0 p1 p2
        obtain ⟨q, hq, rfl, HR⟩ := hrel
        obtain ⟨p0, p1, p2, _⟩ := blk2 HR.out.2.1
        obtain ⟨g, cur, rfl, hqg, hg, hsz, hcs⟩ := HR.out.2.2.1.resolve_left hne
        have x8 : wr.cell? ⟨g, k * 9 + 8, none⟩ = some (.slice ls[k].A ls[k].nd.kids.length ls[k].c) := by
          have h := hcs k hlt
          simp only [World.cell?, hg]
          exact h
        have hb1 := HKL.out
        by_cases hql : q < ls[k].nd.kids.length
        · have j1 : (q : Int) < (ls[k].nd.kids.length : Int) := by omega
          have j2 : (0 : Int) ≤ (q : Int) := by omega
          have HIK := Lib.hid (HR.out.2.2.2 ls[k] (List.getElem_mem hlt))
          rcases HIK.out with h0 | ⟨gi, ci, hAi, hqi, hgi, hni⟩
          · omega
          · obtain ⟨u, c1⟩ : ∃ u, wr.cell? ⟨gi, q, none⟩ = some u := ⟨ci[q]'(by omega), by simp [World.cell?, hgi, show q < ci.size by omega]⟩
            have c2 : wr.frozen? ⟨gi, q, none⟩ = false := by simp [World.frozen?, hgi]
            rw [hAi] at x8
            have HGI := Lib.hid hgi; have HQI := Lib.hid hqi
            clear hgi hni hg hcs hsz
            go_wp2_with fail
            exact ⟨⟨q + 1, by omega, by go_num, Lib.hid ⟨HR.out.1.set _ HQI.out, (Below.heap_setCell _ _ _ _ (by have := HQI.out.2; show w.heap.size ≠ gi; omega)).trans HR.out.2.1, HR.out.2.2.1.set_int HGI.out, fun l hl => (HR.out.2.2.2 l hl).set⟩⟩, by simp only [intOf]; omega⟩
        · obtain rfl : q = ls[k].nd.kids.length := by omega
          have hk9 : k * 9 < cur.size := by omega
          obtain ⟨u, c1⟩ : ∃ u, wr.cell? ⟨g, k * 9, none⟩ = some u := ⟨cur[k * 9]'hk9, by simp [World.cell?, hg, hk9]⟩
          have c2 : wr.frozen? ⟨g, k * 9, none⟩ = false := by simp [World.frozen?, hg]
          have HNS := Lib.hid (show ∀ u, NodBlk (wr.setCell ⟨g, k * 9, none⟩ u) (fun x => Q x ∧ x < w.heap.size) (some ⟨g, 0, none⟩) ls from fun u => .inr ⟨g, cur.setIfInBounds (k * 9) u, rfl, hqg, heap_setCell_same wr g (k * 9) cur _ u hg, by simpa using hsz, fun j hj => by
            rw [Array.getElem?_setIfInBounds_ne (by omega)]; exact hcs j hj⟩)
          have HQG := Lib.hid hqg
          clear hg hcs hsz hk9
          go_wp2_with fail
          exact ⟨⟨k + 1, by omega, by go_num, Lib.hid ⟨HR.out.1.set _ HQG.out, (Below.heap_setCell _ _ _ _ (by have := HQG.out.2; show w.heap.size ≠ g; omega)).trans HR.out.2.1, HNS.out _, fun l hl => (HR.out.2.2.2 l hl).set⟩⟩, by simp only [intOf]; omega⟩
    · go_wp2_with fail
      have h := HR.out.1
      exact bodyPost_end (v := .tuple #[]) (by simp [results, Tryd.results14, go_sem]) rfl ⟨rfl, ⟨h.os, h.tape, h.output, h.size, fun x hx hn => h.block x hx (fun hq => hn hq.1)⟩⟩
end Go.Proofs.YtfncfmiccomgcaaDoor

namespace Go.Proofs.YtfncfmiccomgcaaDoor

open Go.RowKit
set_option linter.unusedSimpArgs false
set_option linter.unusedVariables false

section
variable {P : Program} {w : World} {ops : Array Oper} {rest : List Oper} {o : Oper} {a : Act}
theorem exec_field {T : TypeId} {x : Operand} {k : Nat} {p v : Value} (ho : o.op = .fieldAddr T x k) (hx : a.eval x = p) (h : (Instr.fieldAt T p k).run P w = .ok v w) : (execOp a.eval o).run P w = .ok (.value v) w := by
  unfold execOp; simp only [ho, hx, Sem.run_bind, h, Result.andThen_ok, Sem.run_pure]
end
theorem field_tree0 (w : World) (b : Nat) : (Instr.fieldAt 24 (.pointer (some ⟨b, 0, none⟩)) 0).run Tryd.prog w = .ok (.pointer (some ⟨b, 0, none⟩)) w := by go_simp
theorem load_nodes (w : World) (b : Nat) (v : Value) (h : w.cell? ⟨b, 0, none⟩ = some v) : (Instr.loadAt 22 (.pointer (some ⟨b, 0, none⟩))).run Tryd.prog w = .ok v w := by go_simp

def Own8Rel (w : World) (A : Option Addr) (c : Nat) (ls : List Ln) (root : Int) (v4 : Value) (wr : World) : Prop :=
  ∃ (k : Nat) (V : Option Addr) (vc : Nat) (l4 : List Ln), k ≤ ls.length ∧ v4 = .int .i64 k ∧ Hid (l4.length = k ∧ l4.map Ln.nd = (ls.take k).map Ln.nd) ∧ Hid (wr.ownsRow (w.heap.size + 3) 56 9 (.slice V k vc) k (ndL.all l4)) ∧
    Hid (∀ l ∈ l4, NdOwn wr (fun x => w.heap.size + 3 ≤ x ∧ blkOf V ≠ some x) l) ∧
    Hid (wr.heap[w.heap.size]? = some (.cells #[.slice A ls.length c, .int .i64 root] 24 (0, 0))) ∧ Hid (wr.heap[w.heap.size + 1]? = some (.cells #[.slice none 0 0, .int .i64 0] 24 (0, 0))) ∧ Hid (wr.heap[w.heap.size + 1 + 1]? = some (.cells #[.slice V k vc, .int .i64 root] 24 (0, 0))) ∧
    Hid (Below w.heap.size w wr) ∧ Hid (w.heap.size + 3 ≤ wr.heap.size)

set_option maxRecDepth 100000 in
set_option maxHeartbeats 12800000 in
theorem own18_any (A : Option Addr) (c : Nat) (ls : List Ln) (root : Int) (S : Nat → Prop) (w : World) (hT : ndL.row w S A ls) (hl : ls.length ≤ 16777216) (hkl : ∀ l ∈ ls, l.nd.kids.length ≤ 4294967296) :
    Calls Tryd.prog 8 #[.agg #[.slice A ls.length c, .int .i64 root]] w (TreePost ⟨ls.map Ln.nd, root⟩ w) := by
  obtain ⟨m0, hmi, hm0, hm1, hm2⟩ := info_parts infoInt
  obtain ⟨j0, hj, hy0, hy1, hy2⟩ := info_parts infoNode
  have HT := Lib.hid hT; have HKL := Lib.hid hkl
  clear hT hkl
  unfold TreePost
  go_enter Tryd.func8, Tryd.ntmps8
  have HB0 := Lib.hid (bx3 w (.cells #[.slice A ls.length c, .int .i64 root] 24) (.cells #[.slice none 0 0, .int .i64 0] 24) (.cells #[.slice none 0 0, .int .i64 root] 24))
  have HK0 := Lib.hid (bx_old (p := .cells #[.slice none 0 0, .int .i64 root] 24) (bx_old (p := .cells #[.slice none 0 0, .int .i64 0] 24) (bx_new w (.cells #[.slice A ls.length c, .int .i64 root] 24))))
  have HK1 := Lib.hid (show (((w.alloc (.cells #[.slice A ls.length c, .int .i64 root] 24)).alloc (.cells #[.slice none 0 0, .int .i64 0] 24)).alloc (.cells #[.slice none 0 0, .int .i64 root] 24)).heap[w.heap.size + 1]? = some (.cells #[.slice none 0 0, .int .i64 0] 24 (0, 0)) from by
    refine bx_old ?_
    have h := bx_new (w.alloc (.cells #[.slice A ls.length c, .int .i64 root] 24)) (.cells #[.slice none 0 0, .int .i64 0] 24)
    rw [World.size_alloc] at h; exact h)
  have HK2 := Lib.hid (show (((w.alloc (.cells #[.slice A ls.length c, .int .i64 root] 24)).alloc (.cells #[.slice none 0 0, .int .i64 0] 24)).alloc (.cells #[.slice none 0 0, .int .i64 root] 24)).heap[w.heap.size + 1 + 1]? = some (.cells #[.slice none 0 0, .int .i64 root] 24 (0, 0)) from by
    have h := bx_new ((w.alloc (.cells #[.slice A ls.length c, .int .i64 root] 24)).alloc (.cells #[.slice none 0 0, .int .i64 0] 24)) (.cells #[.slice none 0 0, .int .i64 root] 24)
    rw [World.size_alloc, World.size_alloc] at h; exact h)
  go_wp2_with fail
  go_loopw [4] (fun v4 wr => Own8Rel w A c ls root v4 wr) (fun v4 _ => ls.length - (intOf v4).toNat)
  case atStart => exact ⟨0, none, 0, [], Nat.zero_le _, rfl, Lib.hid ⟨rfl, rfl⟩, Lib.hid (World.ownsRow_nil _ _ _ _), Lib.hid (by simp), HK0, HK1, HK2, HB0, Lib.hid (by simp)⟩
  case round =>
    clear HK0 HK1 HK2 HB0
    obtain ⟨k, V, vc, l4, hk, rfl, HL4, HO, HND, HKA, HKR, HKO, HB, HZ⟩ := hrel
    obtain ⟨a0, a1, _, _⟩ := blk2 HKA.out
    by_cases hlt : k < ls.length
    · have i1 : (k : Int) < (ls.length : Int) := by omega
      have i2 : (0 : Int) ≤ (k : Int) := by omega
      have HRW := Lib.hid (HT.out.below HB.out)
      obtain ⟨ab, ao, rfl, _, hab, x0, x1, x2, x3, x4, x5, x6, x7, x8⟩ := ndRow HRW.out k hlt
      have HKRW := Lib.hid (ndSub HRW.out k hlt)
      have HWF := Lib.hid (ndWf HRW.out k hlt)
      have HKQ := Lib.hid (HKL.out ls[k] (List.getElem_mem hlt))
      have HTQ := Lib.hid (show ls.take (k + 1) = ls.take k ++ [ls[k]] from List.take_succ_eq_append_getElem hlt)
      generalize ls[k] = x at *
      have hz := HZ.out
      go_upto_region 6 with (fail)
      have HN6 := Lib.hid (bx_new wr (.cells #[.int .u8 x.nd.kind, .int .u64 x.nd.s0, .int .u64 x.nd.s1, .int .u64 x.nd.s2, .int .u64 x.nd.s3, .string x.nd.text, .int .i64 x.nd.mn, .int .i64 x.nd.mx, .slice x.A x.nd.kids.length x.c] 56))
      have HZ6 := Lib.hid (show (wr.alloc (.cells #[.int .u8 x.nd.kind, .int .u64 x.nd.s0, .int .u64 x.nd.s1, .int .u64 x.nd.s2, .int .u64 x.nd.s3, .string x.nd.text, .int .i64 x.nd.mn, .int .i64 x.nd.mx, .slice x.A x.nd.kids.length x.c] 56)).heap.size = wr.heap.size + 1 from by simp)
      have HE6 := Lib.hid (show ∀ y, y < wr.heap.size → (wr.alloc (.cells #[.int .u8 x.nd.kind, .int .u64 x.nd.s0, .int .u64 x.nd.s1, .int .u64 x.nd.s2, .int .u64 x.nd.s3, .string x.nd.text, .int .i64 x.nd.mn, .int .i64 x.nd.mx, .slice x.A x.nd.kids.length x.c] 56)).heap[y]? = wr.heap[y]? from fun y hy => Below.heap_alloc wr _ y hy)
      have HB6 := Lib.hid (show Below w.heap.size w (wr.alloc (.cells #[.int .u8 x.nd.kind, .int .u64 x.nd.s0, .int .u64 x.nd.s1, .int .u64 x.nd.s2, .int .u64 x.nd.s3, .string x.nd.text, .int .i64 x.nd.mn, .int .i64 x.nd.mx, .slice x.A x.nd.kids.length x.c] 56)) from HB.out.alloc HB.out.size _)
      have HKR6 := Lib.hid (HKRW.out.below (bx1 wr (.cells #[.int .u8 x.nd.kind, .int .u64 x.nd.s0, .int .u64 x.nd.s1, .int .u64 x.nd.s2, .int .u64 x.nd.s3, .string x.nd.text, .int .i64 x.nd.mn, .int .i64 x.nd.mx, .slice x.A x.nd.kids.length x.c] 56)))
      clear x0 x1 x2 x3 x4 x5 x6 x7 x8 a0 a1 HKRW HRW
      generalize hw6 : wr.alloc (.cells #[.int .u8 x.nd.kind, .int .u64 x.nd.s0, .int .u64 x.nd.s1, .int .u64 x.nd.s2, .int .u64 x.nd.s3, .string x.nd.text, .int .i64 x.nd.mn, .int .i64 x.nd.mx, .slice x.A x.nd.kids.length x.c] 56) = w6 at *
      clear hw6
      generalize hnb : wr.heap.size = nb at *
      have HNBE := Lib.hid hnb
      obtain ⟨_, _, _, _, _, _, _, _, y8, _⟩ := blk9 HN6.out
      have HOI := Lib.hid (show (w6.alloc (.cells #[] 3)).ownsRow w6.heap.size 3 1 (.slice (some ⟨w6.heap.size, 0, none⟩) 0 0) 0 [] from ⟨rfl, .inr ⟨w6.heap.size, 0, #[], rfl, Nat.le_refl _, bx_new w6 _, Nat.le_refl _, by unfold maxLen; omega, rfl, rfl⟩⟩)
      have FI := Lib.hid (show 0 + x.nd.kids.length ≤ maxLen ∧ (0 + x.nd.kids.length) * 8 ≤ 140737488355328 from by have := HKQ.out; exact ⟨by unfold maxLen; omega, by omega⟩)

      have hlw : nb < w6.heap.size := by have := HZ6.out; omega
      go_upto_region 7 with (at_builtin; refine wpList_append_at _ rfl (.tmp 21) (.tmp 23) 25 rfl w6.heap.size 3 m0 (.int .i64 0) 1 8 Tryd.underlying25 hmi hm0 hm1 hm2 rfl (by decide) (some ⟨w6.heap.size, 0, none⟩) 0 0 [] rfl HOI.out x.A x.nd.kids.length x.c (intL.all x.nd.kids) rfl (intL.all_length _) (HKR6.out.below (bx1 w6 _)).rowAt (intL.all_one' _) FI.out.1 FI.out.2 (by simp) ?_; intro Q qc w3 HK3 HG3 HA3; have HC3 := Lib.hid (show ∀ y, y < w6.heap.size → w3.heap[y]? = w6.heap[y]? from fun y hy => (HG3.out.block y (by simp; omega) (fun e => by have e : some y = some w6.heap.size := e; injection e with e; omega)).trans (Below.heap_alloc _ _ y hy)); have HN3 := Lib.hid ((HC3.out nb (by omega)).trans HN6.out); obtain ⟨_, _, _, _, _, _, _, _, z8, _, _, _, _, _, _, _, _, zf⟩ := blk9 HN3.out)
      try simp only [Nat.zero_add]
      have HKI := Lib.hid (show w3.ownsRow w6.heap.size 3 1 (.slice Q x.nd.kids.length qc) x.nd.kids.length (intL.all x.nd.kids) from by have h := HK3.out; rw [Nat.zero_add, List.nil_append] at h; exact h)
      have hs3 : w6.heap.size + 1 ≤ w3.heap.size := by have h := HG3.out.size; simpa using h
      have HX7 := Lib.hid (set_blk9 (u := (.slice Q x.nd.kids.length qc)) HN3.out)
      have HE7 := Lib.hid (show ∀ y, y ≠ nb → (w3.setCell ⟨nb, 8, none⟩ (.slice Q x.nd.kids.length qc)).heap[y]? = w3.heap[y]? from fun y hy => Below.heap_setCell _ _ _ _ hy)
      have HZ7 := Lib.hid (show (w3.setCell ⟨nb, 8, none⟩ (.slice Q x.nd.kids.length qc)).heap.size = w3.heap.size from by simp)
      have HB7 := Lib.hid (show Below w.heap.size w (w3.setCell ⟨nb, 8, none⟩ (.slice Q x.nd.kids.length qc)) from ((HB6.out.alloc HB6.out.size _).grown HG3.out (by have := HZ6.out; simp; omega) (fun y hy => by have hy : some w6.heap.size = some y := hy; injection hy with hy; have := HZ6.out; omega)).setCell (p := ⟨nb, 8, none⟩) (by show w.heap.size ≤ nb; omega) _)
      have HCH := Lib.hid (show ∀ y, y < nb → (w3.setCell ⟨nb, 8, none⟩ (.slice Q x.nd.kids.length qc)).heap[y]? = wr.heap[y]? from fun y h1 => (HE7.out y (by omega)).trans ((HC3.out y (by have := HZ6.out; omega)).trans (HE6.out y h1)))
      have HKI7 := Lib.hid (show OwnS (w3.setCell ⟨nb, 8, none⟩ (.slice Q x.nd.kids.length qc)) (fun y => nb + 1 ≤ y ∧ y < w3.heap.size) 3 1 Q x.nd.kids.length qc (intL.all x.nd.kids) from by
        have h7 : OwnS w3 (fun y => nb + 1 ≤ y ∧ y < w3.heap.size) 3 1 Q x.nd.kids.length qc (intL.all x.nd.kids) := ⟨own_mono HKI.out (Nat.zero_le _), fun y hy => by have h1 := own_blk HKI.out y hy; have := HZ6.out; exact ⟨by omega, h1.2⟩⟩
        exact h7.agree (fun y hy _ => HE7.out y (by omega)))
      generalize w3.setCell ⟨nb, 8, none⟩ (.slice Q x.nd.kids.length qc) = w7 at *
      clear y8 z8 zf
      have HVB := Lib.hid (show ∀ y, blkOf V = some y → w.heap.size + 3 ≤ y ∧ y < nb from fun y hy => by have h := own_blk HO.out y hy; have := HNBE.out; omega)
      have HKO7 := Lib.hid ((HCH.out (w.heap.size + 1 + 1) (by omega)).trans HKO.out)
      have HO8b := Lib.hid (show (w7.alloc (.cells #[.int .u8 x.nd.kind, .int .u64 x.nd.s0, .int .u64 x.nd.s1, .int .u64 x.nd.s2, .int .u64 x.nd.s3, .string x.nd.text, .int .i64 x.nd.mn, .int .i64 x.nd.mx, .slice Q x.nd.kids.length qc] 56)).ownsRow (w.heap.size + 3) 56 9 (.slice V k vc) k (ndL.all l4) from World.ownsRow.alloc (own_agree HO.out (fun y hy => HCH.out y (HVB.out y hy).2)) _)
      have HNO := Lib.hid (show ∀ u ∈ ([.int .u8 x.nd.kind, .int .u64 x.nd.s0, .int .u64 x.nd.s1, .int .u64 x.nd.s2, .int .u64 x.nd.s3, .string x.nd.text, .int .i64 x.nd.mn, .int .i64 x.nd.mx, .slice Q x.nd.kids.length qc] : List Value), u.oneCell' = true from (fun u hu => by simp only [List.mem_cons, List.not_mem_nil, or_false] at hu; rcases hu with rfl | rfl | rfl | rfl | rfl | rfl | rfl | rfl | rfl <;> rfl))
      have HFF := Lib.hid (show k + 1 ≤ maxLen ∧ (k + 1) * 96 ≤ 140737488355328 ∧ w.heap.size + 3 ≤ (w7.alloc (.cells #[.int .u8 x.nd.kind, .int .u64 x.nd.s0, .int .u64 x.nd.s1, .int .u64 x.nd.s2, .int .u64 x.nd.s3, .string x.nd.text, .int .i64 x.nd.mn, .int .i64 x.nd.mx, .slice Q x.nd.kids.length qc] 56)).heap.size from ⟨by unfold maxLen; omega, by omega, by have h1 := HZ7.out; have h3 := HZ6.out; simp; omega⟩)
      refine wp_region_list ?_
      refine wpList_val rfl (exec_field rfl rfl (field_tree0 _ _)) ?_
      refine wpList_val rfl (exec_load rfl rfl (load_nodes _ _ _ (blk2 HKO7.out).1)) ?_
      refine wpList_val rfl (exec_load rfl rfl (load9 w7 nb _ _ _ _ _ _ _ _ _ _ HX7.out)) ?_
      refine wpList_val rfl (exec_build rfl rfl (build9 w7 _ _ _ _ _ _ _ _ _)) ?_
      refine wpList_append_at _ rfl (.tmp 27) (.tmp 29) 22 rfl (w.heap.size + 3) 56 j0 _ 9 96 Tryd.underlying22 hj hy0 hy1 hy2 rfl (by decide) V vc k (ndL.all l4) rfl HO8b.out (some ⟨w7.heap.size, 0, none⟩) 1 1 [.int .u8 x.nd.kind, .int .u64 x.nd.s0, .int .u64 x.nd.s1, .int .u64 x.nd.s2, .int .u64 x.nd.s3, .string x.nd.text, .int .i64 x.nd.mn, .int .i64 x.nd.mx, .slice Q x.nd.kids.length qc] rfl rfl (row_blk (bx_new w7 _)) HNO.out HFF.out.1 HFF.out.2.1 HFF.out.2.2 ?_
      intro V'' vc'' w8 HO9 HG9 HA9
      simp only [Act.put, List.setIfInBounds_toArray, List.set_cons_zero, List.set_cons_succ]
      have hz7 := HZ7.out; have hz6 := HZ6.out
      have h8s : w7.heap.size + 1 ≤ w8.heap.size := by have h := HG9.out.size; simpa using h
      have hK8 : ∀ y, y < w7.heap.size → blkOf V ≠ some y → w8.heap[y]? = w7.heap[y]? := fun y h1 h2 => (HG9.out.block y (by simp; omega) (fun e => h2 e.symm)).trans (Below.heap_alloc _ _ y h1)
      have hV2 : ∀ y, y < w7.heap.size → blkOf V ≠ some y → blkOf V'' ≠ some y := fun y h1 h2 e => by
        rcases HA9.out with h | h
        · exact h2 (h ▸ e)
        · rw [h] at e; injection e with e; rw [World.size_alloc] at e; omega
      have hB8 : Below w.heap.size w w8 := (HB7.out.alloc HB7.out.size _).grown HG9.out (by simp; omega) (fun y hy => by have := (HVB.out y hy).1; omega)
      have hVn : ∀ y, y < w.heap.size + 3 ∨ nb ≤ y → blkOf V ≠ some y := fun y h e => by have := HVB.out y e; omega
      have HKA8 := Lib.hid ((hK8 w.heap.size (by omega) (hVn _ (by omega))).trans ((HCH.out _ (by omega)).trans HKA.out))
      have HKR8 := Lib.hid ((hK8 (w.heap.size + 1) (by omega) (hVn _ (by omega))).trans ((HCH.out _ (by omega)).trans HKR.out))
      have HKO8 := Lib.hid ((hK8 (w.heap.size + 1 + 1) (by omega) (hVn _ (by omega))).trans HKO7.out)
      obtain ⟨p0, p1, p2, p3⟩ := blk2 HKO8.out
      have HQ8 := Lib.hid (And.intro hK8 (And.intro hV2 (And.intro hB8 (And.intro hVn h8s))))
      clear hK8 hV2 hB8 hVn h8s hz7 hz6
      go_wp2_with fail
      obtain ⟨hK8, hV2, hB8, hVn, h8s⟩ := HQ8.out
      have hz7 := HZ7.out; have hz6 := HZ6.out
      have hE9 : ∀ y, y ≠ w.heap.size + 1 + 1 → (w8.setCell ⟨w.heap.size + 1 + 1, 0, none⟩ (.slice V'' (k + 1) vc'')).heap[y]? = w8.heap[y]? := fun y hy => Below.heap_setCell _ _ _ _ hy
      obtain ⟨hl1, hl2⟩ := HL4.out
      refine ⟨⟨k + 1, V'', vc'', l4 ++ [⟨x.nd, Q, qc⟩], hlt, by go_num, Lib.hid ⟨by rw [List.length_append, hl1]; rfl, ?_⟩, Lib.hid ?_, Lib.hid ?_, Lib.hid ((hE9 _ (by omega)).trans HKA8.out), Lib.hid ((hE9 _ (by omega)).trans HKR8.out), Lib.hid (set_blk2 HKO8.out), Lib.hid (hB8.setCell (p := ⟨w.heap.size + 1 + 1, 0, none⟩) (by show w.heap.size ≤ w.heap.size + 1 + 1; omega) _), Lib.hid (by simp; omega)⟩, by simp [intOf]; omega⟩
      · rw [HTQ.out, List.map_append, List.map_append, hl2]; rfl
      · have h := HO9.out
        rw [Lay.all_append, Lay.all_one, show ndL.cells ⟨x.nd, Q, qc⟩ = [.int .u8 x.nd.kind, .int .u64 x.nd.s0, .int .u64 x.nd.s1, .int .u64 x.nd.s2, .int .u64 x.nd.s3, .string x.nd.text, .int .i64 x.nd.mn, .int .i64 x.nd.mx, .slice Q x.nd.kids.length qc] by simp [ndL]]
        exact own_agree h (fun y hy => hE9 y (by have := (own_blk h y hy).1; omega))
      · intro l hl
        rcases List.mem_append.1 hl with hl | hl
        · have h1 := (HND.out l hl).mono (T := fun y => y < nb ∧ w.heap.size + 3 ≤ y ∧ blkOf V ≠ some y) (fun y a b => ⟨by have := HNBE.out; omega, b⟩)
          exact (h1.agree (fun y hy _ => (hE9 y (by omega)).trans ((hK8 y (by omega) hy.2.2).trans (HCH.out y hy.1)))).mono (fun y _ hy => ⟨hy.2.1, hV2 y (by omega) hy.2.2⟩)
        · simp only [List.mem_singleton] at hl
          subst hl
          refine ⟨HWF.out, ?_⟩
          show OwnS _ _ _ 1 Q x.nd.kids.length qc (intL.all x.nd.kids)
          exact (HKI7.out.agree (fun y hy _ => (hE9 y (by omega)).trans (hK8 y (by omega) (hVn y (by omega))))).mono (fun y _ hy => ⟨by omega, hV2 y (by omega) (hVn y (by omega))⟩)
    · obtain rfl : k = ls.length := by omega
      obtain ⟨b0, b1, _, _⟩ := blk2 HKO.out
      obtain ⟨t1, t2, t3, t4⟩ := blk2 HKR.out
      have hz := HZ.out
      have HVB := Lib.hid (show ∀ y, blkOf V = some y → w.heap.size + 3 ≤ y ∧ y < wr.heap.size from fun y hy => own_blk HO.out y hy)
      go_wp2_with fail
      refine bodyPost_ret (v := .agg #[.slice V ls.length vc, .int .i64 root]) (by simp [results, Tryd.results8, go_sem, t1, t2]) rfl ?_
      obtain ⟨hl1, hl2⟩ := HL4.out
      have hE9 : ∀ y, y ≠ w.heap.size + 1 → ((wr.setCell ⟨w.heap.size + 1, 0, none⟩ (.slice V ls.length vc)).setCell ⟨w.heap.size + 1, 1, none⟩ (.int .i64 root)).heap[y]? = wr.heap[y]? := fun y hy => (Below.heap_setCell _ _ _ _ hy).trans (Below.heap_setCell _ _ _ _ hy)
      refine ⟨⟨V, vc, l4, root⟩, by show _ = Ending.returned (.agg #[.slice V l4.length vc, .int .i64 root]); rw [hl1], ?_, ⟨by show l4.length ≤ _; omega, ?_, ?_⟩, (HB.out.setCell (p := ⟨w.heap.size + 1, 0, none⟩) (by simp) _).setCell (p := ⟨w.heap.size + 1, 1, none⟩) (by simp) _⟩
      · show Tr.mk (l4.map Ln.nd) root = _
        rw [hl2, List.take_length]
      · show OwnS _ _ _ 9 V l4.length vc (ndL.all l4)
        rw [hl1]
        have h7 : OwnS wr (fun y => w.heap.size + 3 ≤ y) 56 9 V ls.length vc (ndL.all l4) := ⟨own_mono HO.out (Nat.zero_le _), fun y hy => (HVB.out y hy).1⟩
        exact (h7.agree (fun y hy _ => hE9 y (by omega))).mono (fun y _ hy => by show w.heap.size ≤ y; omega)
      · intro l hl
        exact ((HND.out l hl).agree (fun y hy _ => hE9 y (by omega))).mono (fun y _ hy => by show w.heap.size ≤ y; have := hy.1; omega)
end Go.Proofs.YtfncfmiccomgcaaDoor

/- The walk of the statement PathTells. -/
namespace Go.Proofs.YtfncfmiccomgcaaDoor
open Go.RowKit
set_option linter.unusedSimpArgs false
set_option linter.unusedVariables false

theorem TreeOwn.neT {w : World} {S : Nat → Prop} {t : Lt} {g : Nat} {cs : Array Value} {fz : Nat × Nat} (h : TreeOwn w S t) (hg : w.heap[g]? = some (.cells cs 24 fz)) : TreeOwn w (fun x => S x ∧ x ≠ g) t :=
  ⟨h.len, h.row.ne hg (by decide), fun l hl => ⟨(h.kids l hl).1, (h.kids l hl).2.ne hg (by decide)⟩⟩
def OwnT (w : World) (v : Value) (T : Tr) : Prop := ∃ t : Lt, v = .agg #[.slice t.A t.ls.length t.c, .int .i64 t.root] ∧ TreeOwn w (fun _ => True) t ∧ t.tr = T
theorem OwnT.below {w w' : World} {v : Value} {T : Tr} (h : OwnT w v T) (hb : Below w.heap.size w w') : OwnT w' v T := by
  obtain ⟨t, hv, ho, ht⟩ := h
  exact ⟨t, hv, ho.below hb, ht⟩
theorem OwnT.but {w w' : World} {p : Nat} {v : Value} {T : Tr} {cs : Array Value} (h : OwnT w v T) (hp : w.heap[p]? = some (.cells cs 24 (0, 0))) (hb : ∀ k, k ≠ p → w'.heap[k]? = w.heap[k]?) : OwnT w' v T := by
  obtain ⟨t, hv, ho, ht⟩ := h
  exact ⟨t, hv, ((ho.neT hp).agree (fun x hx _ => hb x hx.2)).mono (fun _ _ _ => trivial), ht⟩
/-- v is a row of the two trees of the examples. -/
def MkV (w : World) (bx bY : Nat) (v : Value) : Prop := ∃ nb, v = .slice (some ⟨nb, 0, none⟩) 2 2 ∧ w.heap[nb]? = some (.cells #[.slice (some ⟨bx, 0, none⟩) 1 1, .int .i64 0, .slice (some ⟨bY, 0, none⟩) 1 1, .int .i64 0] 24 (0, 0))
theorem MkV.below {w w' : World} {bx bY : Nat} {v : Value} (h : MkV w bx bY v) (hb : Below w.heap.size w w') : MkV w' bx bY v := by
  obtain ⟨nb, hv, hh⟩ := h
  exact ⟨nb, hv, bx_kept hb hh⟩
/-- v points to a box of a tree's type, from block B on; where U, the box holds src. -/
def BoxT (w : World) (B : Nat) (v : Value) (U : Prop) (src : Value) : Prop :=
  ∃ (p : Nat) (x y : Value), v = .pointer (some ⟨p, 0, none⟩) ∧ B ≤ p ∧ w.heap[p]? = some (.cells #[x, y] 24 (0, 0)) ∧ (U → src = .agg #[x, y])
theorem BoxT.below {w w' : World} {B : Nat} {v : Value} {U U' : Prop} {src : Value} (h : BoxT w B v U src) (hU : U' → U) (hb : Below w.heap.size w w') : BoxT w' B v U' src := by
  obtain ⟨p, x, y, he, hB, hh, hs⟩ := h
  exact ⟨p, x, y, he, hB, bx_kept hb hh, fun u => hs (hU u)⟩
theorem BoxT.but {w w' : World} {B p : Nat} {v : Value} {U U' : Prop} {src : Value} (h : BoxT w B v U src) (hU : U' → U) (hne : v ≠ .pointer (some ⟨p, 0, none⟩)) (hb : ∀ k, k ≠ p → w'.heap[k]? = w.heap[k]?) : BoxT w' B v U' src := by
  obtain ⟨q, x, y, he, hB, hh, hs⟩ := h
  exact ⟨q, x, y, he, hB, (hb q (fun e => hne (by rw [he, e]))).trans hh, fun u => hs (hU u)⟩
theorem BoxT.off {w : World} {B : Nat} {v : Value} {U U' : Prop} {src src' : Value} (h : BoxT w B v U src) (hU : ¬ U') : BoxT w B v U' src' := by
  obtain ⟨q, x, y, he, hB, hh, hs⟩ := h
  exact ⟨q, x, y, he, hB, hh, fun u => absurd u hU⟩
theorem BoxT.new {w : World} {B : Nat} (hB : B ≤ w.heap.size) {U : Prop} (hU : ¬ U) (src x y : Value) : BoxT (w.alloc (.cells #[x, y] 24)) B (.pointer (some ⟨w.heap.size, 0, none⟩)) U src :=
  ⟨w.heap.size, x, y, rfl, hB, heap_alloc_new _ _, fun u => absurd u hU⟩
theorem BoxT.fresh {w : World} {B : Nat} {v : Value} {U : Prop} {src : Value} (h : BoxT w B v U src) : v ≠ .pointer (some ⟨w.heap.size, 0, none⟩) := by
  obtain ⟨p, x, y, he, hB, hh, hs⟩ := h
  rw [he]; intro e; injection e with e; injection e with e; injection e with e
  have := heap_lt' hh; omega
theorem flag_self {listed : Array Bool} {i : Nat} (h : i < listed.size) : (listed.setIfInBounds i true).getD i false = true := by
  simp [Array.getD_eq_getD_getElem?, h]
theorem set2h {W : World} {B p : Nat} {x0 y0 : Value} (x y : Value) (hB : B ≤ p) (hh : W.heap[p]? = some (.cells #[x0, y0] 24 (0, 0))) :
    ((W.setCell ⟨p, 0, none⟩ x).setCell ⟨p, 1, none⟩ y).heap[p]? = some (.cells #[x, y] 24 (0, 0)) ∧ (∀ k, k ≠ p → ((W.setCell ⟨p, 0, none⟩ x).setCell ⟨p, 1, none⟩ y).heap[k]? = W.heap[k]?) ∧ Below B W ((W.setCell ⟨p, 0, none⟩ x).setCell ⟨p, 1, none⟩ y) := by
  refine ⟨set_blk2' (u := y) (show (W.setCell ⟨p, 0, none⟩ x).heap[p]? = some (.cells #[x, y0] 24 (0, 0)) from ?_), fun k hk => (Below.heap_setCell _ _ _ _ hk).trans (Below.heap_setCell _ _ _ _ hk), ((Below.refl _ _).setCell (p := ⟨p, 0, none⟩) hB _).setCell (p := ⟨p, 1, none⟩) hB _⟩
  have h := heap_setCell_same W p 0 _ 24 x hh
  simpa using h

def TellInv (TV XV : Value) (T X : Tr) (B : Nat) (V : World) (A0 : Act) (listed : Array Bool) (a : Act) (w' : World) : Prop :=
  listed.size = 8 ∧ Below B V w' ∧ B ≤ w'.heap.size ∧ ∃ v28 v29 v30 v31 v7 v8 : Value,
    a = ((((((A0.put (some 28) v28).put (some 29) v29).put (some 30) v30).put (some 31) v31).put (some 7) v7).put (some 8) v8) ∧
    (listed.getD 0 false = true → v28 = TV) ∧
    (listed.getD 1 false = true → OwnT w' v29 T) ∧
    (listed.getD 2 false = true → v30 = XV) ∧
    (listed.getD 3 false = true → OwnT w' v31 X) ∧
    (listed.getD 4 false = true → BoxT w' B v7 (listed.getD 6 false = true) v29) ∧
    (listed.getD 5 false = true → BoxT w' B v8 (listed.getD 7 false = true) v31) ∧
    (listed.getD 4 false = true → listed.getD 5 false = true → v7 ≠ v8) ∧
    (listed.getD 6 false = true → listed.getD 1 false = true ∧ listed.getD 3 false = true ∧ listed.getD 4 false = true) ∧
    (listed.getD 7 false = true → listed.getD 5 false = true ∧ listed.getD 3 false = true ∧ listed.getD 6 false = true)
theorem long_lies3 {w : World} {A XA PA : Option Addr} {ls xs : List Ln} {p : List Int} (hT : ndL.row w (fun _ => True) A ls) (hX : ndL.row w (fun _ => True) XA xs) (hP : intL.row w (fun _ => True) PA p) (hll : ls.length ≤ 281474976710656) (hxl : xs.length ≤ 281474976710656) (hpl : p.length ≤ 281474976710656) (root xroot : Int) (c xc pc : Nat) :
    Calls Tryd.prog 6 #[.agg #[.slice none 0 0], .slice (some ⟨w.heap.size, 0, none⟩) 2 2, .slice (some ⟨w.heap.size + 1, 0, none⟩) 1 1] ((w.alloc (.cells #[.slice A ls.length c, .int .i64 root, .slice XA xs.length xc, .int .i64 xroot] 24)).alloc (.cells #[.slice PA p.length pc] 25)) fun e w' => ∃ r, e = .returned (.bool r) ∧ (r = false → ShortN ⟨A, c, ls, root⟩ ∧ ShortN ⟨XA, xc, xs, xroot⟩ ∧ p.length ≤ 1500) ∧ Below w.heap.size w w' := by
  have hb1 := bx1 w (.cells #[.slice A ls.length c, .int .i64 root, .slice XA xs.length xc, .int .i64 xroot] 24)
  have hb2 := bx2 w (.cells #[.slice A ls.length c, .int .i64 root, .slice XA xs.length xc, .int .i64 xroot] 24) (.cells #[.slice PA p.length pc] 25)
  have hn1 := bx_new w (.cells #[.slice A ls.length c, .int .i64 root, .slice XA xs.length xc, .int .i64 xroot] 24)
  have hn2 := bx_new (w.alloc (.cells #[.slice A ls.length c, .int .i64 root, .slice XA xs.length xc, .int .i64 xroot] 24)) (.cells #[.slice PA p.length pc] 25)
  rw [World.size_alloc] at hn2
  have hs : ((w.alloc (.cells #[.slice A ls.length c, .int .i64 root, .slice XA xs.length xc, .int .i64 xroot] 24)).alloc (.cells #[.slice PA p.length pc] 25)).heap.size = w.heap.size + 2 := by simp
  have hn1' := bx_old (p := .cells #[.slice PA p.length pc] 25) hn1
  generalize (w.alloc (.cells #[.slice A ls.length c, .int .i64 root, .slice XA xs.length xc, .int .i64 xroot] 24)).alloc (.cells #[.slice PA p.length pc] 25) = W at *
  have hk : ∀ w', KeptL w.heap.size (some ⟨w.heap.size, 0, none⟩) W w' → Below w.heap.size w w' := fun w' h => hb2.trans h.1
  refine (long_any none 0 [] (some ⟨w.heap.size, 0, none⟩) 2 [⟨A, c, ls, root⟩, ⟨XA, xc, xs, xroot⟩] (some ⟨w.heap.size + 1, 0, none⟩) 1 [⟨PA, pc, p⟩] w.heap.size W hb2.size (fun _ _ => Lay.row.nil _ _ _) (own_of_fullN hn1' rfl (Nat.le_refl _) (by show 2 ≤ maxLen; decide)) (fun w' h t ht => ?_) (fun w' h => ⟨⟨row_blk (cs := [.slice PA p.length pc]) ((h.2 _ (by omega) (by simp [blkOf])).trans hn2), fun _ _ _ => trivial⟩, fun q hq => ?_⟩) (by simp) (by simp) (by simp)).mono ?_
  · simp only [List.mem_cons, List.not_mem_nil, or_false] at ht
    rcases ht with rfl | rfl
    · exact ⟨hll, hT.below (hk w' h)⟩
    · exact ⟨hxl, hX.below (hk w' h)⟩
  · obtain rfl := List.mem_singleton.1 hq
    exact ⟨hpl, hP.below (hk w' h)⟩
  · rintro e w' ⟨r, rfl, hr, hb⟩
    refine ⟨r, rfl, fun h => ?_, hb2.trans hb⟩
    obtain ⟨_, _, h1, h2⟩ := hr h
    exact ⟨h1 ⟨A, c, ls, root⟩ (by simp), h1 ⟨XA, xc, xs, xroot⟩ (by simp), h2 ⟨PA, pc, p⟩ (by simp)⟩
theorem treeOwn_nil (w : World) (Q : Nat → Prop) : TreeOwn w Q ⟨none, 0, [], 0⟩ := ⟨by simp, OwnS.nil _ _ _ _, fun l h => by cases h⟩
theorem at_own {w : World} {T : Tr} {A PA : Option Addr} {c pc : Nat} {ls : List Ln} {r : Int} {p : List Int} {R : Option Tr} (hT : Lies w T A c ls r) (hP : intL.row w (fun _ => True) PA p) (hs : SmallT T) (hpl : p.length ≤ 1500) (ht : CntTab w) (hR : (atT T p).map treeOf = R) :
    Calls Tryd.prog 9 #[.agg #[.slice A ls.length c, .int .i64 r], .slice PA p.length pc] w fun e w' => ∃ (A : Option Addr) (c : Nat) (ls : List Ln) (r : Int), e = .returned (.tuple #[.agg #[.slice A ls.length c, .int .i64 r], .bool R.isSome]) ∧ TreeOwn w' (w.heap.size ≤ ·) ⟨A, c, ls, r⟩ ∧ Lies w' (R.getD ⟨[], 0⟩) A c ls r ∧ Below w.heap.size w w' := by
  subst hR
  have hl := hT.len
  refine (at_any A c ls r PA pc p _ _ w hT.1 hP (by have := hs.1; omega) (by omega) ht).mono ?_
  rintro e w' hq
  rw [hT.2] at hq
  rcases h : atT T p with _ | y
  · obtain ⟨rfl, hb⟩ := hq.2 h
    exact ⟨none, 0, [], 0, rfl, treeOwn_nil _ _, ⟨Lay.row.nil _ _ _, rfl⟩, hb⟩
  · obtain ⟨⟨A, c, ls, r⟩, rfl, h1, h2, hb⟩ := hq.1 y h
    exact ⟨A, c, ls, r, rfl, h2, ⟨h2.inn.2.mono (fun _ _ _ => trivial), h1⟩, hb⟩
theorem put_own {w : World} {T X : Tr} {A PA XA : Option Addr} {c pc xc : Nat} {ls xs : List Ln} {r xr : Int} {p : List Int} {R : Option Tr} (hT : Lies w T A c ls r) (hP : intL.row w (fun _ => True) PA p) (hX : Lies w X XA xc xs xr) (hs : SmallT T) (hx : SmallT X) (hpl : p.length ≤ 1500) (ht : CntTab w) (hR : ((putT T p X).map fun y => treeOf (makeTT y)) = R) :
    Calls Tryd.prog 11 #[.agg #[.slice A ls.length c, .int .i64 r], .slice PA p.length pc, .agg #[.slice XA xs.length xc, .int .i64 xr]] w fun e w' => ∃ (A : Option Addr) (c : Nat) (ls : List Ln) (r : Int), e = .returned (.tuple #[.agg #[.slice A ls.length c, .int .i64 r], .bool R.isSome]) ∧ TreeOwn w' (w.heap.size ≤ ·) ⟨A, c, ls, r⟩ ∧ Lies w' (R.getD ⟨[], 0⟩) A c ls r ∧ Below w.heap.size w w' := by
  subst hR
  have hl := hT.len
  have hl2 := hX.len
  refine (put_any A c ls r PA pc p XA xc xs xr _ _ _ w hT.1 hP hX.1 (by have := hs.1; have := hx.1; omega) (by omega) ht).mono ?_
  rintro e w' hq
  rw [hT.2, hX.2] at hq
  rcases h : putT T p X with _ | y
  · obtain ⟨rfl, hb⟩ := hq.2 h
    exact ⟨none, 0, [], 0, rfl, treeOwn_nil _ _, ⟨Lay.row.nil _ _ _, rfl⟩, hb⟩
  · obtain ⟨⟨A, c, ls, r⟩, rfl, h1, h2, hb⟩ := hq.1 y h
    exact ⟨A, c, ls, r, rfl, h2, ⟨h2.inn.2.mono (fun _ _ _ => trivial), h1⟩, hb⟩
theorem r18at_or {w : World} {T : Tr} {A PA : Option Addr} {c pc : Nat} {ls : List Ln} {r : Int} {p : List Int} {R : Option Tr} (hT : Lies w T A c ls r) (hs : SmallT T) (hP : intL.row w (fun _ => True) PA p) (hpl : p.length ≤ 1500) (hR : (atT T p).map treeOf = R) :
    Calls Tryd.prog 10 #[.agg #[.slice A ls.length c, .int .i64 r], .slice PA p.length pc] w fun e w' => ∃ (A : Option Addr) (c : Nat) (ls : List Ln) (r : Int), e = .returned (.tuple #[.agg #[.slice A ls.length c, .int .i64 r], .bool R.isSome]) ∧ Lies w' (R.getD ⟨[], 0⟩) A c ls r ∧ Below w.heap.size w w' := by
  subst hR
  refine (r18at_any (c := c) (pc := pc) hT hs hP hpl).mono ?_
  rintro e w' ⟨A, c, ls, r, rfl, h1, h2⟩
  exact ⟨A, c, ls, r, rfl, h1.lies, h2⟩
theorem r18put_or {w : World} {T X : Tr} {A PA XA : Option Addr} {c pc xc : Nat} {ls xs : List Ln} {r xr : Int} {p : List Int} {R : Option Tr} (hT : Lies w T A c ls r) (hs : SmallT T) (hP : intL.row w (fun _ => True) PA p) (hpl : p.length ≤ 1500) (hpc : p.length ≤ pc) (hX : Lies w X XA xc xs xr) (hx : SmallT X) (hR : ((putT T p X).map fun y => treeOf (makeTT y)) = R) :
    Calls Tryd.prog 12 #[.agg #[.slice A ls.length c, .int .i64 r], .slice PA p.length pc, .agg #[.slice XA xs.length xc, .int .i64 xr]] w fun e w' => ∃ (A : Option Addr) (c : Nat) (ls : List Ln) (r : Int), e = .returned (.tuple #[.agg #[.slice A ls.length c, .int .i64 r], .bool R.isSome]) ∧ Lies w' (R.getD ⟨[], 0⟩) A c ls r ∧ Below w.heap.size w w' := by
  subst hR
  refine (r18Put_any (c := c) (pc := pc) (xc := xc) hT hs hP hpl hpc hX hx).mono ?_
  rintro e w' ⟨A, c, ls, r, rfl, h1, h2⟩
  exact ⟨A, c, ls, r, rfl, h1.lies, h2⟩
theorem small_c {T : Tr} {p : List Int} {R : Option Tr} (h : (atT T p).map treeOf = R) (hs : SmallT T) : (R.getD ⟨[], 0⟩).nodes.length ≤ 3000 ∧ ∀ n ∈ (R.getD ⟨[], 0⟩).nodes, n.kids.length ≤ 3000 := by
  subst h
  rcases h : atT T p with _ | y
  · exact ⟨by simp, fun n hn => by cases hn⟩
  · have h1 := sz_atT h
    have h2 := hs.1
    exact ⟨by show szTT y ≤ _; omega, fun n hn => by have := sz_kids y n hn; omega⟩
theorem small_p {T X : Tr} {p : List Int} {R : Option Tr} (h : ((putT T p X).map fun y => treeOf (makeTT y)) = R) (hs : SmallT T) (hx : SmallT X) : (R.getD ⟨[], 0⟩).nodes.length ≤ 3000 ∧ ∀ n ∈ (R.getD ⟨[], 0⟩).nodes, n.kids.length ≤ 3000 := by
  subst h
  rcases h : putT T p X with _ | y
  · exact ⟨by simp, fun n hn => by cases hn⟩
  · have h1 := sz_putT h
    have h2 := hs.1
    have h3 := hx.1
    have h4 := sz_make y
    exact ⟨by show szTT (makeTT y) ≤ _; omega, fun n hn => by have := sz_kids (makeTT y) n hn; omega⟩
theorem small_lies {w : World} {T : Tr} {A : Option Addr} {c : Nat} {ls : List Ln} {r : Int} (hT : Lies w T A c ls r) (h : T.nodes.length ≤ 3000 ∧ ∀ n ∈ T.nodes, n.kids.length ≤ 3000) : ls.length ≤ 3000 ∧ ∀ l ∈ ls, l.nd.kids.length ≤ 3000 :=
  ⟨by have := hT.len; omega, fun l hl => h.2 l.nd (by rw [← hT.2]; exact List.mem_map.2 ⟨l, hl, rfl⟩)⟩
theorem spoilt_below {Q : Nat → Prop} {w w' : World} {B : Nat} (h : Spoilt Q w w') (hQ : ∀ b, Q b → B ≤ b) (hB : B ≤ w.heap.size) : Below B w w' :=
  ⟨h.os, h.tape, h.output, h.size, fun k hk => h.block k (by omega) (fun q => by have := hQ k q; omega)⟩
/-- The call's own copy. -/
theorem own_lies {w : World} {T : Tr} {A : Option Addr} {c : Nat} {ls : List Ln} {r : Int} (hT : Lies w T A c ls r) (hs : SmallT T) :
    Calls Tryd.prog 8 #[.agg #[.slice A ls.length c, .int .i64 r]] w fun e w' => ∃ v : Lt, e = .returned (.agg #[.slice v.A v.ls.length v.c, .int .i64 v.root]) ∧ TreeOwn w' (fun _ => True) v ∧ v.tr = T ∧ Below w.heap.size w w' := by
  have hl := hT.len
  obtain ⟨h1, h2⟩ := hs
  rw [← hT.2] at h2 ⊢
  refine (own18_any A c ls r _ w hT.1 (by omega) (fun l hl' => by have := h2 l.nd (List.mem_map.2 ⟨l, hl', rfl⟩); omega)).mono ?_
  rintro e w' ⟨v, rfl, h3, h4, h5⟩
  exact ⟨v, rfl, h4.mono (fun _ _ _ => trivial), h3, h5⟩
set_option maxRecDepth 100000 in
set_option maxHeartbeats 12800000 in
theorem pathtells_walk (t x : Lt) (PA : Option Addr) (pc : Nat) (p : List Int) (S1 S2 S3 : Nat → Prop) (W : World) (hT : t.inn W S1) (hX : x.inn W S2) (hP : intL.row W S3 PA p) (hpl : p.length ≤ 281474976710656) (hpc : p.length ≤ pc ∧ pc ≤ 9223372036854775807) (ht : CntTab W) :
    Calls Tryd.prog 3 #[t.val, x.val, .slice PA p.length pc] W fun e w' => e = .returned (.bool true) ∧ Below W.heap.size W w' := by
  obtain ⟨A, c, ls, root⟩ := t
  obtain ⟨XA, xc, xs, xroot⟩ := x
  simp only [Lt.val]
  have hll : ls.length ≤ 281474976710656 := hT.1
  have hxl : xs.length ≤ 281474976710656 := hX.1
  have HB0 := Lib.hid (bx2 W (.cells #[.slice A ls.length c, .int .i64 root] 24) (.cells #[.slice XA xs.length xc, .int .i64 xroot] 24))
  have HK0 := Lib.hid (show ((W.alloc (.cells #[.slice A ls.length c, .int .i64 root] 24)).alloc (.cells #[.slice XA xs.length xc, .int .i64 xroot] 24)).heap[W.heap.size]? = some (.cells #[.slice A ls.length c, .int .i64 root] 24 (0, 0)) ∧ ((W.alloc (.cells #[.slice A ls.length c, .int .i64 root] 24)).alloc (.cells #[.slice XA xs.length xc, .int .i64 xroot] 24)).heap[W.heap.size + 1]? = some (.cells #[.slice XA xs.length xc, .int .i64 xroot] 24 (0, 0)) from by
    have h := bx_new (W.alloc (.cells #[.slice A ls.length c, .int .i64 root] 24)) (.cells #[.slice XA xs.length xc, .int .i64 xroot] 24)
    rw [World.size_alloc] at h
    exact ⟨bx_old (bx_new W _), h⟩)
  have HT := Lib.hid (show ndL.row ((W.alloc (.cells #[.slice A ls.length c, .int .i64 root] 24)).alloc (.cells #[.slice XA xs.length xc, .int .i64 xroot] 24)) (fun _ => True) A ls from (hT.2.below HB0.out).mono (fun _ _ _ => trivial))
  have HX := Lib.hid (show ndL.row ((W.alloc (.cells #[.slice A ls.length c, .int .i64 root] 24)).alloc (.cells #[.slice XA xs.length xc, .int .i64 xroot] 24)) (fun _ => True) XA xs from (hX.2.below HB0.out).mono (fun _ _ _ => trivial))
  have HP := Lib.hid (show intL.row ((W.alloc (.cells #[.slice A ls.length c, .int .i64 root] 24)).alloc (.cells #[.slice XA xs.length xc, .int .i64 xroot] 24)) (fun _ => True) PA p from (hP.below HB0.out).mono (fun _ _ _ => trivial))
  have HC := Lib.hid (ht.below HB0.out)
  clear hT hX hP ht
  go_enter Tryd.func3, Tryd.ntmps3
  go_upto_region 1 with (fail)
  generalize (W.alloc (.cells #[.slice A ls.length c, .int .i64 root] 24)).alloc (.cells #[.slice XA xs.length xc, .int .i64 xroot] 24) = W0 at *
  generalize W.heap.size + 1 = hx at *
  have HB0' := Lib.hid HB0.out
  obtain ⟨q0, q1, _, _⟩ := blk2 HK0.out.1
  obtain ⟨q2, q3, _, _⟩ := blk2 HK0.out.2
  have HL := Lib.hid (long_lies3 (w := W0) HT.out HX.out HP.out hll hxl hpl root xroot c xc pc)
  go_wp2_with fail
  refine HL.out.mono ?_
  rintro e w2 ⟨r, rfl, hr, hb2⟩
  have HC2 := Lib.hid (HC.out.below hb2)
  have HB2 := Lib.hid hb2
  clear HL q0 q1 q2 q3
  rcases r with _ | _
  case true =>
    clear hr hb2
    go_wp2_with fail
    refine (works18_any w2 HC2.out).mono ?_
    rintro e w3 ⟨rfl, hb3⟩
    have HB3 := Lib.hid hb3
    clear hb3
    go_wp2_with fail
    go_ret
    exact ⟨rfl, Below.step HB0'.out (Below.step HB2.out HB3.out)⟩
  obtain ⟨h1, h2, h3⟩ := hr rfl
  obtain ⟨T, hTd⟩ : ∃ T : Tr, T = ⟨ls.map Ln.nd, root⟩ := ⟨_, rfl⟩
  obtain ⟨X, hXd⟩ : ∃ T : Tr, T = ⟨xs.map Ln.nd, xroot⟩ := ⟨_, rfl⟩
  have HST := Lib.hid (show SmallT T from by
    rw [hTd]
    exact ⟨by simpa using h1.1, fun n hn => by obtain ⟨l, hl, rfl⟩ := List.mem_map.1 hn; exact h1.2 l hl⟩)
  have HSX := Lib.hid (show SmallT X from by
    rw [hXd]
    exact ⟨by simpa using h2.1, fun n hn => by obtain ⟨l, hl, rfl⟩ := List.mem_map.1 hn; exact h2.2 l hl⟩)
  have HVt := Lib.hid (show Lies w2 T A c ls root from ⟨HT.out.below HB2.out, hTd.symm⟩)
  have HVx := Lib.hid (show Lies w2 X XA xc xs xroot from ⟨HX.out.below HB2.out, hXd.symm⟩)
  have HPp := Lib.hid (HP.out.below HB2.out)
  have HCc := Lib.hid HC2.out
  have HKt := Lib.hid (bx_kept HB2.out HK0.out.1)
  have HKx := Lib.hid (bx_kept HB2.out HK0.out.2)
  have HB := Lib.hid (Below.step HB0'.out HB2.out)
  have hl1 := h1.1
  have hl2 := h2.1
  simp only at hl1 hl2
  clear hr hb2 hTd hXd HC2 HB2 HT HX HP HC HK0 HB0' HB0 h1 h2
  have HCX := Lib.hid (show ∀ w', Below w2.heap.size w2 w' → w'.cell? ⟨W.heap.size, 0, none⟩ = some (.slice A ls.length c) ∧ w'.cell? ⟨W.heap.size, 1, none⟩ = some (.int .i64 root) ∧ w'.cell? ⟨hx, 0, none⟩ = some (.slice XA xs.length xc) ∧ w'.cell? ⟨hx, 1, none⟩ = some (.int .i64 xroot) from fun w' h => by
    obtain ⟨a1, a2, _⟩ := blk2 (bx_kept h HKt.out)
    obtain ⟨a3, a4, _⟩ := blk2 (bx_kept h HKx.out)
    exact ⟨a1, a2, a3, a4⟩)
  have HOT := Lib.hid (fun w' (h : Below w2.heap.size w2 w') => own_lies (c := c) (HVt.out.below h) HST.out)
  have HOX := Lib.hid (fun w' (h : Below w2.heap.size w2 w') => own_lies (c := xc) (HVx.out.below h) HSX.out)
  go_upto_region 3 with (fail)
  go_cut [7, 8] (fun v7 v8 wx => ∃ (g h : Nat) (a b : Lt), v7 = .pointer (some ⟨g, 0, none⟩) ∧ v8 = .pointer (some ⟨h, 0, none⟩) ∧ Hid (wx.heap[g]? = some (.cells #[.slice a.A a.ls.length a.c, .int .i64 a.root] 24 (0, 0))) ∧ Hid (wx.heap[h]? = some (.cells #[.slice b.A b.ls.length b.c, .int .i64 b.root] 24 (0, 0))) ∧ Hid (Lies wx T a.A a.c a.ls a.root) ∧ Hid (Lies wx X b.A b.c b.ls b.root) ∧ Hid (Below w2.heap.size w2 wx))
  case first =>
    refine wp_region_inv0 (TellInv (.agg #[.slice A ls.length c, .int .i64 root]) (.agg #[.slice XA xs.length xc, .int .i64 xroot]) T X w2.heap.size w2) (by kernel_rfl) ?_ ?_ ?_
    · exact ⟨rfl, (Below.refl _ _).drew, Nat.le_refl _, _, _, _, _, _, _, (self_puts _ [28, 29, 30, 31, 7, 8] rfl).symm, fun h => absurd h (by decide), fun h => absurd h (by decide), fun h => absurd h (by decide), fun h => absurd h (by decide), fun h => absurd h (by decide), fun h => absurd h (by decide), fun h => absurd h (by decide), fun h => absurd h (by decide), fun h => absurd h (by decide)⟩
    · as_aux_lemma =>
        intro listed a' w' hI i hi
        obtain ⟨hsz, hb, hB, v28, v29, v30, v31, v7, v8, rfl, c0, c1, c2, c3, c4, c5, c6, c7, c8⟩ := hI
        have hun := (ready_mem hi).2.1
        have hlt : i < 8 := (ready_mem hi).1
        have hcs : i = 0 ∨ i = 1 ∨ i = 2 ∨ i = 3 ∨ i = 4 ∨ i = 5 ∨ i = 6 ∨ i = 7 := by omega
        clear hlt
        rcases hcs with rfl | rfl | rfl | rfl | rfl | rfl | rfl | rfl
        · have hp := ready_after (o := { dst := some 28, op := Go.Op.load 24 (Go.Operand.tmp 3), type := 24, pos := "law.go:78", after := #[], guard := none }) hi rfl
          simp [Region.binds] at hp
          have hbk : Below w'.heap.size w' w' := Below.refl _ _
          obtain ⟨u1, u2, u3, u4⟩ := HCX.out w' hb
          refine wpOp_shut (o := { dst := some 28, op := Go.Op.load 24 (Go.Operand.tmp 3), type := 24, pos := "law.go:78", after := #[], guard := none }) rfl (fun K hK => ?_)
          simp only [Act.put, List.setIfInBounds_toArray, List.set_cons_zero, List.set_cons_succ]
          go_simp
          exact hK.out _ _ ⟨by simp [hsz], hb, hB, _, _, _, _, _, _, (by simp only [Act.put, List.setIfInBounds_toArray, List.set_cons_zero, List.set_cons_succ]; try rfl),
              fun _ => rfl,
              fun h => (c1 (flag_of (by decide) h)).below hbk,
              fun h => c2 (flag_of (by decide) h),
              fun h => (c3 (flag_of (by decide) h)).below hbk,
              fun h => (c4 (flag_of (by decide) h)).below (flag_of (by decide)) hbk,
              fun h => (c5 (flag_of (by decide) h)).below (flag_of (by decide)) hbk,
              fun h k => c6 (flag_of (by decide) h) (flag_of (by decide) k),
              fun h => ⟨flag_old (c7 (flag_of (by decide) h)).1, flag_old (c7 (flag_of (by decide) h)).2.1, flag_old (c7 (flag_of (by decide) h)).2.2⟩,
              fun h => ⟨flag_old (c8 (flag_of (by decide) h)).1, flag_old (c8 (flag_of (by decide) h)).2.1, flag_old (c8 (flag_of (by decide) h)).2.2⟩⟩
        · have hp := ready_after (o := { dst := some 29, op := Go.Op.call { callee := Go.Callee.value (Go.Operand.func 8), args := #[Go.Operand.tmp 28], argTypes := #[24] }, type := 24, pos := "law.go:78", after := #[{ on := 0, ground := Go.Ground.data }], guard := none }) hi rfl
          simp [Region.binds] at hp
          obtain rfl := c0 (by first | exact hp | exact hp.1 | exact hp.2 | exact hp.2.1 | exact hp.1.1 | simp [hp])
          refine wpOp_shut (o := { dst := some 29, op := Go.Op.call { callee := Go.Callee.value (Go.Operand.func 8), args := #[Go.Operand.tmp 28], argTypes := #[24] }, type := 24, pos := "law.go:78", after := #[{ on := 0, ground := Go.Ground.data }], guard := none }) rfl (fun K hK => ?_)
          simp only [Act.put, List.setIfInBounds_toArray, List.set_cons_zero, List.set_cons_succ]
          go_simp
          refine (HOT.out w' hb).mono ?_
          rintro e w1 ⟨v, rfl, hto, htr, hbk⟩
          go_wp2_with fail
          exact hK.out _ _ ⟨by simp [hsz], (hb.trans (hbk.mono hB)), (Nat.le_trans hB hbk.size), _, _, _, _, _, _, (by simp only [Act.put, List.setIfInBounds_toArray, List.set_cons_zero, List.set_cons_succ]; try rfl),
              fun _ => rfl,
              fun _ => ⟨v, rfl, hto, htr⟩,
              fun h => c2 (flag_of (by decide) h),
              fun h => (c3 (flag_of (by decide) h)).below hbk,
              fun h => ((c4 (flag_of (by decide) h)).below id hbk).off (fun u => flag_not hun (c7 (flag_of (by decide) u)).1),
              fun h => (c5 (flag_of (by decide) h)).below (flag_of (by decide)) hbk,
              fun h k => c6 (flag_of (by decide) h) (flag_of (by decide) k),
              fun h => ⟨flag_old (c7 (flag_of (by decide) h)).1, flag_old (c7 (flag_of (by decide) h)).2.1, flag_old (c7 (flag_of (by decide) h)).2.2⟩,
              fun h => ⟨flag_old (c8 (flag_of (by decide) h)).1, flag_old (c8 (flag_of (by decide) h)).2.1, flag_old (c8 (flag_of (by decide) h)).2.2⟩⟩
        · have hp := ready_after (o := { dst := some 30, op := Go.Op.load 24 (Go.Operand.tmp 4), type := 24, pos := "law.go:78", after := #[], guard := none }) hi rfl
          simp [Region.binds] at hp
          have hbk : Below w'.heap.size w' w' := Below.refl _ _
          obtain ⟨u1, u2, u3, u4⟩ := HCX.out w' hb
          refine wpOp_shut (o := { dst := some 30, op := Go.Op.load 24 (Go.Operand.tmp 4), type := 24, pos := "law.go:78", after := #[], guard := none }) rfl (fun K hK => ?_)
          simp only [Act.put, List.setIfInBounds_toArray, List.set_cons_zero, List.set_cons_succ]
          go_simp
          exact hK.out _ _ ⟨by simp [hsz], hb, hB, _, _, _, _, _, _, (by simp only [Act.put, List.setIfInBounds_toArray, List.set_cons_zero, List.set_cons_succ]; try rfl),
              fun h => c0 (flag_of (by decide) h),
              fun h => (c1 (flag_of (by decide) h)).below hbk,
              fun _ => rfl,
              fun h => (c3 (flag_of (by decide) h)).below hbk,
              fun h => (c4 (flag_of (by decide) h)).below (flag_of (by decide)) hbk,
              fun h => (c5 (flag_of (by decide) h)).below (flag_of (by decide)) hbk,
              fun h k => c6 (flag_of (by decide) h) (flag_of (by decide) k),
              fun h => ⟨flag_old (c7 (flag_of (by decide) h)).1, flag_old (c7 (flag_of (by decide) h)).2.1, flag_old (c7 (flag_of (by decide) h)).2.2⟩,
              fun h => ⟨flag_old (c8 (flag_of (by decide) h)).1, flag_old (c8 (flag_of (by decide) h)).2.1, flag_old (c8 (flag_of (by decide) h)).2.2⟩⟩
        · have hp := ready_after (o := { dst := some 31, op := Go.Op.call { callee := Go.Callee.value (Go.Operand.func 8), args := #[Go.Operand.tmp 30], argTypes := #[24] }, type := 24, pos := "law.go:78", after := #[{ on := 2, ground := Go.Ground.data }, { on := 1, ground := Go.Ground.chain }], guard := none }) hi rfl
          simp [Region.binds] at hp
          obtain rfl := c2 (by first | exact hp | exact hp.1 | exact hp.2 | exact hp.2.1 | exact hp.1.1 | simp [hp])
          refine wpOp_shut (o := { dst := some 31, op := Go.Op.call { callee := Go.Callee.value (Go.Operand.func 8), args := #[Go.Operand.tmp 30], argTypes := #[24] }, type := 24, pos := "law.go:78", after := #[{ on := 2, ground := Go.Ground.data }, { on := 1, ground := Go.Ground.chain }], guard := none }) rfl (fun K hK => ?_)
          simp only [Act.put, List.setIfInBounds_toArray, List.set_cons_zero, List.set_cons_succ]
          go_simp
          refine (HOX.out w' hb).mono ?_
          rintro e w1 ⟨v, rfl, hto, htr, hbk⟩
          go_wp2_with fail
          exact hK.out _ _ ⟨by simp [hsz], (hb.trans (hbk.mono hB)), (Nat.le_trans hB hbk.size), _, _, _, _, _, _, (by simp only [Act.put, List.setIfInBounds_toArray, List.set_cons_zero, List.set_cons_succ]; try rfl),
              fun h => c0 (flag_of (by decide) h),
              fun h => (c1 (flag_of (by decide) h)).below hbk,
              fun _ => rfl,
              fun _ => ⟨v, rfl, hto, htr⟩,
              fun h => (c4 (flag_of (by decide) h)).below (flag_of (by decide)) hbk,
              fun h => ((c5 (flag_of (by decide) h)).below id hbk).off (fun u => flag_not hun (c8 (flag_of (by decide) u)).2.1),
              fun h k => c6 (flag_of (by decide) h) (flag_of (by decide) k),
              fun h => ⟨flag_old (c7 (flag_of (by decide) h)).1, flag_old (c7 (flag_of (by decide) h)).2.1, flag_old (c7 (flag_of (by decide) h)).2.2⟩,
              fun h => ⟨flag_old (c8 (flag_of (by decide) h)).1, flag_old (c8 (flag_of (by decide) h)).2.1, flag_old (c8 (flag_of (by decide) h)).2.2⟩⟩
        · have hp := ready_after (o := { dst := some 7, op := Go.Op.alloc 24, type := 0, pos := "law.go:78", after := #[], guard := none }) hi rfl
          simp [Region.binds] at hp
          refine wpOp_shut (o := { dst := some 7, op := Go.Op.alloc 24, type := 0, pos := "law.go:78", after := #[], guard := none }) rfl (fun K hK => ?_)
          simp only [Act.put, List.setIfInBounds_toArray, List.set_cons_zero, List.set_cons_succ]
          go_simp
          have hbk := bx1 w' (.cells #[.slice none 0 0, .int .i64 0] 24)
          exact hK.out _ _ ⟨by simp [hsz], (hb.alloc hB _), (by simp; omega), _, _, _, _, _, _, (by simp only [Act.put, List.setIfInBounds_toArray, List.set_cons_zero, List.set_cons_succ]; try rfl),
              fun h => c0 (flag_of (by decide) h),
              fun h => (c1 (flag_of (by decide) h)).below hbk,
              fun h => c2 (flag_of (by decide) h),
              fun h => (c3 (flag_of (by decide) h)).below hbk,
              fun _ => BoxT.new hB (fun u => flag_not hun (c7 (flag_of (by decide) u)).2.2) _ _ _,
              fun h => (c5 (flag_of (by decide) h)).below (flag_of (by decide)) hbk,
              fun _ h => Ne.symm (c5 (flag_of (by decide) h)).fresh,
              fun h => ⟨flag_old (c7 (flag_of (by decide) h)).1, flag_old (c7 (flag_of (by decide) h)).2.1, flag_old (c7 (flag_of (by decide) h)).2.2⟩,
              fun h => ⟨flag_old (c8 (flag_of (by decide) h)).1, flag_old (c8 (flag_of (by decide) h)).2.1, flag_old (c8 (flag_of (by decide) h)).2.2⟩⟩
        · have hp := ready_after (o := { dst := some 8, op := Go.Op.alloc 24, type := 0, pos := "law.go:78", after := #[], guard := none }) hi rfl
          simp [Region.binds] at hp
          refine wpOp_shut (o := { dst := some 8, op := Go.Op.alloc 24, type := 0, pos := "law.go:78", after := #[], guard := none }) rfl (fun K hK => ?_)
          simp only [Act.put, List.setIfInBounds_toArray, List.set_cons_zero, List.set_cons_succ]
          go_simp
          have hbk := bx1 w' (.cells #[.slice none 0 0, .int .i64 0] 24)
          exact hK.out _ _ ⟨by simp [hsz], (hb.alloc hB _), (by simp; omega), _, _, _, _, _, _, (by simp only [Act.put, List.setIfInBounds_toArray, List.set_cons_zero, List.set_cons_succ]; try rfl),
              fun h => c0 (flag_of (by decide) h),
              fun h => (c1 (flag_of (by decide) h)).below hbk,
              fun h => c2 (flag_of (by decide) h),
              fun h => (c3 (flag_of (by decide) h)).below hbk,
              fun h => (c4 (flag_of (by decide) h)).below (flag_of (by decide)) hbk,
              fun _ => BoxT.new hB (fun u => flag_not hun (c8 (flag_of (by decide) u)).1) _ _ _,
              fun h _ => (c4 (flag_of (by decide) h)).fresh,
              fun h => ⟨flag_old (c7 (flag_of (by decide) h)).1, flag_old (c7 (flag_of (by decide) h)).2.1, flag_old (c7 (flag_of (by decide) h)).2.2⟩,
              fun h => ⟨flag_old (c8 (flag_of (by decide) h)).1, flag_old (c8 (flag_of (by decide) h)).2.1, flag_old (c8 (flag_of (by decide) h)).2.2⟩⟩
        · have hp := ready_after (o := { dst := none, op := Go.Op.store 24 (Go.Operand.tmp 7) (Go.Operand.tmp 29), type := 0, pos := "law.go:78", after := #[{ on := 4, ground := Go.Ground.data }, { on := 1, ground := Go.Ground.data }, { on := 3, ground := Go.Ground.chain }, { on := 0, ground := Go.Ground.phase }, { on := 1, ground := Go.Ground.phase }, { on := 2, ground := Go.Ground.textOnly Go.Departure.lateStores }, { on := 3, ground := Go.Ground.textOnly Go.Departure.lateStoresUnsure }, { on := 4, ground := Go.Ground.phase }, { on := 5, ground := Go.Ground.phase }], guard := none }) hi rfl
          simp [Region.binds] at hp
          have hfa : listed.getD 4 false = true := by first | exact hp | exact hp.1 | exact hp.2 | exact hp.2.1 | exact hp.1.1 | simp [hp]
          have hfs : listed.getD 1 false = true := by first | exact hp | exact hp.1 | exact hp.2 | exact hp.2.1 | exact hp.1.1 | simp [hp]
          have hf3 : listed.getD 3 false = true := by first | exact hp | exact hp.1 | exact hp.2 | exact hp.2.1 | exact hp.1.1 | simp [hp]
          obtain ⟨p, x, y, rfl, hBp, hh, _⟩ := c4 hfa
          obtain ⟨⟨TA, tc, tls, tr⟩, rfl, hto, htr⟩ := id (c1 hfs)
          obtain ⟨s1, s2, s3, s4⟩ := blk2 hh
          refine wpOp_shut (o := { dst := none, op := Go.Op.store 24 (Go.Operand.tmp 7) (Go.Operand.tmp 29), type := 0, pos := "law.go:78", after := #[{ on := 4, ground := Go.Ground.data }, { on := 1, ground := Go.Ground.data }, { on := 3, ground := Go.Ground.chain }, { on := 0, ground := Go.Ground.phase }, { on := 1, ground := Go.Ground.phase }, { on := 2, ground := Go.Ground.textOnly Go.Departure.lateStores }, { on := 3, ground := Go.Ground.textOnly Go.Departure.lateStoresUnsure }, { on := 4, ground := Go.Ground.phase }, { on := 5, ground := Go.Ground.phase }], guard := none }) rfl (fun K hK => ?_)
          simp only [Act.put, List.setIfInBounds_toArray, List.set_cons_zero, List.set_cons_succ]
          go_simp
          have hs3 := fun x y => set2h (W := w') x y hBp hh
          exact hK.out _ _ ⟨by simp [hsz], (hb.trans (hs3 _ _).2.2), (Nat.le_trans hB (hs3 _ _).2.2.size), _, _, _, _, _, _, (by simp only [Act.put, List.setIfInBounds_toArray, List.set_cons_zero, List.set_cons_succ]; try rfl),
              fun h => c0 (flag_of (by decide) h),
              fun h => (c1 (flag_of (by decide) h)).but hh (hs3 _ _).2.1,
              fun h => c2 (flag_of (by decide) h),
              fun h => (c3 (flag_of (by decide) h)).but hh (hs3 _ _).2.1,
              fun _ => ⟨p, _, _, rfl, hBp, (hs3 _ _).1, fun _ => rfl⟩,
              fun h => (c5 (flag_of (by decide) h)).but (flag_of (by decide)) (Ne.symm (c6 hfa (flag_of (by decide) h))) (hs3 _ _).2.1,
              fun h k => c6 (flag_of (by decide) h) (flag_of (by decide) k),
              fun _ => ⟨flag_old hfs, flag_old hf3, flag_old hfa⟩,
              fun h => ⟨flag_old (c8 (flag_of (by decide) h)).1, flag_old (c8 (flag_of (by decide) h)).2.1, flag_old (c8 (flag_of (by decide) h)).2.2⟩⟩
        · have hp := ready_after (o := { dst := none, op := Go.Op.store 24 (Go.Operand.tmp 8) (Go.Operand.tmp 31), type := 0, pos := "law.go:78", after := #[{ on := 5, ground := Go.Ground.data }, { on := 3, ground := Go.Ground.data }, { on := 6, ground := Go.Ground.chain }, { on := 0, ground := Go.Ground.phase }, { on := 1, ground := Go.Ground.phase }, { on := 2, ground := Go.Ground.phase }, { on := 3, ground := Go.Ground.phase }, { on := 4, ground := Go.Ground.phase }, { on := 5, ground := Go.Ground.phase }, { on := 6, ground := Go.Ground.phase }], guard := none }) hi rfl
          simp [Region.binds] at hp
          have hfa : listed.getD 5 false = true := by first | exact hp | exact hp.1 | exact hp.2 | exact hp.2.1 | exact hp.1.1 | simp [hp]
          have hfs : listed.getD 3 false = true := by first | exact hp | exact hp.1 | exact hp.2 | exact hp.2.1 | exact hp.1.1 | simp [hp]
          have hf6 : listed.getD 6 false = true := by first | exact hp | exact hp.1 | exact hp.2 | exact hp.2.1 | exact hp.1.1 | simp [hp]
          obtain ⟨p, x, y, rfl, hBp, hh, _⟩ := c5 hfa
          obtain ⟨⟨TA, tc, tls, tr⟩, rfl, hto, htr⟩ := id (c3 hfs)
          obtain ⟨s1, s2, s3, s4⟩ := blk2 hh
          refine wpOp_shut (o := { dst := none, op := Go.Op.store 24 (Go.Operand.tmp 8) (Go.Operand.tmp 31), type := 0, pos := "law.go:78", after := #[{ on := 5, ground := Go.Ground.data }, { on := 3, ground := Go.Ground.data }, { on := 6, ground := Go.Ground.chain }, { on := 0, ground := Go.Ground.phase }, { on := 1, ground := Go.Ground.phase }, { on := 2, ground := Go.Ground.phase }, { on := 3, ground := Go.Ground.phase }, { on := 4, ground := Go.Ground.phase }, { on := 5, ground := Go.Ground.phase }, { on := 6, ground := Go.Ground.phase }], guard := none }) rfl (fun K hK => ?_)
          simp only [Act.put, List.setIfInBounds_toArray, List.set_cons_zero, List.set_cons_succ]
          go_simp
          have hs3 := fun x y => set2h (W := w') x y hBp hh
          exact hK.out _ _ ⟨by simp [hsz], (hb.trans (hs3 _ _).2.2), (Nat.le_trans hB (hs3 _ _).2.2.size), _, _, _, _, _, _, (by simp only [Act.put, List.setIfInBounds_toArray, List.set_cons_zero, List.set_cons_succ]; try rfl),
              fun h => c0 (flag_of (by decide) h),
              fun h => (c1 (flag_of (by decide) h)).but hh (hs3 _ _).2.1,
              fun h => c2 (flag_of (by decide) h),
              fun h => (c3 (flag_of (by decide) h)).but hh (hs3 _ _).2.1,
              fun h => (c4 (flag_of (by decide) h)).but (flag_of (by decide)) (c6 (flag_of (by decide) h) hfa) (hs3 _ _).2.1,
              fun _ => ⟨p, _, _, rfl, hBp, (hs3 _ _).1, fun _ => rfl⟩,
              fun h k => c6 (flag_of (by decide) h) (flag_of (by decide) k),
              fun h => ⟨flag_old (c7 (flag_of (by decide) h)).1, flag_old (c7 (flag_of (by decide) h)).2.1, flag_old (c7 (flag_of (by decide) h)).2.2⟩,
              fun _ => ⟨flag_old hfa, flag_old hfs, flag_old hf6⟩⟩
    · intro listed a' wz hI hr
      obtain ⟨hsz, hb, hB, v28, v29, v30, v31, v7, v8, rfl, c0, c1, c2, c3, c4, c5, c6, c7, c8⟩ := hI
      have hall := all_listed hsz (by kernel_rfl) hr
      obtain ⟨s, rfl, hso, hst⟩ := c1 (hall 1 (by decide))
      obtain ⟨cc, rfl, hco, hct⟩ := c3 (hall 3 (by decide))
      obtain ⟨p', x0, x1, rfl, _, hp, hps⟩ := c4 (hall 4 (by decide))
      obtain ⟨q', y0, y1, rfl, _, hq, hqs⟩ := c5 (hall 5 (by decide))
      have e1 := hps (hall 6 (by decide)); simp at e1; obtain ⟨rfl, rfl⟩ := e1
      have e2 := hqs (hall 7 (by decide)); simp at e2; obtain ⟨rfl, rfl⟩ := e2
      simp only [Act.put, List.setIfInBounds_toArray, List.set_cons_zero, List.set_cons_succ]
      have HF1 := Lib.hid hp; have HF2 := Lib.hid hq
      have HF3 := Lib.hid (show Lies wz T s.A s.c s.ls s.root from ⟨hso.inn.2, hst⟩)
      have HF4 := Lib.hid (show Lies wz X cc.A cc.c cc.ls cc.root from ⟨hco.inn.2, hct⟩)
      have HF5 := Lib.hid hb
      clear hsz hb hB c0 c1 c2 c3 c4 c5 c6 c7 c8 hall hso hst hco hct hp hps hq hqs hr
      go_wp2_with fail
      go_meet
      exact ⟨p', q', s, cc, rfl, rfl, HF1, HF2, HF3, HF4, HF5⟩
  case rest =>
    obtain ⟨ga, gb, ⟨AA, ac, als, ar⟩, ⟨AB, bc, bls, br⟩, rfl, rfl, HKa, HKb, HVa, HVb, HR⟩ := hcut
    simp only at HKa HKb HVa HVb
    clear HCX HOT HOX
    have HVt' := Lib.hid (HVt.out.below HR.out); clear HVt; have HVt := HVt'; clear HVt'
    have HVx' := Lib.hid (HVx.out.below HR.out); clear HVx; have HVx := HVx'; clear HVx'
    have HPp' := Lib.hid (HPp.out.below HR.out); clear HPp; have HPp := HPp'; clear HPp'
    have HCc' := Lib.hid (HCc.out.below HR.out); clear HCc; have HCc := HCc'; clear HCc'
    have HKt' := Lib.hid (bx_kept HR.out HKt.out); clear HKt; have HKt := HKt'; clear HKt'
    have HKx' := Lib.hid (bx_kept HR.out HKx.out); clear HKx; have HKx := HKx'; clear HKx'
    have HB' := Lib.hid (Below.step HB.out HR.out); clear HB; have HB := HB'; clear HB'
    clear HR
    obtain ⟨m0, hmi, hm0, hm1, hm2⟩ := info_parts infoInt
    have HOI := Lib.hid (show (wc.alloc (.cells #[] 3)).ownsRow wc.heap.size 3 1 (.slice (some ⟨wc.heap.size, 0, none⟩) 0 0) 0 [] from ⟨rfl, .inr ⟨wc.heap.size, 0, #[], rfl, Nat.le_refl _, bx_new wc _, Nat.le_refl _, by unfold maxLen; omega, rfl, rfl⟩⟩)
    have FI := Lib.hid (show 0 + p.length ≤ maxLen ∧ (0 + p.length) * 8 ≤ 140737488355328 from ⟨by unfold maxLen; omega, by omega⟩)
    go_upto_region 5 with (at_builtin; refine wpList_append_at _ rfl (.tmp 32) (.tmp 33) 25 rfl wc.heap.size 3 m0 (.int .i64 0) 1 8 Tryd.underlying25 hmi hm0 hm1 hm2 rfl (by decide) (some ⟨wc.heap.size, 0, none⟩) 0 0 [] rfl HOI.out PA p.length pc (intL.all p) rfl (intL.all_length _) (HPp.out.below (bx1 wc _)).rowAt (intL.all_one' _) FI.out.1 FI.out.2 (by simp) ?_; intro Q qc w3 HK3 HG3 HA3)
    try simp only [Nat.zero_add]
    have HR := Lib.hid (show Below wc.heap.size wc w3 from (bx1 wc (.cells #[] 3)).grown HG3.out (by simp) (fun y hy => by have e : some wc.heap.size = some y := hy; injection e with e; omega))
    have HPq := Lib.hid (show intL.row w3 (fun _ => True) Q p from ⟨own_rowIn (by have h := HK3.out; rw [Nat.zero_add, List.nil_append] at h; exact h) (fun _ _ => trivial), fun _ _ => trivial⟩)
    have hqc : p.length ≤ qc := by have h := own_cap HK3.out; omega
    clear HOI FI HK3 HG3 HA3
    have HVt' := Lib.hid (HVt.out.below HR.out); clear HVt; have HVt := HVt'; clear HVt'
    have HVx' := Lib.hid (HVx.out.below HR.out); clear HVx; have HVx := HVx'; clear HVx'
    have HPp' := Lib.hid (HPp.out.below HR.out); clear HPp; have HPp := HPp'; clear HPp'
    have HCc' := Lib.hid (HCc.out.below HR.out); clear HCc; have HCc := HCc'; clear HCc'
    have HVa' := Lib.hid (HVa.out.below HR.out); clear HVa; have HVa := HVa'; clear HVa'
    have HVb' := Lib.hid (HVb.out.below HR.out); clear HVb; have HVb := HVb'; clear HVb'
    have HKt' := Lib.hid (bx_kept HR.out HKt.out); clear HKt; have HKt := HKt'; clear HKt'
    have HKx' := Lib.hid (bx_kept HR.out HKx.out); clear HKx; have HKx := HKx'; clear HKx'
    have HKa' := Lib.hid (bx_kept HR.out HKa.out); clear HKa; have HKa := HKa'; clear HKa'
    have HKb' := Lib.hid (bx_kept HR.out HKb.out); clear HKb; have HKb := HKb'; clear HKb'
    have HB' := Lib.hid (Below.step HB.out HR.out); clear HB; have HB := HB'; clear HB'
    clear HR
    go_wp2_with fail
    go_loopw [10] (fun v10 wr => ∃ k : Nat, k ≤ 2 ∧ v10 = .int .i64 k ∧ Hid (Below w3.heap.size w3 wr)) (fun v10 _ => 2 - (intOf v10).toNat)
    case atStart => exact ⟨0, by omega, rfl, Lib.hid (Below.refl _ _)⟩
    case round =>
      obtain ⟨k, hk, rfl, HR0⟩ := hrel
      have HVt' := Lib.hid (HVt.out.below HR0.out); clear HVt; have HVt := HVt'; clear HVt'
      have HVx' := Lib.hid (HVx.out.below HR0.out); clear HVx; have HVx := HVx'; clear HVx'
      have HPp' := Lib.hid (HPp.out.below HR0.out); clear HPp; have HPp := HPp'; clear HPp'
      have HCc' := Lib.hid (HCc.out.below HR0.out); clear HCc; have HCc := HCc'; clear HCc'
      have HVa' := Lib.hid (HVa.out.below HR0.out); clear HVa; have HVa := HVa'; clear HVa'
      have HVb' := Lib.hid (HVb.out.below HR0.out); clear HVb; have HVb := HVb'; clear HVb'
      have HPq' := Lib.hid (HPq.out.below HR0.out); clear HPq; have HPq := HPq'; clear HPq'
      have HKt' := Lib.hid (bx_kept HR0.out HKt.out); clear HKt; have HKt := HKt'; clear HKt'
      have HKx' := Lib.hid (bx_kept HR0.out HKx.out); clear HKx; have HKx := HKx'; clear HKx'
      have HKa' := Lib.hid (bx_kept HR0.out HKa.out); clear HKa; have HKa := HKa'; clear HKa'
      have HKb' := Lib.hid (bx_kept HR0.out HKb.out); clear HKb; have HKb := HKb'; clear HKb'
      by_cases hk1 : k < 2
      · have i1 : (k : Int) < 2 := by omega
        clear HB
        have HRR := Lib.hid (Below.refl wr.heap.size wr)
        generalize hRc : (atT T p).map treeOf = Rc at *
        generalize hRp : ((putT T p X).map fun y => treeOf (makeTT y)) = Rp at *
        have HRC := Lib.hid hRc; have HRP := Lib.hid hRp; clear hRc hRp
        obtain ⟨HKt0, HKt1, HKt2, HKt3⟩ := blk2 HKt.out
        obtain ⟨HKx0, HKx1, HKx2, HKx3⟩ := blk2 HKx.out
        obtain ⟨HKa0, HKa1, HKa2, HKa3⟩ := blk2 HKa.out
        obtain ⟨HKb0, HKb1, HKb2, HKb3⟩ := blk2 HKb.out
        go_wp2_with fail
        refine (at_own (c := ac) (pc := qc) HVa.out HPq.out HST.out h3 HCc.out HRC.out).mono ?_
        rintro e wq ⟨cA, cc, cl, cr, rfl, hoq, hlq, hbq⟩
        have HPc := Lib.hid (show wr.heap.size ≤ wq.heap.size from hbq.size)
        have HR := Lib.hid (Below.step hbq (bx1 wq (.cells #[.slice cA cl.length cc, .int .i64 cr] 24)))
        have hkq := bx_new wq (.cells #[.slice cA cl.length cc, .int .i64 cr] 24)
        have HOc := Lib.hid (show TreeOwn (wq.alloc (.cells #[.slice cA cl.length cc, .int .i64 cr] 24)) (fun b => wr.heap.size ≤ b ∧ b < wq.heap.size) ⟨cA, cc, cl, cr⟩ from ((hoq.mono (T := fun b => wr.heap.size ≤ b ∧ b < wq.heap.size) (fun b a h => ⟨h, a⟩)).below (bx1 wq _)))
        have HVc := Lib.hid (hlq.below (bx1 wq (.cells #[.slice cA cl.length cc, .int .i64 cr] 24)))
        clear HKt0 HKt1 HKt2 HKt3 HKx0 HKx1 HKx2 HKx3 HKa0 HKa1 HKa2 HKa3 HKb0 HKb1 HKb2 HKb3
        go_upto_region 9 with (fail)
        have HZc := Lib.hid (show wq.heap.size < (wq.alloc (.cells #[.slice cA cl.length cc, .int .i64 cr] 24)).heap.size from by simp)
        generalize wq.alloc (.cells #[.slice cA cl.length cc, .int .i64 cr] 24) = W11 at *
        generalize wq.heap.size = p11 at *
        have HK11 := Lib.hid hkq; clear hkq hbq hlq
        clear hoq
        have HVt' := Lib.hid (HVt.out.below HR.out); clear HVt; have HVt := HVt'; clear HVt'
        have HVx' := Lib.hid (HVx.out.below HR.out); clear HVx; have HVx := HVx'; clear HVx'
        have HPp' := Lib.hid (HPp.out.below HR.out); clear HPp; have HPp := HPp'; clear HPp'
        have HCc' := Lib.hid (HCc.out.below HR.out); clear HCc; have HCc := HCc'; clear HCc'
        have HVa' := Lib.hid (HVa.out.below HR.out); clear HVa; have HVa := HVa'; clear HVa'
        have HVb' := Lib.hid (HVb.out.below HR.out); clear HVb; have HVb := HVb'; clear HVb'
        have HPq' := Lib.hid (HPq.out.below HR.out); clear HPq; have HPq := HPq'; clear HPq'
        have HKt' := Lib.hid (bx_kept HR.out HKt.out); clear HKt; have HKt := HKt'; clear HKt'
        have HKx' := Lib.hid (bx_kept HR.out HKx.out); clear HKx; have HKx := HKx'; clear HKx'
        have HKa' := Lib.hid (bx_kept HR.out HKa.out); clear HKa; have HKa := HKa'; clear HKa'
        have HKb' := Lib.hid (bx_kept HR.out HKb.out); clear HKb; have HKb := HKb'; clear HKb'
        have HRR' := Lib.hid (Below.step HRR.out HR.out); clear HRR; have HRR := HRR'; clear HRR'
        clear HR
        obtain ⟨HKt0, HKt1, HKt2, HKt3⟩ := blk2 HKt.out
        obtain ⟨HKx0, HKx1, HKx2, HKx3⟩ := blk2 HKx.out
        obtain ⟨HKa0, HKa1, HKa2, HKa3⟩ := blk2 HKa.out
        obtain ⟨HKb0, HKb1, HKb2, HKb3⟩ := blk2 HKb.out
        obtain ⟨HK110, HK111, HK112, HK113⟩ := blk2 HK11.out
        go_wp2_with fail
        refine (r18at_or (c := c) (pc := pc) HVt.out HST.out HPp.out h3 HRC.out).mono ?_
        rintro e wq ⟨dA, dc, dl, dr, rfl, hlq, hbq⟩
        have HR := Lib.hid (Below.step hbq (bx1 wq (.cells #[.slice dA dl.length dc, .int .i64 dr] 24)))
        have hkq := bx_new wq (.cells #[.slice dA dl.length dc, .int .i64 dr] 24)
        have HVd := Lib.hid (hlq.below (bx1 wq (.cells #[.slice dA dl.length dc, .int .i64 dr] 24)))
        clear HKt0 HKt1 HKt2 HKt3 HKx0 HKx1 HKx2 HKx3 HKa0 HKa1 HKa2 HKa3 HKb0 HKb1 HKb2 HKb3 HK110 HK111 HK112 HK113
        go_upto_region 10 with (fail)
        have HZd := Lib.hid (show wq.heap.size < (wq.alloc (.cells #[.slice dA dl.length dc, .int .i64 dr] 24)).heap.size from by simp)
        generalize wq.alloc (.cells #[.slice dA dl.length dc, .int .i64 dr] 24) = W13 at *
        generalize wq.heap.size = p13 at *
        have HK13 := Lib.hid hkq; clear hkq hbq hlq
        have HVt' := Lib.hid (HVt.out.below HR.out); clear HVt; have HVt := HVt'; clear HVt'
        have HVx' := Lib.hid (HVx.out.below HR.out); clear HVx; have HVx := HVx'; clear HVx'
        have HPp' := Lib.hid (HPp.out.below HR.out); clear HPp; have HPp := HPp'; clear HPp'
        have HCc' := Lib.hid (HCc.out.below HR.out); clear HCc; have HCc := HCc'; clear HCc'
        have HVa' := Lib.hid (HVa.out.below HR.out); clear HVa; have HVa := HVa'; clear HVa'
        have HVb' := Lib.hid (HVb.out.below HR.out); clear HVb; have HVb := HVb'; clear HVb'
        have HPq' := Lib.hid (HPq.out.below HR.out); clear HPq; have HPq := HPq'; clear HPq'
        have HVc' := Lib.hid (HVc.out.below HR.out); clear HVc; have HVc := HVc'; clear HVc'
        have HOc' := Lib.hid (HOc.out.below HR.out); clear HOc; have HOc := HOc'; clear HOc'
        have HKt' := Lib.hid (bx_kept HR.out HKt.out); clear HKt; have HKt := HKt'; clear HKt'
        have HKx' := Lib.hid (bx_kept HR.out HKx.out); clear HKx; have HKx := HKx'; clear HKx'
        have HKa' := Lib.hid (bx_kept HR.out HKa.out); clear HKa; have HKa := HKa'; clear HKa'
        have HKb' := Lib.hid (bx_kept HR.out HKb.out); clear HKb; have HKb := HKb'; clear HKb'
        have HK11' := Lib.hid (bx_kept HR.out HK11.out); clear HK11; have HK11 := HK11'; clear HK11'
        have HRR' := Lib.hid (Below.step HRR.out HR.out); clear HRR; have HRR := HRR'; clear HRR'
        have HSc := Lib.hid (show p11 < W13.heap.size from Nat.lt_of_lt_of_le HZc.out HR.out.size)
        clear HR
        obtain ⟨HKt0, HKt1, HKt2, HKt3⟩ := blk2 HKt.out
        obtain ⟨HKx0, HKx1, HKx2, HKx3⟩ := blk2 HKx.out
        obtain ⟨HKa0, HKa1, HKa2, HKa3⟩ := blk2 HKa.out
        obtain ⟨HKb0, HKb1, HKb2, HKb3⟩ := blk2 HKb.out
        obtain ⟨HK110, HK111, HK112, HK113⟩ := blk2 HK11.out
        obtain ⟨HK130, HK131, HK132, HK133⟩ := blk2 HK13.out
        go_wp2_with fail
        refine (put_own (c := ac) (pc := qc) (xc := bc) HVa.out HPq.out HVb.out HST.out HSX.out h3 HCc.out HRP.out).mono ?_
        rintro e wq ⟨eA, ec, el, er, rfl, hoq, hlq, hbq⟩
        have HPe := Lib.hid (show W13.heap.size ≤ wq.heap.size from hbq.size)
        have HR := Lib.hid (Below.step hbq (bx1 wq (.cells #[.slice eA el.length ec, .int .i64 er] 24)))
        have hkq := bx_new wq (.cells #[.slice eA el.length ec, .int .i64 er] 24)
        have HOe := Lib.hid (show TreeOwn (wq.alloc (.cells #[.slice eA el.length ec, .int .i64 er] 24)) (fun b => W13.heap.size ≤ b ∧ b < wq.heap.size) ⟨eA, ec, el, er⟩ from ((hoq.mono (T := fun b => W13.heap.size ≤ b ∧ b < wq.heap.size) (fun b a h => ⟨h, a⟩)).below (bx1 wq _)))
        have HVe := Lib.hid (hlq.below (bx1 wq (.cells #[.slice eA el.length ec, .int .i64 er] 24)))
        clear HKt0 HKt1 HKt2 HKt3 HKx0 HKx1 HKx2 HKx3 HKa0 HKa1 HKa2 HKa3 HKb0 HKb1 HKb2 HKb3 HK110 HK111 HK112 HK113 HK130 HK131 HK132 HK133
        go_upto_region 11 with (fail)
        have HZe := Lib.hid (show wq.heap.size < (wq.alloc (.cells #[.slice eA el.length ec, .int .i64 er] 24)).heap.size from by simp)
        generalize wq.alloc (.cells #[.slice eA el.length ec, .int .i64 er] 24) = W15 at *
        generalize wq.heap.size = p15 at *
        have HK15 := Lib.hid hkq; clear hkq hbq hlq
        clear hoq
        have HVt' := Lib.hid (HVt.out.below HR.out); clear HVt; have HVt := HVt'; clear HVt'
        have HVx' := Lib.hid (HVx.out.below HR.out); clear HVx; have HVx := HVx'; clear HVx'
        have HPp' := Lib.hid (HPp.out.below HR.out); clear HPp; have HPp := HPp'; clear HPp'
        have HCc' := Lib.hid (HCc.out.below HR.out); clear HCc; have HCc := HCc'; clear HCc'
        have HVa' := Lib.hid (HVa.out.below HR.out); clear HVa; have HVa := HVa'; clear HVa'
        have HVb' := Lib.hid (HVb.out.below HR.out); clear HVb; have HVb := HVb'; clear HVb'
        have HPq' := Lib.hid (HPq.out.below HR.out); clear HPq; have HPq := HPq'; clear HPq'
        have HVc' := Lib.hid (HVc.out.below HR.out); clear HVc; have HVc := HVc'; clear HVc'
        have HOc' := Lib.hid (HOc.out.below HR.out); clear HOc; have HOc := HOc'; clear HOc'
        have HVd' := Lib.hid (HVd.out.below HR.out); clear HVd; have HVd := HVd'; clear HVd'
        have HKt' := Lib.hid (bx_kept HR.out HKt.out); clear HKt; have HKt := HKt'; clear HKt'
        have HKx' := Lib.hid (bx_kept HR.out HKx.out); clear HKx; have HKx := HKx'; clear HKx'
        have HKa' := Lib.hid (bx_kept HR.out HKa.out); clear HKa; have HKa := HKa'; clear HKa'
        have HKb' := Lib.hid (bx_kept HR.out HKb.out); clear HKb; have HKb := HKb'; clear HKb'
        have HK11' := Lib.hid (bx_kept HR.out HK11.out); clear HK11; have HK11 := HK11'; clear HK11'
        have HK13' := Lib.hid (bx_kept HR.out HK13.out); clear HK13; have HK13 := HK13'; clear HK13'
        have HRR' := Lib.hid (Below.step HRR.out HR.out); clear HRR; have HRR := HRR'; clear HRR'
        clear HR
        obtain ⟨HKt0, HKt1, HKt2, HKt3⟩ := blk2 HKt.out
        obtain ⟨HKx0, HKx1, HKx2, HKx3⟩ := blk2 HKx.out
        obtain ⟨HKa0, HKa1, HKa2, HKa3⟩ := blk2 HKa.out
        obtain ⟨HKb0, HKb1, HKb2, HKb3⟩ := blk2 HKb.out
        obtain ⟨HK110, HK111, HK112, HK113⟩ := blk2 HK11.out
        obtain ⟨HK130, HK131, HK132, HK133⟩ := blk2 HK13.out
        obtain ⟨HK150, HK151, HK152, HK153⟩ := blk2 HK15.out
        go_wp2_with fail
        refine (r18put_or (c := c) (pc := pc) (xc := xc) HVt.out HST.out HPp.out h3 hpc.1 HVx.out HSX.out HRP.out).mono ?_
        rintro e wq ⟨fA, fc, fl, fr, rfl, hlq, hbq⟩
        have HR := Lib.hid (Below.step hbq (bx1 wq (.cells #[.slice fA fl.length fc, .int .i64 fr] 24)))
        have hkq := bx_new wq (.cells #[.slice fA fl.length fc, .int .i64 fr] 24)
        have HVf := Lib.hid (hlq.below (bx1 wq (.cells #[.slice fA fl.length fc, .int .i64 fr] 24)))
        clear HKt0 HKt1 HKt2 HKt3 HKx0 HKx1 HKx2 HKx3 HKa0 HKa1 HKa2 HKa3 HKb0 HKb1 HKb2 HKb3 HK110 HK111 HK112 HK113 HK130 HK131 HK132 HK133 HK150 HK151 HK152 HK153
        go_upto_region 12 with (fail)
        have HZf := Lib.hid (show wq.heap.size < (wq.alloc (.cells #[.slice fA fl.length fc, .int .i64 fr] 24)).heap.size from by simp)
        generalize wq.alloc (.cells #[.slice fA fl.length fc, .int .i64 fr] 24) = W17 at *
        generalize wq.heap.size = p17 at *
        have HK17 := Lib.hid hkq; clear hkq hbq hlq
        have HVt' := Lib.hid (HVt.out.below HR.out); clear HVt; have HVt := HVt'; clear HVt'
        have HVx' := Lib.hid (HVx.out.below HR.out); clear HVx; have HVx := HVx'; clear HVx'
        have HPp' := Lib.hid (HPp.out.below HR.out); clear HPp; have HPp := HPp'; clear HPp'
        have HCc' := Lib.hid (HCc.out.below HR.out); clear HCc; have HCc := HCc'; clear HCc'
        have HVa' := Lib.hid (HVa.out.below HR.out); clear HVa; have HVa := HVa'; clear HVa'
        have HVb' := Lib.hid (HVb.out.below HR.out); clear HVb; have HVb := HVb'; clear HVb'
        have HPq' := Lib.hid (HPq.out.below HR.out); clear HPq; have HPq := HPq'; clear HPq'
        have HVc' := Lib.hid (HVc.out.below HR.out); clear HVc; have HVc := HVc'; clear HVc'
        have HOc' := Lib.hid (HOc.out.below HR.out); clear HOc; have HOc := HOc'; clear HOc'
        have HVd' := Lib.hid (HVd.out.below HR.out); clear HVd; have HVd := HVd'; clear HVd'
        have HVe' := Lib.hid (HVe.out.below HR.out); clear HVe; have HVe := HVe'; clear HVe'
        have HOe' := Lib.hid (HOe.out.below HR.out); clear HOe; have HOe := HOe'; clear HOe'
        have HKt' := Lib.hid (bx_kept HR.out HKt.out); clear HKt; have HKt := HKt'; clear HKt'
        have HKx' := Lib.hid (bx_kept HR.out HKx.out); clear HKx; have HKx := HKx'; clear HKx'
        have HKa' := Lib.hid (bx_kept HR.out HKa.out); clear HKa; have HKa := HKa'; clear HKa'
        have HKb' := Lib.hid (bx_kept HR.out HKb.out); clear HKb; have HKb := HKb'; clear HKb'
        have HK11' := Lib.hid (bx_kept HR.out HK11.out); clear HK11; have HK11 := HK11'; clear HK11'
        have HK13' := Lib.hid (bx_kept HR.out HK13.out); clear HK13; have HK13 := HK13'; clear HK13'
        have HK15' := Lib.hid (bx_kept HR.out HK15.out); clear HK15; have HK15 := HK15'; clear HK15'
        have HRR' := Lib.hid (Below.step HRR.out HR.out); clear HRR; have HRR := HRR'; clear HRR'
        clear HR
        have HSC := Lib.hid (small_c HRC.out HST.out)
        have HSP := Lib.hid (small_p HRP.out HST.out HSX.out)
        have HCL := Lib.hid (small_lies HVc.out HSC.out)
        have HEL := Lib.hid (small_lies HVe.out HSP.out)
        clear HRC HRP HSC HSP
        generalize Rc.getD ⟨[], 0⟩ = Tc at *
        generalize Rp.getD ⟨[], 0⟩ = Tp at *
        generalize Rc.isSome = bc' at *
        generalize Rp.isSome = bp' at *
        obtain ⟨HKt0, HKt1, HKt2, HKt3⟩ := blk2 HKt.out
        obtain ⟨HKx0, HKx1, HKx2, HKx3⟩ := blk2 HKx.out
        obtain ⟨HKa0, HKa1, HKa2, HKa3⟩ := blk2 HKa.out
        obtain ⟨HKb0, HKb1, HKb2, HKb3⟩ := blk2 HKb.out
        obtain ⟨HK110, HK111, HK112, HK113⟩ := blk2 HK11.out
        obtain ⟨HK130, HK131, HK132, HK133⟩ := blk2 HK13.out
        obtain ⟨HK150, HK151, HK152, HK153⟩ := blk2 HK15.out
        obtain ⟨HK170, HK171, HK172, HK173⟩ := blk2 HK17.out
        go_wp2_with fail
        refine (exact_lies HVc.out HVd.out (by have := HCL.out.1; omega)).mono ?_
        rintro e w18 ⟨rfl, hbq⟩
        have HR := Lib.hid hbq; clear hbq
        clear HKt0 HKt1 HKt2 HKt3 HKx0 HKx1 HKx2 HKx3 HKa0 HKa1 HKa2 HKa3 HKb0 HKb1 HKb2 HKb3 HK110 HK111 HK112 HK113 HK130 HK131 HK132 HK133 HK150 HK151 HK152 HK153 HK170 HK171 HK172 HK173
        have HVt' := Lib.hid (HVt.out.below HR.out); clear HVt; have HVt := HVt'; clear HVt'
        have HVx' := Lib.hid (HVx.out.below HR.out); clear HVx; have HVx := HVx'; clear HVx'
        have HPp' := Lib.hid (HPp.out.below HR.out); clear HPp; have HPp := HPp'; clear HPp'
        have HCc' := Lib.hid (HCc.out.below HR.out); clear HCc; have HCc := HCc'; clear HCc'
        have HVa' := Lib.hid (HVa.out.below HR.out); clear HVa; have HVa := HVa'; clear HVa'
        have HVb' := Lib.hid (HVb.out.below HR.out); clear HVb; have HVb := HVb'; clear HVb'
        have HPq' := Lib.hid (HPq.out.below HR.out); clear HPq; have HPq := HPq'; clear HPq'
        have HVc' := Lib.hid (HVc.out.below HR.out); clear HVc; have HVc := HVc'; clear HVc'
        have HOc' := Lib.hid (HOc.out.below HR.out); clear HOc; have HOc := HOc'; clear HOc'
        have HVd' := Lib.hid (HVd.out.below HR.out); clear HVd; have HVd := HVd'; clear HVd'
        have HVe' := Lib.hid (HVe.out.below HR.out); clear HVe; have HVe := HVe'; clear HVe'
        have HOe' := Lib.hid (HOe.out.below HR.out); clear HOe; have HOe := HOe'; clear HOe'
        have HVf' := Lib.hid (HVf.out.below HR.out); clear HVf; have HVf := HVf'; clear HVf'
        have HKt' := Lib.hid (bx_kept HR.out HKt.out); clear HKt; have HKt := HKt'; clear HKt'
        have HKx' := Lib.hid (bx_kept HR.out HKx.out); clear HKx; have HKx := HKx'; clear HKx'
        have HKa' := Lib.hid (bx_kept HR.out HKa.out); clear HKa; have HKa := HKa'; clear HKa'
        have HKb' := Lib.hid (bx_kept HR.out HKb.out); clear HKb; have HKb := HKb'; clear HKb'
        have HK11' := Lib.hid (bx_kept HR.out HK11.out); clear HK11; have HK11 := HK11'; clear HK11'
        have HK13' := Lib.hid (bx_kept HR.out HK13.out); clear HK13; have HK13 := HK13'; clear HK13'
        have HK15' := Lib.hid (bx_kept HR.out HK15.out); clear HK15; have HK15 := HK15'; clear HK15'
        have HK17' := Lib.hid (bx_kept HR.out HK17.out); clear HK17; have HK17 := HK17'; clear HK17'
        have HRR' := Lib.hid (Below.step HRR.out HR.out); clear HRR; have HRR := HRR'; clear HRR' HR
        obtain ⟨HKt0, HKt1, HKt2, HKt3⟩ := blk2 HKt.out
        obtain ⟨HKx0, HKx1, HKx2, HKx3⟩ := blk2 HKx.out
        obtain ⟨HKa0, HKa1, HKa2, HKa3⟩ := blk2 HKa.out
        obtain ⟨HKb0, HKb1, HKb2, HKb3⟩ := blk2 HKb.out
        obtain ⟨HK110, HK111, HK112, HK113⟩ := blk2 HK11.out
        obtain ⟨HK130, HK131, HK132, HK133⟩ := blk2 HK13.out
        obtain ⟨HK150, HK151, HK152, HK153⟩ := blk2 HK15.out
        obtain ⟨HK170, HK171, HK172, HK173⟩ := blk2 HK17.out
        go_wp2_with fail
        refine (exact_lies HVe.out HVf.out (by have := HEL.out.1; omega)).mono ?_
        rintro e w19 ⟨rfl, hbq⟩
        have HR := Lib.hid hbq; clear hbq
        clear HKt0 HKt1 HKt2 HKt3 HKx0 HKx1 HKx2 HKx3 HKa0 HKa1 HKa2 HKa3 HKb0 HKb1 HKb2 HKb3 HK110 HK111 HK112 HK113 HK130 HK131 HK132 HK133 HK150 HK151 HK152 HK153 HK170 HK171 HK172 HK173
        have HVt' := Lib.hid (HVt.out.below HR.out); clear HVt; have HVt := HVt'; clear HVt'
        have HVx' := Lib.hid (HVx.out.below HR.out); clear HVx; have HVx := HVx'; clear HVx'
        have HPp' := Lib.hid (HPp.out.below HR.out); clear HPp; have HPp := HPp'; clear HPp'
        have HCc' := Lib.hid (HCc.out.below HR.out); clear HCc; have HCc := HCc'; clear HCc'
        have HVa' := Lib.hid (HVa.out.below HR.out); clear HVa; have HVa := HVa'; clear HVa'
        have HVb' := Lib.hid (HVb.out.below HR.out); clear HVb; have HVb := HVb'; clear HVb'
        have HPq' := Lib.hid (HPq.out.below HR.out); clear HPq; have HPq := HPq'; clear HPq'
        have HVc' := Lib.hid (HVc.out.below HR.out); clear HVc; have HVc := HVc'; clear HVc'
        have HOc' := Lib.hid (HOc.out.below HR.out); clear HOc; have HOc := HOc'; clear HOc'
        have HVd' := Lib.hid (HVd.out.below HR.out); clear HVd; have HVd := HVd'; clear HVd'
        have HVe' := Lib.hid (HVe.out.below HR.out); clear HVe; have HVe := HVe'; clear HVe'
        have HOe' := Lib.hid (HOe.out.below HR.out); clear HOe; have HOe := HOe'; clear HOe'
        have HVf' := Lib.hid (HVf.out.below HR.out); clear HVf; have HVf := HVf'; clear HVf'
        have HKt' := Lib.hid (bx_kept HR.out HKt.out); clear HKt; have HKt := HKt'; clear HKt'
        have HKx' := Lib.hid (bx_kept HR.out HKx.out); clear HKx; have HKx := HKx'; clear HKx'
        have HKa' := Lib.hid (bx_kept HR.out HKa.out); clear HKa; have HKa := HKa'; clear HKa'
        have HKb' := Lib.hid (bx_kept HR.out HKb.out); clear HKb; have HKb := HKb'; clear HKb'
        have HK11' := Lib.hid (bx_kept HR.out HK11.out); clear HK11; have HK11 := HK11'; clear HK11'
        have HK13' := Lib.hid (bx_kept HR.out HK13.out); clear HK13; have HK13 := HK13'; clear HK13'
        have HK15' := Lib.hid (bx_kept HR.out HK15.out); clear HK15; have HK15 := HK15'; clear HK15'
        have HK17' := Lib.hid (bx_kept HR.out HK17.out); clear HK17; have HK17 := HK17'; clear HK17'
        have HRR' := Lib.hid (Below.step HRR.out HR.out); clear HRR; have HRR := HRR'; clear HRR' HR
        obtain ⟨HK110, HK111, _, _⟩ := blk2 HK11.out
        go_wp2_with fail
        refine (spoil18_any ⟨cA, cc, cl, cr⟩ _ w19 HOc.out (by have := HCL.out.1; show cl.length ≤ _; omega) (fun l hl => by have := HCL.out.2 l hl; omega)).mono ?_
        rintro e w20 ⟨rfl, hsp⟩
        have HSPC := Lib.hid hsp; clear hsp HK110 HK111
        have hlt15 := (Array.getElem?_eq_some_iff.1 HK15.out).1
        have HK15' := Lib.hid ((HSPC.out.block p15 hlt15 (fun hq => by have h1 := hq.2; have h2 := HSc.out; have h3 := HPe.out; omega)).trans HK15.out)
        have HOe' := Lib.hid (HOe.out.agree (fun y hy hyl => HSPC.out.block y hyl (fun hq => by have h1 := hq.2; have h2 := HSc.out; have h3 := hy.1; omega)))
        have HQ1 := Lib.hid (spoilt_below (B := wr.heap.size) HSPC.out (fun b hq => hq.1) HRR.out.size)
        obtain ⟨z0, z1, _, _⟩ := blk2 HK15'.out
        go_wp2_with fail
        refine (spoil18_any ⟨eA, ec, el, er⟩ _ w20 HOe'.out (by have := HEL.out.1; show el.length ≤ _; omega) (fun l hl => by have := HEL.out.2 l hl; omega)).mono ?_
        rintro e w21 ⟨rfl, hsp⟩
        have HQ2 := Lib.hid (spoilt_below (B := wr.heap.size) hsp (fun b hq => by have h1 := hq.1; have h2 := HSc.out; have h3 := HPc.out; omega) (Nat.le_trans HRR.out.size HQ1.out.size))
        clear hsp z0 z1
        have HFI := Lib.hid (Below.step HR0.out (HRR.out.trans (HQ1.out.trans HQ2.out)))
        go_wp2_with fail
        exact ⟨⟨k + 1, by omega, by go_num, HFI⟩, by simp only [intOf]; omega⟩
      · have hke : k = 2 := by omega
        subst hke
        have HB2 := Lib.hid (Below.step HB.out HR0.out)
        go_wp2_with fail
        go_loopw [19] (fun v19 wx => ∃ j : Nat, j ≤ p.length ∧ v19 = .int .i64 j ∧ Hid (Below wr.heap.size wr wx)) (fun v19 _ => p.length - (intOf v19).toNat)
        case atStart => exact ⟨0, Nat.zero_le _, rfl, Lib.hid (Below.refl _ _)⟩
        case round =>
          obtain ⟨j, hj, rfl, HRJ⟩ := hrel
          by_cases hj1 : j < p.length
          · have i1 : (j : Int) < (p.length : Int) := by omega
            have i2 : (0 : Int) ≤ (j : Int) := by omega
            obtain ⟨b1, o1, hA1, _, hb1, y0⟩ := intRow (HPq.out.below HRJ.out) j hj1
            obtain ⟨b2, o2, hA2, _, hb2, y1⟩ := intRow (HPp.out.below HRJ.out) j hj1
            subst hA1 hA2
            generalize p[j] = pj at *
            as_aux_lemma =>
              go_wp2_with fail
              go_quiet (fail)
              go_wp2_with fail
              exact ⟨⟨j + 1, hj1, by go_num, Lib.hid (HRJ.out.trans (drewN_below' (Below.refl _ _) _))⟩, by simp only [intOf]; omega⟩
          · have hje : j = p.length := by omega
            subst hje
            have i3 : ¬ (p.length : Int) < (p.length : Int) := by omega
            have HVt' := Lib.hid (HVt.out.below HRJ.out); clear HVt; have HVt := HVt'; clear HVt'
            have HVx' := Lib.hid (HVx.out.below HRJ.out); clear HVx; have HVx := HVx'; clear HVx'
            have HPp' := Lib.hid (HPp.out.below HRJ.out); clear HPp; have HPp := HPp'; clear HPp'
            have HCc' := Lib.hid (HCc.out.below HRJ.out); clear HCc; have HCc := HCc'; clear HCc'
            have HVa' := Lib.hid (HVa.out.below HRJ.out); clear HVa; have HVa := HVa'; clear HVa'
            have HVb' := Lib.hid (HVb.out.below HRJ.out); clear HVb; have HVb := HVb'; clear HVb'
            have HPq' := Lib.hid (HPq.out.below HRJ.out); clear HPq; have HPq := HPq'; clear HPq'
            have HKt' := Lib.hid (bx_kept HRJ.out HKt.out); clear HKt; have HKt := HKt'; clear HKt'
            have HKx' := Lib.hid (bx_kept HRJ.out HKx.out); clear HKx; have HKx := HKx'; clear HKx'
            have HKa' := Lib.hid (bx_kept HRJ.out HKa.out); clear HKa; have HKa := HKa'; clear HKa'
            have HKb' := Lib.hid (bx_kept HRJ.out HKb.out); clear HKb; have HKb := HKb'; clear HKb'
            have HB3 := Lib.hid (Below.step HB2.out HRJ.out)
            obtain ⟨HKt0, HKt1, HKt2, HKt3⟩ := blk2 HKt.out
            obtain ⟨HKx0, HKx1, HKx2, HKx3⟩ := blk2 HKx.out
            obtain ⟨HKa0, HKa1, HKa2, HKa3⟩ := blk2 HKa.out
            obtain ⟨HKb0, HKb1, HKb2, HKb3⟩ := blk2 HKb.out
            go_wp2_with fail
            refine (exact_lies HVa.out HVt.out (by have h := HVa.out.len; have h5 := HST.out.1; omega)).mono ?_
            rintro e w30 ⟨rfl, hbq⟩
            have HR := Lib.hid hbq; clear hbq
            clear HKt0 HKt1 HKt2 HKt3 HKx0 HKx1 HKx2 HKx3 HKa0 HKa1 HKa2 HKa3 HKb0 HKb1 HKb2 HKb3
            have HVt' := Lib.hid (HVt.out.below HR.out); clear HVt; have HVt := HVt'; clear HVt'
            have HVx' := Lib.hid (HVx.out.below HR.out); clear HVx; have HVx := HVx'; clear HVx'
            have HPp' := Lib.hid (HPp.out.below HR.out); clear HPp; have HPp := HPp'; clear HPp'
            have HCc' := Lib.hid (HCc.out.below HR.out); clear HCc; have HCc := HCc'; clear HCc'
            have HVa' := Lib.hid (HVa.out.below HR.out); clear HVa; have HVa := HVa'; clear HVa'
            have HVb' := Lib.hid (HVb.out.below HR.out); clear HVb; have HVb := HVb'; clear HVb'
            have HPq' := Lib.hid (HPq.out.below HR.out); clear HPq; have HPq := HPq'; clear HPq'
            have HKt' := Lib.hid (bx_kept HR.out HKt.out); clear HKt; have HKt := HKt'; clear HKt'
            have HKx' := Lib.hid (bx_kept HR.out HKx.out); clear HKx; have HKx := HKx'; clear HKx'
            have HKa' := Lib.hid (bx_kept HR.out HKa.out); clear HKa; have HKa := HKa'; clear HKa'
            have HKb' := Lib.hid (bx_kept HR.out HKb.out); clear HKb; have HKb := HKb'; clear HKb'
            have HB4 := Lib.hid (Below.step HB3.out HR.out); clear HR
            obtain ⟨HKt0, HKt1, HKt2, HKt3⟩ := blk2 HKt.out
            obtain ⟨HKx0, HKx1, HKx2, HKx3⟩ := blk2 HKx.out
            obtain ⟨HKa0, HKa1, HKa2, HKa3⟩ := blk2 HKa.out
            obtain ⟨HKb0, HKb1, HKb2, HKb3⟩ := blk2 HKb.out
            go_wp2_with fail
            refine (exact_lies HVb.out HVx.out (by have h := HVb.out.len; have h5 := HSX.out.1; omega)).mono ?_
            rintro e w31 ⟨rfl, hbq⟩
            have HC5 := Lib.hid (HCc.out.below hbq); have HB5 := Lib.hid (Below.step HB4.out hbq); clear hbq
            clear HKt0 HKt1 HKt2 HKt3 HKx0 HKx1 HKx2 HKx3 HKa0 HKa1 HKa2 HKa3 HKb0 HKb1 HKb2 HKb3
            go_wp2_with fail
            refine (works18_any w31 HC5.out).mono ?_
            rintro e w32 ⟨rfl, hbq⟩
            have HB6 := Lib.hid (Below.step HB5.out hbq); clear hbq
            go_wp2_with fail
            go_ret
            exact ⟨rfl, HB6.out⟩
end Go.Proofs.YtfncfmiccomgcaaDoor
