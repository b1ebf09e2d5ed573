/- A range over an iterator that lays memory of its own between its rounds and runs loops of its own: the body keeps that memory. -/
import Derived.Test.YtmjkgnknfgoadaaGreatDoorPn
import Derived.RangeFuncWrites
import Derived.RangeFuncLeaves
import Derived.RangeFuncBox
import Derived.RangeFuncCalls
import Derived.RangeFuncBound
import Derived.RangeFuncFrom
import Derived.Test.YtmjkgnknfgoadaaGreatDoorWe
import Derived.Test.YtmjkgnknfgoadaaGreatDoorAi
import Derived.Deep.RegionLaw
import Derived.Deep.RegionLawGrows
import Derived.Deep.DeepCutAuto
import Derived.Deep.Cut
import Derived.Deep.CutRange
namespace Go.Proofs.YtmjkgnknfgoadaaGreatDoor
open Go.RowKit
set_option linter.unusedSimpArgs false
set_option linter.unusedVariables false

section
variable {F : Fence} {n : Nat} {P : Program}
/-- An iterator's step: new blocks; of what lay, nothing that is cells and nothing below B is changed. -/
structure Stp (B : Nat) (X Y : World) : Prop where
  os : Y.os = X.os
  tape : Y.tape = X.tape
  output : Y.output = X.output
  size : X.heap.size ≤ Y.heap.size
  block : ∀ k, k < X.heap.size → (B ≤ k ∧ ∃ o, X.heap[k]? = some o ∧ o.isCells = false) ∨ Y.heap[k]? = X.heap[k]?
theorem Stp.mono {B B' : Nat} {X Y : World} (h : Stp B X Y) (hb : B' ≤ B) : Stp B' X Y :=
  ⟨h.os, h.tape, h.output, h.size, fun k hk => (h.block k hk).imp (fun ⟨h1, h2⟩ => ⟨Nat.le_trans hb h1, h2⟩) id⟩
theorem Stp.refl (B : Nat) (X : World) : Stp B X X := ⟨rfl, rfl, rfl, Nat.le_refl _, fun _ _ => .inr rfl⟩
theorem Stp.of_below {B : Nat} {X Y : World} (h : Below X.heap.size X Y) : Stp B X Y := ⟨h.os, h.tape, h.output, h.size, fun k hk => .inr (h.block k hk)⟩
theorem Stp.put {B : Nat} {X : World} {l : Nat} {o : Obj} (o' : Obj) (hl : B ≤ l) (h : X.heap[l]? = some o) (hc : o.isCells = false) : Stp B X (X.putObj l o') :=
  ⟨rfl, rfl, rfl, by simp, fun k hk => by
    by_cases e : k = l
    · subst e; exact .inl ⟨hl, o, h, hc⟩
    · exact .inr (World.putObj_heap_other e)⟩
theorem Stp.cells {B : Nat} {X Y : World} (h : Stp B X Y) {k : Nat} {o : Obj} (hk : X.heap[k]? = some o) (hc : o.isCells = true) : Y.heap[k]? = some o := by
  rcases h.block k (Array.getElem?_eq_some_iff.1 hk).1 with ⟨_, o', ho', hc'⟩ | e
  · rw [hk] at ho'; cases ho'; rw [hc] at hc'; cases hc'
  · exact e.trans hk
theorem Stp.low {B : Nat} {X Y : World} (h : Stp B X Y) {k : Nat} (hk : k < X.heap.size) (hb : k < B) : Y.heap[k]? = X.heap[k]? := by
  rcases h.block k hk with ⟨h1, _⟩ | e
  · omega
  · exact e
/-- These blocks, and those that are new. -/
def addK (K : Nat → Prop) (X Y : World) : Nat → Prop := fun k => K k ∨ (X.heap.size ≤ k ∧ k < Y.heap.size)
theorem addK_same {K : Nat → Prop} {X Y : World} (h : Y.heap.size = X.heap.size) : addK K X Y = K := by
  funext k
  simp only [addK, eq_iff_iff]
  constructor
  · rintro (hk | hk)
    · exact hk
    · omega
  · exact Or.inl
def KeepK (K : Nat → Prop) (X Y : World) : Prop := ∀ k, K k → Y.heap[k]? = X.heap[k]?
theorem room_of_none {F : Fence} (hd : F.depth = none) (k : Nat) : F.room k := fun d h => by rw [hd] at h; cases h
theorem RoundIn.anyDepth {F : Fence} (hd : F.depth = none) {m m' : Nat} {P : Program} {l : Nat} {f : FuncId} {tmps : Array Value} {assign body : Code} {w : World} {R : Ending → World → Prop}
    (h : RoundIn F m P l f tmps assign body w R) : RoundIn F m' P l f tmps assign body w R := ⟨h.1, fun c cs _ => h.2 c cs (room_of_none hd _)⟩
theorem YieldAt.anyDepth {F : Fence} (hd : F.depth = none) {m : Nat} (m' : Nat) {P : Program} {l : Nat} {args : Array Value} {W : World} {R : Ending → World → Prop} (h : YieldAt F m P l args W R) : YieldAt F m' P l args W R := by
  obtain ⟨fn, tmps, assign, body, hy, hR⟩ := h
  exact ⟨fn, tmps, assign, body, hy, RoundIn.anyDepth hd hR⟩
theorem YieldAt.inRound {l' m l : Nat} {args : Array Value} {W : World} {R : Ending → World → Prop} (h : YieldAt F m P l args W R) : YieldAt (F.inRound l') m P l args W R := h
/-- The iterator's contract. At: what it says of an element; Kn: the blocks that it wants kept from its start on; K: those that are to be kept now; n₀: what lies below is kept, too. -/
def SeqK {α : Type} (F : Fence) (n : Nat) (P : Program) (g : Nat) (lb : Array Value) (encs : α → Array Value) (At : (Nat → Prop) → α → World → Prop) (n₀ : Nat) (Kn : Nat → Prop) (N : Nat) (S : List α → Prop) (w0 : World) : Prop :=
  ∀ (l : Nat) (J Jx : (Nat → Prop) → List α → World → Prop) (K0 : Nat → Prop) (W : World), Below w0.heap.size w0 W → (∀ k, Kn k → K0 k) →
    (∀ K s X Y, J K s X → Stp W.heap.size X Y → J (addK K X Y) s Y) → (∀ K s X Y, Jx K s X → Stp W.heap.size X Y → Jx (addK K X Y) s Y) →
    (∀ K pre x W1, J K pre W1 → At K x W1 → pre.length < N → YieldAt F (n - 1) P l (encs x) W1 fun e W' =>
      (e = .returned (.bool true) ∧ J K (pre ++ [x]) W' ∧ KeepK K W1 W' ∧ KeepsFrom W.heap.size W1 W' ∧ Below n₀ W1 W') ∨ (e = .returned (.bool false) ∧ Jx K (pre ++ [x]) W' ∧ KeepsFrom W.heap.size W1 W')) →
    J K0 [] W →
    CallsIn F n P g (#[.func (.yield l) #[] #[]] ++ lb) W fun e W' => (∃ v, e = .returned v) ∧ ((∃ K xs, S xs ∧ J K xs W') ∨ (∃ K pre, Jx K pre W'))

/-- How the body of a round may be left. -/
def kPost {α : Type} (B n₀ : Nat) (I : (Nat → Prop) → List α → World → Prop) (Ix : Code → (Nat → Prop) → List α → World → Prop) (K : Nat → Prop) (xs : List α) (W : World) : Exit → Act → World → Prop
  | .normal, _, W' => KeepsFrom B W W' ∧ KeepK K W W' ∧ Below n₀ W W' ∧ I K xs W'
  | .ret, _, W' => KeepsFrom B W W' ∧ Ix .ret K xs W'
  | .exit id, _, W' => KeepsFrom B W W' ∧ Ix (.exit id) K xs W'
  | .goto t, _, W' => KeepsFrom B W W' ∧ Ix (.goto t) K xs W'
  | .panic _, _, _ => False
  | .outgrown, _, _ => False

theorem wpIn_rangeFunc_K {α : Type} {g : Operand} {ps : Array Tmp} {assign body : Code} {Q : Exit → Act → World → Prop} {a : Act} {w : World}
    (hro : F.round = none) (h1 : 1 ≤ n) {gf : Nat} {lb : Array Value} (hg : a.eval g = .func (.func gf) #[] lb) (hFg : F.fn gf) (eg : ∀ args w, (callFunc gf args).run P w = .ok (.enter gf args) w)
    {encs : α → Array Value} {At : (Nat → Prop) → α → World → Prop} {n₀ : Nat} {Kn : Nat → Prop} {N : Nat} {S : List α → Prop} (hseq : SeqK F (n - 1) P gf lb encs At n₀ Kn N S w) (hn₀ : n₀ ≤ w.heap.size) (hps : ∀ x, (encs x).size = ps.size)
    (hAt : ∀ K x X l o o', At K x X → X.heap[l]? = some o → o.isCells = false → At K x (X.putObj l o'))
    (I : (Nat → Prop) → List α → World → Prop) (Ix : Code → (Nat → Prop) → List α → World → Prop)
    (hI : ∀ K s X Y, I K s X → Stp w.heap.size X Y → I (addK K X Y) s Y) (hIx : ∀ c K s X Y, Ix c K s X → Stp w.heap.size X Y → Ix c (addK K X Y) s Y)
    (K0 : Nat → Prop) (hK0 : ∀ k, Kn k → K0 k) (h0 : I K0 [] w) (a₁ : α → Act)
    (hassign : ∀ (l : Nat) (x : α) (W : World) (K : Act → World → Prop), K (a₁ x) W →
      assign.wpIn (F.inRound l) (n - 1 - 1) P (Exit.then K (fun _ _ _ => False)) { tmps := (ps.zip (encs x)).foldl (fun t (p, v) => t.setIfInBounds p v) a.tmps, defers := [] } W)
    (hbody : ∀ (l : Nat) (K : Nat → Prop) (pre : List α) (x : α) (W : World), w.heap.size ≤ l → I K pre W → At K x W → pre.length < N → body.wpIn (F.inRound l) (n - 1 - 1) P (kPost w.heap.size n₀ I Ix K (pre ++ [x]) W) (a₁ x) W)
    (hdone : ∀ (D : Nat) (K : Nat → Prop) (xs : List α) (W : World), w.heap.size ≤ D → S xs → I K xs W → W.heap[D]? = some (.deferred (some [])) → Q .normal { a with defers := { target := .collected D, args := #[] } :: a.defers } W)
    (hstop : ∀ (D : Nat) (c : Code) (K : Nat → Prop) (pre : List α) (W : World), w.heap.size ≤ D → Ix c K pre W → W.heap[D]? = some (.deferred (some [])) → c.wpIn F n P Q { a with defers := { target := .collected D, args := #[] } :: a.defers } W) :
    (Code.rangeFunc g ps assign body).wpIn F n P Q a w := by
  refine wpIn_rangeFunc ?_
  intro fn hfn
  rw [hro]
  obtain ⟨rec, hrec⟩ : ∃ rec : LoopState → Option Code → Loop, rec = fun st pe => { state := st, pending := pe, fn, tmps := a.tmps, params := ps, assign, body, defers := w.heap.size } := ⟨_, rfl⟩
  obtain ⟨W1, hW1⟩ : ∃ W1, (w.alloc (.deferred (some []))).alloc (.loop (rec .ready none)) = W1 := ⟨_, rfl⟩
  have hL1 : W1.heap[w.heap.size + 1]? = some (.loop (rec .ready none)) := by
    rw [← hW1]; have := World.alloc_heap_new (w.alloc (.deferred (some []))) (.loop (rec .ready none)); rwa [World.size_alloc] at this
  have hK1 : W1.heap[w.heap.size]? = some (.deferred (some [])) := by
    rw [← hW1]; exact (Below.heap_alloc _ _ _ (by simp)).trans (World.alloc_heap_new w _)
  have hb1 : Below w.heap.size w W1 := by rw [← hW1]; exact ((Below.refl _ w).alloc (Nat.le_refl _) _).alloc (by simp) _
  have hz1 : W1.heap.size = w.heap.size + 2 := by rw [← hW1]; simp
  have hI1 : I (addK K0 w W1) [] W1 := hI _ _ _ _ h0 (Stp.of_below hb1)
  have hlt : ∀ {W : World} {st : LoopState} {pe : Option Code}, W.heap[w.heap.size + 1]? = some (.loop (rec st pe)) → w.heap.size + 1 < W.heap.size := fun hl => (Array.getElem?_eq_some_iff.1 hl).1
  have hIp : ∀ {K : Nat → Prop} {s : List α} {X : World} {o : Obj} (o' : Obj), I K s X → X.heap[w.heap.size + 1]? = some o → o.isCells = false → I K s (X.putObj (w.heap.size + 1) o') := fun {K s X o} o' hi ho hc => by
    have := hI K s X (X.putObj (w.heap.size + 1) o') hi (Stp.put o' (by omega) ho hc)
    rwa [addK_same (by simp)] at this
  have hIxp : ∀ {c : Code} {K : Nat → Prop} {s : List α} {X : World} {o : Obj} (o' : Obj), Ix c K s X → X.heap[w.heap.size + 1]? = some o → o.isCells = false → Ix c K s (X.putObj (w.heap.size + 1) o') := fun {c K s X o} o' hi ho hc => by
    have := hIx c K s X (X.putObj (w.heap.size + 1) o') hi (Stp.put o' (by omega) ho hc)
    rwa [addK_same (by simp)] at this
  refine ⟨w.heap.size + 1, [{ target := .collected w.heap.size, args := #[] }], W1, { target := .fn (.func gf) lb, args := #[.func (.yield (w.heap.size + 1)) #[] #[]] }, W1, gf,
    #[.func (.yield (w.heap.size + 1)) #[] #[]] ++ lb, W1, ?_, ?_, ?_, ?_, fun _ => h1, ?_⟩
  · rw [← hW1, hrec]; exact run_enterLoop_outer _ _ _ _ _
  · simp only [resolve, hg]
    simp [go_sem]
  · intro f' hf'; simp [Target.leads] at hf'; subst hf'; exact hFg
  · simp [invoke, go_sem, eg]
  · refine (hseq (w.heap.size + 1)
      (fun K pre W => I K pre W ∧ W.heap[w.heap.size + 1]? = some (.loop (rec .ready none)) ∧ W.heap[w.heap.size]? = some (.deferred (some [])))
      (fun K pre W => ∃ c, Ix c K pre W ∧ W.heap[w.heap.size + 1]? = some (.loop (rec .done (some c))) ∧ W.heap[w.heap.size]? = some (.deferred (some [])))
      (addK K0 w W1) W1 hb1 (fun k hk => .inl (hK0 k hk))
      (fun K s X Y hs hb => ⟨hI K s X Y hs.1 (hb.mono (by omega)), (hb.low (hlt hs.2.1) (by omega)).trans hs.2.1, (hb.low (by have := hlt hs.2.1; omega) (by omega)).trans hs.2.2⟩)
      (fun K s X Y hs hb => by
        obtain ⟨c, hc, hl, hk⟩ := hs
        exact ⟨c, hIx c K s X Y hc (hb.mono (by omega)), (hb.low (hlt hl) (by omega)).trans hl, (hb.low (by have := hlt hl; omega) (by omega)).trans hk⟩)
      ?_ ⟨hI1, hL1, hK1⟩).mono ?_
    · rintro K pre x W ⟨hi, hl, hk⟩ hat hlen
      have hlt1 := hlt hl
      have hy := run_yield (P := P) (args := encs x) hl (by rw [hrec]; exact hps x)
      rw [hrec] at hy
      refine ⟨fn, _, assign, body, hy, roundIn_of_wpIn hfn (hassign _ x W _ ⟨_, run_beginRound hl (by rw [hrec]), ?_⟩)⟩
      have hl2 : (W.putObj (w.heap.size + 1) (.loop { rec .ready none with state := .busy })).heap[w.heap.size + 1]? = some (.loop { rec .ready none with state := .busy }) := World.putObj_heap_same hlt1
      have hk2 : (W.putObj (w.heap.size + 1) (.loop { rec .ready none with state := .busy })).heap[w.heap.size]? = some (.deferred (some [])) := (World.putObj_heap_other (by omega)).trans hk
      refine wpIn_mono (hbody _ K pre x _ (by omega) (hIp _ hi hl rfl) (hAt _ _ _ _ _ _ hat hl rfl) hlen) ?_
      have fin : ∀ (jump : Option Code) (W3 : World), KeepsFrom w.heap.size (W.putObj (w.heap.size + 1) (.loop { rec .ready none with state := .busy })) W3 →
          (Instr.endRound (w.heap.size + 1) jump).run P W3 = .ok (.bool jump.isNone) (W3.putObj (w.heap.size + 1) (.loop (rec (if jump.isNone then .ready else .done) jump))) ∧
          W3.heap[w.heap.size + 1]? = some (.loop { rec .ready none with state := .busy }) ∧
          (W3.putObj (w.heap.size + 1) (.loop (rec (if jump.isNone then .ready else .done) jump))).heap[w.heap.size + 1]? = some (.loop (rec (if jump.isNone then .ready else .done) jump)) ∧
          (W3.putObj (w.heap.size + 1) (.loop (rec (if jump.isNone then .ready else .done) jump))).heap[w.heap.size]? = some (.deferred (some [])) := fun jump W3 hk3 => by
        have hl3 := hk3.same _ _ (by omega) hl2 rfl
        have := run_endRound (P := P) jump hl3
        rw [hrec] at this ⊢
        exact ⟨this, by rw [hrec] at hl3; exact hl3, World.putObj_heap_same (Array.getElem?_eq_some_iff.1 hl3).1, (World.putObj_heap_other (by omega)).trans (hk3.same _ _ (Nat.le_refl _) hk2 rfl)⟩
      have ezB : (W.putObj (w.heap.size + 1) (.loop { rec .ready none with state := .busy })).heap.size = W.heap.size := by simp
      have hKF : ∀ {W3 : World} (r : Loop), KeepsFrom w.heap.size (W.putObj (w.heap.size + 1) (.loop { rec .ready none with state := .busy })) W3 → KeepsFrom W1.heap.size W (W3.putObj (w.heap.size + 1) (.loop r)) := fun {W3} r hk3 =>
        ⟨by have := hk3.size; rw [ezB] at this; simpa using this, fun k o hB hko hoc => by
          rw [World.putObj_heap_other (show k ≠ w.heap.size + 1 by omega)]
          exact hk3.same k o (by omega) (by rw [World.putObj_heap_other (show k ≠ w.heap.size + 1 by omega)]; exact hko) hoc⟩
      rintro e a3 W3 hp
      cases e with
      | normal =>
        obtain ⟨hk3, hkk3, hb3, hi3⟩ := hp
        obtain ⟨hr, hl3, hl4, hk4⟩ := fin none W3 hk3
        refine ⟨_, _, hr, .inl ⟨rfl, ⟨hIp _ hi3 hl3 rfl, hl4, hk4⟩, fun k hk => ?_, hKF _ hk3, ⟨hb3.os, hb3.tape, hb3.output, ?_, fun k hk => ?_⟩⟩⟩
        · by_cases e : k = w.heap.size + 1
          · subst e; rw [hl]; exact hl4
          · rw [World.putObj_heap_other e, hkk3 k hk, World.putObj_heap_other e]
        · have := hk3.size; rw [ezB] at this; simpa using this
        · rw [World.putObj_heap_other (show k ≠ w.heap.size + 1 by omega), hb3.block k hk, World.putObj_heap_other (show k ≠ w.heap.size + 1 by omega)]
      | ret =>
        obtain ⟨hk3, hi3⟩ := hp
        obtain ⟨hr, hl3, hl4, hk4⟩ := fin (some .ret) W3 hk3
        exact ⟨_, _, hr, .inr ⟨rfl, ⟨.ret, hIxp _ hi3 hl3 rfl, hl4, hk4⟩, hKF _ hk3⟩⟩
      | exit id =>
        obtain ⟨hk3, hi3⟩ := hp
        obtain ⟨hr, hl3, hl4, hk4⟩ := fin (some (.exit id)) W3 hk3
        exact ⟨_, _, hr, .inr ⟨rfl, ⟨.exit id, hIxp _ hi3 hl3 rfl, hl4, hk4⟩, hKF _ hk3⟩⟩
      | goto t =>
        obtain ⟨hk3, hi3⟩ := hp
        obtain ⟨hr, hl3, hl4, hk4⟩ := fin (some (.goto t)) W3 hk3
        exact ⟨_, _, hr, .inr ⟨rfl, ⟨.goto t, hIxp _ hi3 hl3 rfl, hl4, hk4⟩, hKF _ hk3⟩⟩
      | panic ch => exact hp.elim
      | outgrown => exact hp.elim
    · rintro e W2 ⟨⟨v, rfl⟩, (⟨K, xs, hS2, hi, hl, hk⟩ | ⟨K, pre, c, hi, hl, hk⟩)⟩
      · exact ⟨none, _, by have := run_endLoop (P := P) hl (by rw [hrec]; simp); rw [hrec] at this; exact this, hdone _ K xs _ (Nat.le_refl _) hS2 (hIp _ hi hl rfl) ((World.putObj_heap_other (by omega)).trans hk)⟩
      · exact ⟨some c, _, by have := run_endLoop (P := P) hl (by rw [hrec]; simp); rw [hrec] at this; exact this, hstop _ c K pre _ (Nat.le_refl _) (hIxp _ hi hl rfl) ((World.putObj_heap_other (by omega)).trans hk)⟩
end
end Go.Proofs.YtmjkgnknfgoadaaGreatDoor

/- The contract of path.within: an iterator that runs itself. -/
namespace Go.Proofs.YtmjkgnknfgoadaaGreatDoor
open Go.RowKit Go.Shelf
set_option linter.unusedSimpArgs false
set_option linter.unusedVariables false
attribute [local go_sem] Oper.semAt_some

theorem szs_take (ts : List TT) (k : Nat) : szs (ts.take k) ≤ szs ts := by
  have h : szs ts = szs (ts.take k) + szs (ts.drop k) := by
    unfold szs
    rw [← List.sum_append, ← List.map_append, List.take_append_drop]
  omega
theorem szs_snoc (ts : List TT) (x : TT) : szs (ts ++ [x]) = szs ts + szTT x := by simp [szs]
/-- A path in memory. -/
structure Pth where
  V : Option Addr
  c : Nat
  p : List Int
abbrev Pth.val (x : Pth) : Value := .slice x.V x.p.length x.c
def PAt (K : Nat → Prop) (x : Pth) (W : World) : Prop := intL.row W K x.V x.p ∧ x.p.length ≤ x.c ∧ (x.V = none → x.c = 0) ∧ (x.p ≠ [] → ∀ ad, x.V = some ad → ∃ cs, W.heap[ad.block]? = some (.cells cs 3 (0, 0)))
theorem PAt.kept {K K' : Nat → Prop} {x : Pth} {W W' : World} (h : PAt K x W) (hK : ∀ k, K k → K' k) (hg : ∀ k, K k → k < W.heap.size → W'.heap[k]? = W.heap[k]?) : PAt K' x W' :=
  ⟨(h.1.agree fun k hk hl => hg k hk hl).mono (fun k _ hk => hK k hk), h.2.1, h.2.2.1, fun hne ad e => by
    obtain ⟨cs, hc⟩ := h.2.2.2 hne ad e
    exact ⟨cs, (hg _ (h.1.1.2 (by rw [intL_all]; simpa using hne) ad e) (heap_lt' hc)).trans hc⟩⟩

theorem cell_cells {w : World} {a : Addr} {v : Value} (h : w.cell? a = some v) : ∃ o : Obj, w.heap[a.block]? = some o ∧ o.isCells = true := by
  unfold World.cell? at h
  cases ho : w.heap[a.block]? with
  | none => simp [ho] at h
  | some o => exact ⟨o, rfl, by cases o <;> simp_all [Obj.isCells]⟩
theorem PAt.put {K : Nat → Prop} {x : Pth} {X : World} {l : Nat} {o : Obj} (h : PAt K x X) (o' : Obj) (h2 : X.heap[l]? = some o) (h3 : o.isCells = false) : PAt K x (X.putObj l o') := by
  refine ⟨?_, h.2.1, h.2.2.1, fun hne ad e => ?_⟩
  rotate_left 1
  · obtain ⟨cs, hc⟩ := h.2.2.2 hne ad e
    refine ⟨cs, (World.putObj_heap_other fun hl => ?_).trans hc⟩
    rw [hl, h2] at hc; cases hc; cases h3
  have h1 : intL.row X (fun k => K k ∧ k ≠ l) x.V x.p := by
    refine ⟨⟨h.1.1.1, fun hne ad e => ⟨h.1.1.2 hne ad e, fun hl => ?_⟩⟩, h.1.2⟩
    cases hx : intL.all x.p with
    | nil => exact hne hx
    | cons u us =>
      obtain ⟨ad', e', hc⟩ := h.1.1.1 0 u (by rw [hx]; rfl)
      rw [e] at e'; cases e'
      obtain ⟨o1, ho1, hc1⟩ := cell_cells hc
      rw [show (ad.add 0).block = ad.block from by unfold Addr.add; split <;> rfl, hl, h2] at ho1
      cases ho1; rw [h3] at hc1; cases hc1
  exact (h1.agree fun k hk _ => World.putObj_heap_other hk.2).mono fun k _ hk => hk.1

/-- What a world keeps of another one: what lies below n₀, these blocks, and what is no cells. -/
structure Kp5 (K : Nat → Prop) (B0 n₀ : Nat) (X Y : World) : Prop where
  os : Y.os = X.os
  tape : Y.tape = X.tape
  output : Y.output = X.output
  size : X.heap.size ≤ Y.heap.size
  block : ∀ k, k < X.heap.size → (k < n₀ ∨ K k ∨ (B0 ≤ k ∧ ∃ o, X.heap[k]? = some o ∧ o.isCells = false)) → Y.heap[k]? = X.heap[k]?
theorem Kp5.refl (K : Nat → Prop) (B0 n₀ : Nat) (X : World) : Kp5 K B0 n₀ X X := ⟨rfl, rfl, rfl, Nat.le_refl _, fun _ _ _ => rfl⟩
theorem Kp5.trans {K : Nat → Prop} {B0 n₀ : Nat} {X Y Z : World} (h : Kp5 K B0 n₀ X Y) (k : Kp5 K B0 n₀ Y Z) : Kp5 K B0 n₀ X Z :=
  ⟨k.os.trans h.os, k.tape.trans h.tape, k.output.trans h.output, Nat.le_trans h.size k.size, fun j hj hc => (k.block j (by have := h.size; omega) (hc.imp id (Or.imp id fun ⟨h1, o, h2, h3⟩ => ⟨h1, o, (h.block j hj (.inr (.inr ⟨h1, o, h2, h3⟩))).trans h2, h3⟩))).trans (h.block j hj hc)⟩
theorem Kp5.of_below {K : Nat → Prop} {B0 n₀ : Nat} {X Y : World} (h : Below X.heap.size X Y) : Kp5 K B0 n₀ X Y := ⟨h.os, h.tape, h.output, h.size, fun k hk _ => h.block k hk⟩
theorem Kp5.of_round {K K' : Nat → Prop} {B0 n₀ : Nat} {X Y : World} (hK : ∀ k, K k → K' k) (h1 : KeepK K' X Y) (h2 : KeepsFrom B0 X Y) (h3 : Below n₀ X Y) : Kp5 K B0 n₀ X Y :=
  ⟨h3.os, h3.tape, h3.output, h3.size, fun k hk hc => by
    rcases hc with hc | hc | ⟨hb, o, ho, hn⟩
    · exact h3.block k hc
    · exact h1 k (hK k hc)
    · exact (h2.same k o hb ho hn).trans ho.symm⟩
theorem Kp5.of_stp {K : Nat → Prop} {B0 n₀ B : Nat} {X Y Z : World} (h : Kp5 K B0 n₀ X Y) (hb : X.heap.size ≤ B) (k : Stp B Y Z) : Kp5 K B0 n₀ X Z :=
  ⟨k.os.trans h.os, k.tape.trans h.tape, k.output.trans h.output, Nat.le_trans h.size k.size, fun j hj hc => (k.low (by have := h.size; omega) (by omega)).trans (h.block j hj hc)⟩
theorem Kp5.cells {K : Nat → Prop} {B0 n₀ : Nat} {X Y : World} (h : Kp5 K B0 n₀ X Y) {k : Nat} {o : Obj} (ho : X.heap[k]? = some o) (hc : k < n₀ ∨ K k ∨ (B0 ≤ k ∧ o.isCells = false)) : Y.heap[k]? = some o :=
  (h.block k (heap_lt' ho) (hc.imp id (Or.imp id fun ⟨h1, h2⟩ => ⟨h1, o, ho, h2⟩))).trans ho

theorem within_any (t : Lt) (k : Int) (P : Pth) (w : World) :
    Calls Tryz.prog 85 #[t.val, .int .i64 k, P.val] w fun e w' => e = .returned (.func (.func 122) #[] #[.pointer (some ⟨w.heap.size + 2, 0, none⟩), .pointer (some ⟨w.heap.size, 0, none⟩), .pointer (some ⟨w.heap.size + 1, 0, none⟩)]) ∧
      w' = ((w.alloc (.cells #[.slice t.A t.ls.length t.c, .int .i64 t.root] 48)).alloc (.cells #[.int .i64 k] 3)).alloc (.cells #[P.val] 54) := by
  go_enter Tryz.func85, Tryz.ntmps85
  go_wp2
  go_ret
  exact ⟨by simp [Nat.add_assoc], rfl⟩
def wAct (l bp bt bk by_ : Nat) (kA : Option Addr) (kn kc i : Nat) (Ds : List Nat) (u : Nat → Value) : Act := { tmps := #[.func (.yield l) #[] #[], .pointer (some ⟨bp, 0, none⟩), .pointer (some ⟨bt, 0, none⟩), .pointer (some ⟨bk, 0, none⟩), .pointer (some ⟨by_, 0, none⟩), u 5, u 6, u 7, u 8, u 9, u 10, u 11, u 12, u 13, u 14, u 15, u 16, .slice kA kn kc, .int .i64 (kn : Int), .int .i64 (i : Int), u 20, u 21, u 22, u 23, u 24, u 25, u 26, u 27, u 28, u 29, u 30, u 31, u 32, u 33, u 34, u 35, u 36, u 37, u 38, u 39, u 40, u 41], defers := marksD Ds }
theorem w_slots (l bp bt bk by_ : Nat) (kA : Option Addr) (kn kc i : Nat) (Ds : List Nat) (v5 v6 v7 v8 v9 v10 v11 v12 v13 v14 v15 v16 v20 v21 v22 v23 v24 v25 v26 v27 v28 v29 v30 v31 v32 v33 v34 v35 v36 v37 v38 v39 v40 v41 : Value) : ∃ u, ({ tmps := #[.func (.yield l) #[] #[], .pointer (some ⟨bp, 0, none⟩), .pointer (some ⟨bt, 0, none⟩), .pointer (some ⟨bk, 0, none⟩), .pointer (some ⟨by_, 0, none⟩), v5, v6, v7, v8, v9, v10, v11, v12, v13, v14, v15, v16, .slice kA kn kc, .int .i64 (kn : Int), .int .i64 (i : Int), v20, v21, v22, v23, v24, v25, v26, v27, v28, v29, v30, v31, v32, v33, v34, v35, v36, v37, v38, v39, v40, v41], defers := marksD Ds } : Act) = wAct l bp bt bk by_ kA kn kc i Ds u :=
  ⟨fun k => match k with | 5 => v5 | 6 => v6 | 7 => v7 | 8 => v8 | 9 => v9 | 10 => v10 | 11 => v11 | 12 => v12 | 13 => v13 | 14 => v14 | 15 => v15 | 16 => v16 | 20 => v20 | 21 => v21 | 22 => v22 | 23 => v23 | 24 => v24 | 25 => v25 | 26 => v26 | 27 => v27 | 28 => v28 | 29 => v29 | 30 => v30 | 31 => v31 | 32 => v32 | 33 => v33 | 34 => v34 | 35 => v35 | 36 => v36 | 37 => v37 | 38 => v38 | 39 => v39 | 40 => v40 | 41 => v41 | _ => undef, rfl⟩
/-- What stands between two rounds over a node's kids. -/
structure WRel (n₀ B0 : Nat) (P : Pth) (J : (Nat → Prop) → List Pth → World → Prop) (K1 : Nat → Prop) (ts : List TT) (W2 : World) (i : Nat) (Ds : List Nat) (K : Nat → Prop) (pre : List Pth) (wr : World) : Prop where
  le : i ≤ ts.length
  inv : J K pre wr
  sub : ∀ k, K1 k → K k
  eq : pre.map Pth.p = P.p :: allTTs (ts.take i) 0 P.p
  kept : Kp5 K1 B0 n₀ W2 wr
  nodup : Ds.Nodup
  marks : ∀ D ∈ Ds, B0 ≤ D ∧ wr.heap[D]? = some (.deferred (some []))
def WJ (l bp bt bk B0 n₀ : Nat) (kA : Option Addr) (kn kc : Nat) (P : Pth) (J : (Nat → Prop) → List Pth → World → Prop) (K1 : Nat → Prop) (ts : List TT) (W2 : World) (m : Nat) (a : Act) (wr : World) : Prop :=
  ∃ (i : Nat) (Ds : List Nat) (K : Nat → Prop) (pre : List Pth), (∃ u, a = wAct l bp bt bk B0 kA kn kc i Ds u) ∧ m = ts.length - i ∧ WRel n₀ B0 P J K1 ts W2 i Ds K pre wr
theorem offD_stp {Ds : List Nat} {B : Nat} {w w' : World} (h : OffD Ds w w') (hD : ∀ D ∈ Ds, B ≤ D ∧ w.heap[D]? = some (.deferred (some []))) : Stp B w w' :=
  ⟨h.2.1, h.2.2.1, h.2.2.2.1, Nat.le_of_eq h.2.2.2.2.1.symm, fun k hk => by
    by_cases hm : k ∈ Ds
    · exact .inl ⟨(hD k hm).1, _, (hD k hm).2, rfl⟩
    · exact .inr (h.2.2.2.2.2 k hm)⟩
/-- What has come of a child's turn: its path, the boxes of its iterator. -/
structure Turn (wr wx : World) (tv : Value) (r2 : Value) (z : Nat) (bp' bt' bk' : Nat) (Q : Pth) : Prop where
  below : Below wr.heap.size wr wx
  b1 : wx.heap[bp']? = some (.cells #[Q.val] 54 (0, 0)) ∧ wr.heap.size ≤ bp'
  b2 : wx.heap[bt']? = some (.cells #[tv, r2] 48 (0, 0)) ∧ wr.heap.size ≤ bt'
  b3 : wx.heap[bk']? = some (.cells #[.int .i64 (z : Int)] 3 (0, 0)) ∧ wr.heap.size ≤ bk'
  row : PAt (fun k => wr.heap.size ≤ k ∧ k < wx.heap.size) Q wx
theorem turn_of {wr w2 : World} {tv r2 : Value} {z : Nat} {V2 : Option Addr} {c2 : Nat} {q : List Int} {n : Nat} {B : Nat} (h : Below wr.heap.size wr (((w2.alloc (.cells #[tv, r2] 48)).alloc (.cells #[.int .i64 (z : Int)] 3)).alloc (.cells #[.slice V2 n c2] 54))) (hw : wr.heap.size ≤ w2.heap.size)
    (ho : w2.ownsRow B 3 1 (.slice V2 n c2) n (intL.all q)) (hn : q.length = n) (h0 : 0 < n) (hB : wr.heap.size ≤ B) : Turn wr (((w2.alloc (.cells #[tv, r2] 48)).alloc (.cells #[.int .i64 (z : Int)] 3)).alloc (.cells #[.slice V2 n c2] 54)) tv r2 z (w2.heap.size + 2) w2.heap.size (w2.heap.size + 1) ⟨V2, c2, q⟩ := by
  have h1 := bx_new ((w2.alloc (.cells #[tv, r2] 48)).alloc (.cells #[.int .i64 (z : Int)] 3)) (.cells #[.slice V2 n c2] 54)
  rw [World.size_alloc, World.size_alloc] at h1
  have h2 := bx_new (w2.alloc (.cells #[tv, r2] 48)) (.cells #[.int .i64 (z : Int)] 3)
  rw [World.size_alloc] at h2
  subst hn
  refine ⟨h, ⟨h1, by omega⟩, ⟨bx_old (bx_old (bx_new w2 _)), hw⟩, ⟨bx_old h2, by omega⟩, ?_, ?_, ?_, ?_⟩
  · have hb3 := bx3 w2 (.cells #[tv, r2] 48) (.cells #[.int .i64 (z : Int)] 3) (.cells #[.slice V2 q.length c2] 54)
    refine ⟨(own_rowIn (S := fun k => wr.heap.size ≤ k ∧ k < w2.heap.size) ho (fun ad e => ⟨by have := (own_block ho ad e).1; omega, (own_block ho ad e).2⟩)).agree (below_all hb3) |>.mono (fun k _ hk => ⟨hk.1, by have := hk.2; simp; omega⟩), fun _ _ => trivial⟩
  · rcases ho.2 with ⟨hv, h0'⟩ | ⟨g, cap, cur, hv, hb, hh, hnc, _⟩
    · omega
    · cases hv; exact hnc
  · intro e
    obtain ⟨g, hg, _⟩ := own_some ho h0
    rw [hg] at e; cases e
  · intro _ ad e
    rcases ho.2 with ⟨hv, h0'⟩ | ⟨g, cap, cur, hv, hb, hh, hnc, _⟩
    · omega
    · cases hv
      simp only [Option.some.injEq] at e
      subst e
      exact ⟨cur, bx_old (bx_old (bx_old hh))⟩
set_option maxRecDepth 100000 in
set_option maxHeartbeats 3200000 in
theorem within1_in (n₀ : Nat) (A : Option Addr) (c : Nat) (ls : List Ln) (r : Int) (hA : AheadZ (ls.map Ln.nd)) (hl : ls.length ≤ 1000000) (hkb : ∀ l ∈ ls, l.nd.kids.length ≤ 4294967296) :
    ∀ (node : Nat), node < ls.length → ∀ (l bp bt bk : Nat) (P : Pth) (J Jx : (Nat → Prop) → List Pth → World → Prop) (K0 : Nat → Prop) (W : World), P.p.length + node ≤ 2000000 →
      ndL.row W (· < n₀) A ls → n₀ ≤ W.heap.size →
      W.heap[bp]? = some (.cells #[P.val] 54 (0, 0)) → W.heap[bt]? = some (.cells #[.slice A ls.length c, .int .i64 r] 48 (0, 0)) → W.heap[bk]? = some (.cells #[.int .i64 (node : Int)] 3 (0, 0)) →
      PAt K0 P W → K0 bp → K0 bt → K0 bk →
      (∀ K s X Y, J K s X → Stp W.heap.size X Y → J (addK K X Y) s Y) → (∀ K s X Y, Jx K s X → Stp W.heap.size X Y → Jx (addK K X Y) s Y) →
      (∀ K pre x W1, J K pre W1 → PAt K x W1 → pre.length < szTT (den (ls.map Ln.nd) node) → YieldAt Fence.wide 2 Tryz.prog l #[x.val] W1 fun e W' =>
        (e = .returned (.bool true) ∧ J K (pre ++ [x]) W' ∧ KeepK K W1 W' ∧ KeepsFrom W.heap.size W1 W' ∧ Below n₀ W1 W') ∨ (e = .returned (.bool false) ∧ Jx K (pre ++ [x]) W' ∧ KeepsFrom W.heap.size W1 W')) →
      J K0 [] W →
      CallsIn Fence.wide 3 Tryz.prog 122 #[.func (.yield l) #[] #[], .pointer (some ⟨bp, 0, none⟩), .pointer (some ⟨bt, 0, none⟩), .pointer (some ⟨bk, 0, none⟩)] W fun e W' =>
        (∃ v, e = .returned v) ∧ ((∃ K xs, xs.map Pth.p = allTT (den (ls.map Ln.nd) node) P.p ∧ J K xs W') ∨ (∃ K pre, Jx K pre W')) := by
  intro node
  induction node using Nat.strongRecOn with
  | _ node ih =>
  intro hnode l bp bt bk P J Jx K0 W hpl hT hn₀ hbp hbt hbk hP hKp hKt hKk hJ hJx hY h0
  have hfn : ∀ k, Fence.wide.fn k := fun _ => trivial
  obtain ⟨i0, hi0, iz0, iz1, iz2⟩ := info_parts infoInt
  have HY := Lib.hid hY; have HJ := Lib.hid hJ; have HJX := Lib.hid hJx; have HT := Lib.hid hT; have HP := Lib.hid hP; have IH := Lib.hid ih
  clear hY hJ hJx hT hP ih
  -- the box of yield
  obtain ⟨W1, hW1⟩ : ∃ W1, W.alloc (.cells #[.func (.yield l) #[] #[]] 156) = W1 := ⟨_, rfl⟩
  have hb1 : Below W.heap.size W W1 := by rw [← hW1]; exact bx1 W _
  have hz1 : W1.heap.size = W.heap.size + 1 := by rw [← hW1]; simp
  have hby : W1.heap[W.heap.size]? = some (.cells #[.func (.yield l) #[] #[]] 156 (0, 0)) := by rw [← hW1]; exact bx_new W _
  have hj1 : J (addK K0 W W1) [] W1 := HJ.out _ _ _ _ h0 (Stp.of_below hb1)
  have hpa1 : PAt (addK K0 W W1) P W1 := HP.out.kept (fun k hk => .inl hk) (fun k _ hl => hb1.block k hl)
  obtain ⟨fn, tmps, assign, body, hy, hR⟩ := HY.out _ [] P W1 hj1 hpa1 (by rw [den_eq hA.ahead, sz_mk]; simp)
  have hq1 := bx_kept hb1 hbp; have hq2 := bx_kept hb1 hbt; have hq3 := bx_kept hb1 hbk
  obtain ⟨p0, _⟩ := blk1 hq1
  obtain ⟨p1, _⟩ := blk1 hby
  refine callsIn_of_wp_marks Tryz.func122 rfl trivial ?_ rfl
  simp only [Tryz.ntmps122, List.size_toArray, List.length_cons, List.length_nil, Nat.reduceAdd, Nat.reduceSub, Array.replicate_succ, Array.replicate_zero, List.push_toArray, List.append_toArray, List.nil_append, List.cons_append]
  gi_wp2
  refine hR.mono ?_
  clear hR hy
  rintro e W2 (⟨rfl, hj2, hk2, hkf2, hbl2⟩ | ⟨rfl, hjx2, hkf2⟩)
  · have HJ2 := Lib.hid hj2
    have HK2 := Lib.hid (show Kp5 (addK K0 W W1) W.heap.size n₀ W1 W2 from Kp5.of_round (fun _ h => h) hk2 hkf2 hbl2)
    have HK1 := Lib.hid (show Kp5 (addK K0 W W1) W.heap.size n₀ W W1 from Kp5.of_below hb1)
    have HPA := Lib.hid hpa1
    have HTW := Lib.hid (show ∀ X, Kp5 (addK K0 W W1) W.heap.size n₀ W X → ndL.row X (· < n₀) A ls from fun X hX => HT.out.agree fun k hk hl => hX.block k hl (.inl hk))
    have r1 := HK2.out.cells hq1 (.inr (.inl (.inl hKp))); have r2 := HK2.out.cells hq2 (.inr (.inl (.inl hKt))); have r3 := HK2.out.cells hq3 (.inr (.inl (.inl hKk))); have r4 := HK2.out.cells hby (.inr (.inl (.inr ⟨Nat.le_refl _, by omega⟩)))
    have HR1 := Lib.hid r1; have HR2 := Lib.hid r2; have HR3 := Lib.hid r3; have HR4 := Lib.hid r4
    obtain ⟨t0, t1, _⟩ := blk2 r2
    obtain ⟨b0, _⟩ := blk1 r3
    obtain ⟨g, o, rfl, _, _, x0, x1, x2, x3, x4, x5, x6, x7, x8⟩ := ndRow (HTW.out W2 (HK1.out.trans HK2.out)) node hnode
    have i1 : (node : Int) < (ls.length : Int) := by omega
    have i2 : (0 : Int) ≤ (node : Int) := by omega
    clear r1 r2 r3 r4 hj2 hk2 hkf2 hbl2 hq1 hq2 hq3 hj1 hpa1 p0 p1 x0 x1 x2 x3 x4 x5 x6 x7 hbp hbt hbk
    gi_wp2
    clear t0 t1 b0 x8
    refine wpIn_wide.2 ?_
    have hks : kidsAt (ls.map Ln.nd) node = ls[node].nd.kids.map Int.toNat := by simp [kidsAt, hnode]
    have HDE := Lib.hid (den_eq hA.ahead node)
    have HKD := Lib.hid (show ∀ X, Kp5 (addK K0 W W1) W.heap.size n₀ W X → intL.row X (· < n₀) ls[node].A ls[node].nd.kids from fun X hX => ndSub (HTW.out X hX) node hnode)
    have HKP := Lib.hid (show ∀ z ∈ ls[node].nd.kids, 0 ≤ z ∧ z < (node : Int) from fun z hz => hA node ls[node].nd (by simp [hnode]) z hz)
    have hkl : ls[node].nd.kids.length ≤ 4294967296 := hkb _ (List.getElem_mem hnode)
    rw [hks] at HDE
    clear hks
    generalize ls[node].nd.kids = kids at *
    generalize ls[node].A = kA at *
    generalize ls[node].c = kc at *
    obtain ⟨ts, hts⟩ : ∃ ts, (kids.map Int.toNat).map (den (ls.map Ln.nd)) = ts := ⟨_, rfl⟩
    have htl : ts.length = kids.length := by rw [← hts]; simp
    have HTS := Lib.hid hts
    have HSZ := Lib.hid (show szTT (den (ls.map Ln.nd) node) = szs ts + 1 from by rw [HDE.out, ← hts, sz_mk])
    have HALL := Lib.hid (show allTT (den (ls.map Ln.nd) node) P.p = P.p :: allTTs ts 0 P.p from by rw [HDE.out, ← hts, allTT])
    clear hts HDE
    generalize hB0 : W.heap.size = B0 at *
    refine loop_ghost (WJ l bp bt bk B0 n₀ kA kids.length kc P J (addK K0 W W1) ts W2) ts.length ?start ?round
    case start =>
      exact ⟨0, [], _, [P], w_slots l bp bt bk B0 kA kids.length kc 0 [] _ _ _ _ _ _ _ _ _ _ _ _ _ _ _ _ _ _ _ _ _ _ _ _ _ _ _ _ _ _ _ _ _ _, rfl, by omega, HJ2.out, fun _ h => h, by simp [allTTs], Kp5.refl _ _ _ _, List.nodup_nil, by simp⟩
    case round =>
      rintro m a wr ⟨i, Ds, K, pre, ⟨u, rfl⟩, rfl, HR⟩
      have HRE := Lib.hid HR
      clear HR
      unfold wAct
      by_cases hi : i < kids.length
      · have j1 : (i : Int) < (kids.length : Int) := by omega
        have j2 : (0 : Int) ≤ (i : Int) := by omega
        have HKW := Lib.hid (show Kp5 (addK K0 W W1) B0 n₀ W wr from (HK1.out.trans HK2.out).trans HRE.out.kept)
        obtain ⟨kb, ko, rfl, _, _, v0⟩ := intRow (HKD.out wr HKW.out) i hi
        obtain ⟨hy0, hy1⟩ := HKP.out kids[i] (List.getElem_mem hi)
        obtain ⟨z, hzk⟩ := Int.eq_ofNat_of_zero_le hy0
        rw [hzk] at v0 hy1
        have hzn : z < node := by omega
        have HTI := Lib.hid (show ts.take (i + 1) = ts.take i ++ [den (ls.map Ln.nd) z] from by
          rw [List.take_succ_eq_append_getElem (by omega)]
          congr 2
          simp only [← HTS.out, List.getElem_map, hzk]; rfl)
        clear hzk hy0 hy1
        go_upto_region 5 with (fail)
        clear v0
        go_cut [35] from 24 to 35 (fun v wx => ∃ bp' bt' bk' Q, v = .func (.func 122) #[] #[.pointer (some ⟨bp', 0, none⟩), .pointer (some ⟨bt', 0, none⟩), .pointer (some ⟨bk', 0, none⟩)] ∧ Hid (Turn wr wx (.slice (some ⟨g, o, none⟩) ls.length c) (.int .i64 r) z bp' bt' bk' Q) ∧ Hid (Q.p = P.p ++ [(i : Int)]))
        case first =>
          have HPW := Lib.hid (show PAt (addK K0 W W1) P wr from HPA.out.kept (fun _ h => h) (fun k hk hl => (HK2.out.trans HRE.out.kept).block k hl (.inr (.inl hk))))
          have HSB := Lib.hid (show ∀ X, Below wr.heap.size wr X → X.cell? ⟨bt, 0, none⟩ = some (.slice (some ⟨g, o, none⟩) ls.length c) ∧ X.cell? ⟨bt, 1, none⟩ = some (.int .i64 r) ∧ X.cell? ⟨bp, 0, none⟩ = some P.val from fun X hX => by
            obtain ⟨c1, c2, _⟩ := blk2 (bx_kept hX (HRE.out.kept.cells HR2.out (.inr (.inl (.inl hKt)))))
            obtain ⟨c3, _⟩ := blk1 (bx_kept hX (HRE.out.kept.cells HR1.out (.inr (.inl (.inl hKp)))))
            exact ⟨c1, c2, c3⟩)
          have HBN := Lib.hid (show Below wr.heap.size wr (wr.alloc (.cells #[.int .i64 (i : Int)] 3)).drew from (bx1 wr _).drew)
          have HNB := Lib.hid (show (wr.alloc (.cells #[.int .i64 (i : Int)] 3)).drew.heap[wr.heap.size]? = some (.cells #[.int .i64 (i : Int)] 3 (0, 0)) from bx_new wr _)
          have HZN := Lib.hid (show (wr.alloc (.cells #[.int .i64 (i : Int)] 3)).drew.heap.size = wr.heap.size + 1 from by show (wr.alloc _).heap.size = _; simp)
          obtain ⟨PV, pc, pp⟩ := P
          simp only [Pth.val] at HSB HPW hpl
          have hpc := HPW.out.2.1
          simp only at hpc
          rcases PV with _ | ad
          · have hp0 : pc = 0 := HPW.out.2.2.1 rfl
            have hpn : pp.length = 0 := by omega
            obtain rfl : pp = [] := List.eq_nil_of_length_eq_zero hpn
            subst hp0
            clear hpn
            clear hpc
            have HOL := Lib.hid (show ([] : List Value).length = 0 * 1 from rfl)
            have HF := Lib.hid (show 0 + 1 ≤ maxLen ∧ (0 + 1) * 8 ≤ 140737488355328 from ⟨by unfold maxLen; omega, by omega⟩)
            have HNW := Lib.hid (show ∀ j v, [Value.int .i64 (i : Int)][j]? = some v → (wr.alloc (.cells #[.int .i64 (i : Int)] 3)).drew.cell? ((⟨wr.heap.size, 0, none⟩ : Addr).add j) = some v from cell_one_new wr _ _)
            go_region_held3 (fun X => X.cell? ⟨bt, 0, none⟩ = some (.slice (some ⟨g, o, none⟩) ls.length c) ∧ X.cell? ⟨bt, 1, none⟩ = some (.int .i64 r) ∧ X.cell? ⟨bp, 0, none⟩ = some (.slice none 0 0))
              (first | exact HSB.out _ (Below.refl _ _).drew | exact HSB.out _ HBN.out | exact HSB.out _ HBA.out | exact HSB.out _ HBW.out)
              (first
                | (refine step_append_grows (by rfl) (.tmp 31) (.tmp 33) 54 (by rfl) 3 i0 (.int .i64 0) 1 8 Tryz.underlying54 hi0 iz0 iz1 iz2 rfl (by decide) none 0 0 [] (by rfl) (fun _ => ⟨rfl, rfl⟩) HOL.out (fun b e => by cases e) ⟨wr.heap.size, 0, none⟩ 1 1 [.int .i64 (i : Int)] (by rfl) rfl HNW.out (by simp [Value.oneCell']) (by omega) HF.out.1 HF.out.2 ?_
                   intro v2 w2 hown hgrow
                   obtain ⟨V2, c2, rfl⟩ := ownsRow_slice hown
                   have HOW := Lib.hid hown
                   have HBA := Lib.hid (show Below wr.heap.size wr w2 from HBN.out.grown hgrow (by have := HZN.out; omega) (fun k e => by cases e))
                   have HWI := Lib.hid (show Calls Tryz.prog 85 #[.agg #[.slice (some ⟨g, o, none⟩) ls.length c, .int .i64 r], .int .i64 (z : Int), .slice V2 (0 + 1) c2] w2 fun e w' => e = .returned (.func (.func 122) #[] #[.pointer (some ⟨w2.heap.size + 2, 0, none⟩), .pointer (some ⟨w2.heap.size, 0, none⟩), .pointer (some ⟨w2.heap.size + 1, 0, none⟩)]) ∧
                       w' = ((w2.alloc (.cells #[.slice (some ⟨g, o, none⟩) ls.length c, .int .i64 r] 48)).alloc (.cells #[.int .i64 (z : Int)] 3)).alloc (.cells #[.slice V2 (0 + 1) c2] 54) from by
                     have h := within_any ⟨some ⟨g, o, none⟩, c, ls, r⟩ (z : Int) ⟨V2, c2, ([] : List Int) ++ [(i : Int)]⟩ w2
                     rw [show Pth.val ⟨V2, c2, ([] : List Int) ++ [(i : Int)]⟩ = .slice V2 (0 + 1) c2 from by simp [Pth.val]] at h
                     exact h)
                   have HBW := Lib.hid (show Below wr.heap.size wr (((w2.alloc (.cells #[.slice (some ⟨g, o, none⟩) ls.length c, .int .i64 r] 48)).alloc (.cells #[.int .i64 (z : Int)] 3)).alloc (.cells #[.slice V2 (0 + 1) c2] 54)) from Below.step HBA.out (bx3 w2 _ _ _))
                   clear hown hgrow)
                | (go_at_call 85; (with_reducible refine (HWI.out).mono ?_); rintro e w3 ⟨rfl, rfl⟩)
                | fail)
            all_goals go_wp2_with fail
            all_goals go_meet
            all_goals exact ⟨w2.heap.size + 2, w2.heap.size, w2.heap.size + 1, ⟨V2, c2, ([] : List Int) ++ [(i : Int)]⟩, rfl, Lib.hid (turn_of HBW.out HBA.out.size (by rw [intL.all_append, intL.all_one]; exact HOW.out) (by simp) (by omega) (by have := HZN.out; omega)), Lib.hid rfl⟩
          · have HRO := Lib.hid (show ∀ j u, (intL.all pp)[j]? = some u → (wr.alloc (.cells #[.int .i64 (i : Int)] 3)).drew.cell? (ad.add j) = some u from fun j u hu => by
              obtain ⟨_, e, h⟩ := (HPW.out.1.below (w' := (wr.alloc (.cells #[.int .i64 (i : Int)] 3)).drew) HBN.out).1.1 j u hu
              cases e; exact h)
            have HOL := Lib.hid (show (intL.all pp).length = pp.length * 1 from by rw [intL_all]; simp)
            have HF := Lib.hid (show pp.length + 1 ≤ maxLen ∧ (pp.length + 1) * 8 ≤ 140737488355328 from ⟨by unfold maxLen; omega, by omega⟩)
            have HNW := Lib.hid (show ∀ j v, [Value.int .i64 (i : Int)][j]? = some v → (wr.alloc (.cells #[.int .i64 (i : Int)] 3)).drew.cell? ((⟨wr.heap.size, 0, none⟩ : Addr).add j) = some v from cell_one_new wr _ _)
            go_region_held3 (fun X => X.cell? ⟨bt, 0, none⟩ = some (.slice (some ⟨g, o, none⟩) ls.length c) ∧ X.cell? ⟨bt, 1, none⟩ = some (.int .i64 r) ∧ X.cell? ⟨bp, 0, none⟩ = some (.slice (some ad) pp.length pc))
              (first | exact HSB.out _ (Below.refl _ _).drew | exact HSB.out _ HBN.out | exact HSB.out _ HBA.out | exact HSB.out _ HBW.out)
              (first
                | (refine step_append_grows (by rfl) (.tmp 31) (.tmp 33) 54 (by rfl) 3 i0 (.int .i64 0) 1 8 Tryz.underlying54 hi0 iz0 iz1 iz2 rfl (by decide) (some ad) pp.length pp.length (intL.all pp) (by rfl) (fun e => by cases e) HOL.out (fun b e j u hu => by cases e; exact HRO.out j u hu) ⟨wr.heap.size, 0, none⟩ 1 1 [.int .i64 (i : Int)] (by rfl) rfl HNW.out (by simp [Value.oneCell']) (by omega) HF.out.1 HF.out.2 ?_
                   intro v2 w2 hown hgrow
                   obtain ⟨V2, c2, rfl⟩ := ownsRow_slice hown
                   have HOW := Lib.hid hown
                   have HBA := Lib.hid (show Below wr.heap.size wr w2 from HBN.out.grown hgrow (by have := HZN.out; omega) (fun k e => by cases e))
                   have HWI := Lib.hid (show Calls Tryz.prog 85 #[.agg #[.slice (some ⟨g, o, none⟩) ls.length c, .int .i64 r], .int .i64 (z : Int), .slice V2 (pp.length + 1) c2] w2 fun e w' => e = .returned (.func (.func 122) #[] #[.pointer (some ⟨w2.heap.size + 2, 0, none⟩), .pointer (some ⟨w2.heap.size, 0, none⟩), .pointer (some ⟨w2.heap.size + 1, 0, none⟩)]) ∧
                       w' = ((w2.alloc (.cells #[.slice (some ⟨g, o, none⟩) ls.length c, .int .i64 r] 48)).alloc (.cells #[.int .i64 (z : Int)] 3)).alloc (.cells #[.slice V2 (pp.length + 1) c2] 54) from by
                     have h := within_any ⟨some ⟨g, o, none⟩, c, ls, r⟩ (z : Int) ⟨V2, c2, pp ++ [(i : Int)]⟩ w2
                     rw [show Pth.val ⟨V2, c2, pp ++ [(i : Int)]⟩ = .slice V2 (pp.length + 1) c2 from by simp [Pth.val]] at h
                     exact h)
                   have HBW := Lib.hid (show Below wr.heap.size wr (((w2.alloc (.cells #[.slice (some ⟨g, o, none⟩) ls.length c, .int .i64 r] 48)).alloc (.cells #[.int .i64 (z : Int)] 3)).alloc (.cells #[.slice V2 (pp.length + 1) c2] 54)) from Below.step HBA.out (bx3 w2 _ _ _))
                   clear hown hgrow)
                | (go_at_call 85; (with_reducible refine (HWI.out).mono ?_); rintro e w3 ⟨rfl, rfl⟩)
                | fail)
            all_goals go_wp2_with fail
            all_goals go_meet
            all_goals exact ⟨w2.heap.size + 2, w2.heap.size, w2.heap.size + 1, ⟨V2, c2, pp ++ [(i : Int)]⟩, rfl, Lib.hid (turn_of HBW.out HBA.out.size (by rw [intL.all_append, intL.all_one]; exact HOW.out) (by simp) (by omega) (by have := HZN.out; omega)), Lib.hid rfl⟩
        case rest =>
          obtain ⟨bp', bt', bk', Qp, rfl, HTN, HQE⟩ := hcut
          have hzb : wr.heap.size ≤ wc.heap.size := HTN.out.below.size
          have hzB : B0 ≤ wr.heap.size := by have := HKW.out.size; omega
          have HKC := Lib.hid (show Kp5 (addK K0 W W1) B0 n₀ W wc from HKW.out.trans (Kp5.of_below HTN.out.below))
          have HYB := Lib.hid (bx_kept HTN.out.below (HRE.out.kept.cells HR4.out (.inr (.inl (.inr ⟨by omega, by omega⟩)))))
          have HTC := Lib.hid (HTW.out wc HKC.out)
          have HQL := Lib.hid (show Qp.p.length = P.p.length + 1 from by rw [HQE.out]; simp)
          have HMK := Lib.hid (show ∀ D ∈ Ds, B0 ≤ D ∧ D < wr.heap.size ∧ wc.heap[D]? = some (.deferred (some [])) from fun D hD => ⟨(HRE.out.marks D hD).1, heap_lt' (HRE.out.marks D hD).2, (HTN.out.below.block D (heap_lt' (HRE.out.marks D hD).2)).trans (HRE.out.marks D hD).2⟩)
          clear HKW HKD HKP HR1 HR2 HR3 HR4 HTW HK1 HK2
          go_wp2_with fail
          refine (wpIn_wide (n := 3)).1 ?_
          refine wpIn_rangeFunc_K (α := Pth) rfl (by omega) (N := szTT (den (ls.map Ln.nd) z)) (gf := 122) (lb := #[.pointer (some ⟨bp', 0, none⟩), .pointer (some ⟨bt', 0, none⟩), .pointer (some ⟨bk', 0, none⟩)]) rfl trivial (enters_of Tryz.func122 (by kernel_rfl) rfl)
            (encs := fun x : Pth => #[x.val]) (At := PAt) (n₀ := n₀) (Kn := fun k => wr.heap.size ≤ k ∧ k < wc.heap.size) (S := fun xs => xs.map Pth.p = allTT (den (ls.map Ln.nd) z) Qp.p) ?seq (by omega) (fun _ => rfl) ?hAt
            (fun Kq s X => J Kq (pre ++ s) X ∧ (∀ k, addK K0 W W1 k → Kq k) ∧ Kp5 (addK K0 W W1) B0 n₀ wc X)
            (fun c Kq s X => c = .ret ∧ Jx Kq (pre ++ s) X ∧ ∀ D ∈ Ds, B0 ≤ D ∧ X.heap[D]? = some (.deferred (some [])))
            ?hI ?hIx (addK K wr wc) ?hK0 ?h0 ?aone ?assign ?body ?done ?stop
          case assign =>
            intro l x W K hK
            gi_wp2
            exact hK
          case seq =>
            intro l' J' Jx' K0' Wq hbw hKn hJ' hJx' hY' h0'
            refine (callsIn_wide (n := 3 - 1)).2 ((callsIn_wide (n := 3)).1 ?_)
            have h1 := HTN.out
            exact IH.out z hzn (by omega) l' bp' bt' bk' Qp J' Jx' K0' Wq (by have := HQL.out; omega) (HTC.out.below hbw) (by have := hbw.size; omega) (bx_kept hbw h1.b1.1) (bx_kept hbw h1.b2.1) (bx_kept hbw h1.b3.1)
              (h1.row.kept (fun k hk => hKn k hk) (fun k _ hl => hbw.block k hl)) (hKn _ ⟨h1.b1.2, heap_lt' h1.b1.1⟩) (hKn _ ⟨h1.b2.2, heap_lt' h1.b2.1⟩) (hKn _ ⟨h1.b3.2, heap_lt' h1.b3.1⟩) hJ' hJx'
              (fun K pre x W1 a b d => YieldAt.anyDepth rfl 2 (hY' K pre x W1 a b d)) h0'
          case hAt => exact fun K x X l o o' h1 h2 h3 => h1.put o' h2 h3
          case hI =>
            rintro Kq s X Y ⟨h1, h2, h3⟩ hs
            exact ⟨HJ.out _ _ _ _ h1 (hs.mono (by omega)), fun k hk => .inl (h2 k hk), h3.of_stp (Nat.le_refl _) hs⟩
          case hIx =>
            rintro c Kq s X Y ⟨h0, h1, h2⟩ hs
            exact ⟨h0, HJX.out _ _ _ _ h1 (hs.mono (by omega)), fun D hD => ⟨(h2 D hD).1, (hs.low (heap_lt' (h2 D hD).2) (by have := (HMK.out D hD).2.1; omega)).trans (h2 D hD).2⟩⟩
          case hK0 => exact fun k hk => .inr hk
          case h0 => exact ⟨by rw [List.append_nil]; exact HJ.out _ _ _ _ HRE.out.inv (Stp.of_below HTN.out.below), fun k hk => .inl (HRE.out.sub k hk), Kp5.refl _ _ _ _⟩
          case body =>
            rintro lq Kq s x Wb hlq ⟨hi1, hi2, hi3⟩ hat hsl
            obtain ⟨fn, tmps, asg, bod, hy, hR⟩ := YieldAt.inRound (l' := lq) (HY.out Kq (pre ++ s) x Wb hi1 hat (by
              have h1 := congrArg List.length HRE.out.eq
              rw [List.length_map, List.length_cons, allTTs_length] at h1
              have h2 := szs_take ts (i + 1)
              rw [HTI.out, szs_snoc] at h2
              rw [HSZ.out, List.length_append]; omega))
            obtain ⟨p1, _⟩ := blk1 (hi3.cells HYB.out (.inr (.inl (.inr ⟨by omega, by omega⟩))))
            have HI3 := Lib.hid hi3
            clear hi3
            gi_wp2
            refine (RoundIn.anyDepth rfl hR).mono ?_
            clear hR hy
            rintro e W5 (⟨rfl, hj5, hk5, hkf5, hbl5⟩ | ⟨rfl, hjx5, hkf5⟩)
            · gi_wp2
              exact ⟨⟨hkf5.size, fun k o hk => hkf5.same k o (by omega)⟩, hk5, hbl5, by rw [← List.append_assoc]; exact hj5, hi2, HI3.out.trans (Kp5.of_round hi2 hk5 hkf5 hbl5)⟩
            · gi_wp2
              exact ⟨⟨hkf5.size, fun k o hk => hkf5.same k o (by omega)⟩, rfl, by rw [← List.append_assoc]; exact hjx5, fun D hD => ⟨(HMK.out D hD).1, hkf5.same D _ (HMK.out D hD).1 (HI3.out.cells (HMK.out D hD).2.2 (.inr (.inr ⟨(HMK.out D hD).1, rfl⟩))) rfl⟩⟩
          case done =>
            rintro D Kq xs X hD hS ⟨h1, h2, h3⟩ hK
            gi_wp2
            have e1 : IntKind.i64.wrap ((i : Int) + 1) = (i : Int) + 1 := IntWalk.i64_in _ (by omega)
            go_wp2_with fail
            change ∃ m', m' < ts.length - i ∧ WJ l bp bt bk B0 n₀ (some ⟨kb, ko, none⟩) kids.length kc P J (addK K0 W W1) ts W2 m' _ X
            refine ⟨ts.length - (i + 1), by omega, i + 1, D :: Ds, Kq, pre ++ xs, ?_, rfl, ⟨by omega, h1, h2, ?_, HRE.out.kept.trans ((Kp5.of_below HTN.out.below).trans h3), List.nodup_cons.2 ⟨fun hm => by have := (HMK.out D hm).2.1; omega, HRE.out.nodup⟩, fun D' hD' => ?_⟩⟩
            · rw [show ((i : Int) + 1) = ((i + 1 : Nat) : Int) from by omega]
              exact w_slots l bp bt bk B0 _ _ _ (i + 1) (D :: Ds) _ _ _ _ _ _ _ _ _ _ _ _ _ _ _ _ _ _ _ _ _ _ _ _ _ _ _ _ _ _ _ _ _ _
            · rw [List.map_append, HRE.out.eq, hS, HTI.out, allTTs_app, allTTs_one, HQE.out, List.length_take, Nat.min_eq_left (by omega), Nat.zero_add]; rfl
            · rcases List.mem_cons.1 hD' with rfl | hD'
              · exact ⟨by omega, hK⟩
              · exact ⟨(HMK.out D' hD').1, h3.cells (HMK.out D' hD').2.2 (.inr (.inr ⟨(HMK.out D' hD').1, rfl⟩))⟩
          case stop =>
            rintro D c Kq s X hD ⟨rfl, h1, h2⟩ hK
            gi_wp2
            refine ret_marks (D :: Ds) rfl (List.nodup_cons.2 ⟨fun hm => by have := (HMK.out D hm).2.1; omega, HRE.out.nodup⟩) (fun D' hD' => ?_) fun w' hw' => ⟨_, results_none rfl _ _ _, ⟨_, rfl⟩, .inr ⟨_, _, HJX.out _ _ _ _ h1 (offD_stp hw' (fun D' hD' => ?_))⟩⟩
            · rcases List.mem_cons.1 hD' with rfl | hD'
              · exact hK
              · exact (h2 D' hD').2
            · rcases List.mem_cons.1 hD' with rfl | hD'
              · exact ⟨by omega, hK⟩
              · exact h2 D' hD'
      · have j1 : ¬ (i : Int) < (kids.length : Int) := by omega
        go_wp2_with fail
        refine ret_marks Ds rfl HRE.out.nodup (fun D hD => (HRE.out.marks D hD).2) fun w' hw' => ?_
        refine ⟨_, results_none rfl _ _ _, ⟨_, rfl⟩, .inl ⟨_, pre, ?_, HJ.out _ _ _ _ HRE.out.inv (offD_stp hw' (fun D hD => HRE.out.marks D hD))⟩⟩
        rw [HALL.out, HRE.out.eq, List.take_of_length_le (by omega)]
  · gi_wp2
    refine ret_marks [] rfl List.nodup_nil (by simp) fun w' hw' => ?_
    obtain rfl := hw'.nil
    exact ⟨_, results_none rfl _ _ _, ⟨_, rfl⟩, .inr ⟨_, _, hjx2⟩⟩
end Go.Proofs.YtmjkgnknfgoadaaGreatDoor
