/- A range over an iterator that turns one block of the caller's own (a reader) between two rounds, and tells at its end where that stands. A range over an iterator that has memory of its own kinds, which the body keeps. The contract of quote.plain. -/
import Derived.Test.YtpfokabdpmjobaaDoorNa
import Derived.RangeFuncWrites
import Derived.RangeFuncLeaves
import Derived.RangeFuncBox
import Derived.RangeFuncCalls
import Derived.RangeFuncBound
import Derived.RangeFuncFrom
import Derived.Test.YtpfokabdpmjobaaDoorLa
import Derived.Test.YtpfokabdpmjobaaDoorShelf
namespace Go.Proofs.YtpfokabdpmjobaaDoor
open Go.RowKit
set_option linter.unusedSimpArgs false
set_option linter.unusedVariables false
section
variable {F : Fence} {n : Nat} {P : Program}
def SeqRd {α : Type} (F : Fence) (n : Nat) (P : Program) (g : Nat) (lb : Array Value) (encs : α → Array Value) (r : Nat) (At : List α × α → World → Prop) (Bk S : List α → World → Prop) (w0 : World) : Prop :=
  ∀ (l : Nat) (J Jx : List α → World → Prop) (W : World), Below w0.heap.size w0 W →
    (∀ s A B, J s A → A.grownBy B (some r) → J s B) →
    (∀ pre x W1, J pre W1 → At (pre, x) W1 → YieldAt F (n - 1) P l (encs x) W1 fun e W' =>
      (e = .returned (.bool true) ∧ J (pre ++ [x]) W' ∧ Bk (pre ++ [x]) W') ∨ (e = .returned (.bool false) ∧ Jx (pre ++ [x]) W')) →
    J [] W →
    CallsIn F n P g (#[.func (.yield l) #[] #[]] ++ lb) W fun e W' => (∃ v, e = .returned v) ∧ ((∃ xs, S xs W' ∧ J xs W') ∨ (∃ pre, Jx pre W'))
def rdPost {α : Type} (B : Nat) (Bk I : List α → World → Prop) (Ix : Code → List α → World → Prop) (xs : List α) (W : World) : Exit → Act → World → Prop
  | .normal, _, W' => KeepsFrom B W W' ∧ Bk xs W' ∧ I xs W'
  | .ret, _, W' => KeepsFrom B W W' ∧ Ix .ret xs W'
  | .exit id, _, W' => KeepsFrom B W W' ∧ Ix (.exit id) xs W'
  | .goto t, _, W' => KeepsFrom B W W' ∧ Ix (.goto t) xs W'
  | .panic _, _, _ => False
  | .outgrown, _, _ => False
theorem wpIn_rangeFunc_rd {α : Type} {g : Operand} {ps : Array Tmp} {assign body : Code} {Q : Exit → Act → World → Prop} {a : Act} {w : World}
    (hro : F.round = none) (h1 : 1 ≤ n) {gf : Nat} {lb : Array Value} (hg : a.eval g = .func (.func gf) #[] lb) (hFg : F.fn gf) (eg : ∀ args w, (callFunc gf args).run P w = .ok (.enter gf args) w)
    {encs : α → Array Value} {r : Nat} (hr : r < w.heap.size) {At : List α × α → World → Prop} {Bk S : List α → World → Prop} (hseq : SeqRd F (n - 1) P gf lb encs r At Bk S w)
    (hAt : OwnFrom w.heap.size At) (hBk : OwnFrom w.heap.size Bk) (hS : OwnFrom w.heap.size S) (hps : ∀ x, (encs x).size = ps.size)
    (I : List α → World → Prop) (Ix : Code → List α → World → Prop) (hI : OwnFrom w.heap.size I) (hIr : ∀ s A B, I s A → A.grownBy B (some r) → I s B) (hIx : ∀ c, OwnFrom w.heap.size (Ix c)) (h0 : I [] w) (a₁ : α → Act)
    (hassign : ∀ (l : Nat) (x : α) (W : World) (K : Act → World → Prop), K (a₁ x) W →
      assign.wpIn (F.inRound l) (n - 1 - 1) P (Exit.then K (fun _ _ _ => False)) { tmps := (ps.zip (encs x)).foldl (fun t (p, v) => t.setIfInBounds p v) a.tmps, defers := [] } W)
    (hbody : ∀ (l : Nat) (pre : List α) (x : α) (W : World), I pre W → At (pre, x) W → body.wpIn (F.inRound l) (n - 1 - 1) P (rdPost w.heap.size Bk I Ix (pre ++ [x]) W) (a₁ x) W)
    (hdone : ∀ (D : Nat) (xs : List α) (W : World), w.heap.size ≤ D → S xs W → I xs W → W.heap[D]? = some (.deferred (some [])) → Q .normal { a with defers := { target := .collected D, args := #[] } :: a.defers } W)
    (hstop : ∀ (D : Nat) (c : Code) (pre : List α) (W : World), w.heap.size ≤ D → Ix c pre W → W.heap[D]? = some (.deferred (some [])) → c.wpIn F n P Q { a with defers := { target := .collected D, args := #[] } :: a.defers } W) :
    (Code.rangeFunc g ps assign body).wpIn F n P Q a w := by
  refine wpIn_rangeFunc ?_
  intro fn hfn
  rw [hro]
  obtain ⟨rec, hrec⟩ : ∃ rec : LoopState → Option Code → Loop, rec = fun st pe => { state := st, pending := pe, fn, tmps := a.tmps, params := ps, assign, body, defers := w.heap.size } := ⟨_, rfl⟩
  obtain ⟨W1, hW1⟩ : ∃ W1, (w.alloc (.deferred (some []))).alloc (.loop (rec .ready none)) = W1 := ⟨_, rfl⟩
  have hL1 : W1.heap[w.heap.size + 1]? = some (.loop (rec .ready none)) := by
    rw [← hW1]; have := World.alloc_heap_new (w.alloc (.deferred (some []))) (.loop (rec .ready none)); rwa [World.size_alloc] at this
  have hK1 : W1.heap[w.heap.size]? = some (.deferred (some [])) := by
    rw [← hW1]; exact (Below.heap_alloc _ _ _ (by simp)).trans (World.alloc_heap_new w _)
  have hI1 : I [] W1 := by rw [← hW1]; exact hI.alloc _ (hI.alloc _ h0)
  have hb1 : Below w.heap.size w W1 := by rw [← hW1]; exact ((Below.refl _ w).alloc (Nat.le_refl _) _).alloc (by simp) _
  have hlt : ∀ {W : World} {st : LoopState} {pe : Option Code}, W.heap[w.heap.size + 1]? = some (.loop (rec st pe)) → w.heap.size + 1 < W.heap.size := fun hl => (Array.getElem?_eq_some_iff.1 hl).1
  refine ⟨w.heap.size + 1, [{ target := .collected w.heap.size, args := #[] }], W1, { target := .fn (.func gf) lb, args := #[.func (.yield (w.heap.size + 1)) #[] #[]] }, W1, gf,
    #[.func (.yield (w.heap.size + 1)) #[] #[]] ++ lb, W1, ?_, ?_, ?_, ?_, fun _ => h1, ?_⟩
  · rw [← hW1, hrec]; exact run_enterLoop_outer _ _ _ _ _
  · simp only [resolve, hg]
    simp [go_sem]
  · intro f' hf'; simp [Target.leads] at hf'; subst hf'; exact hFg
  · simp [invoke, go_sem, eg]
  · refine (hseq (w.heap.size + 1)
      (fun pre W => I pre W ∧ W.heap[w.heap.size + 1]? = some (.loop (rec .ready none)) ∧ W.heap[w.heap.size]? = some (.deferred (some [])))
      (fun pre W => ∃ c, Ix c pre W ∧ W.heap[w.heap.size + 1]? = some (.loop (rec .done (some c))) ∧ W.heap[w.heap.size]? = some (.deferred (some [])))
      W1 hb1
      (fun s A B hs hg' => ⟨hIr s A B hs.1 hg', (hg'.block _ (hlt hs.2.1) (fun e => by cases e; omega)).trans hs.2.1, (hg'.block _ (by have := hlt hs.2.1; omega) (fun e => by cases e; omega)).trans hs.2.2⟩)
      ?_ ⟨hI1, hL1, hK1⟩).mono ?_
    · rintro pre x W ⟨hi, hl, hk⟩ hat
      have hlt1 := hlt hl
      have hy := run_yield (P := P) (args := encs x) hl (by rw [hrec]; exact hps x)
      rw [hrec] at hy
      refine ⟨fn, _, assign, body, hy, roundIn_of_wpIn hfn (hassign _ x W _ ⟨_, run_beginRound hl (by rw [hrec]), ?_⟩)⟩
      have hl2 : (W.putObj (w.heap.size + 1) (.loop { rec .ready none with state := .busy })).heap[w.heap.size + 1]? = some (.loop { rec .ready none with state := .busy }) := World.putObj_heap_same hlt1
      have hk2 : (W.putObj (w.heap.size + 1) (.loop { rec .ready none with state := .busy })).heap[w.heap.size]? = some (.deferred (some [])) := (World.putObj_heap_other (by omega)).trans hk
      refine wpIn_mono (hbody _ pre x _ (hI.putObj _ hi (by omega) hl rfl) (hAt.putObj _ hat (by omega) hl rfl)) ?_
      have fin : ∀ (jump : Option Code) (W3 : World), KeepsFrom w.heap.size (W.putObj (w.heap.size + 1) (.loop { rec .ready none with state := .busy })) W3 →
          (Instr.endRound (w.heap.size + 1) jump).run P W3 = .ok (.bool jump.isNone) (W3.putObj (w.heap.size + 1) (.loop (rec (if jump.isNone then .ready else .done) jump))) ∧
          W3.heap[w.heap.size + 1]? = some (.loop { rec .ready none with state := .busy }) ∧
          (W3.putObj (w.heap.size + 1) (.loop (rec (if jump.isNone then .ready else .done) jump))).heap[w.heap.size + 1]? = some (.loop (rec (if jump.isNone then .ready else .done) jump)) ∧
          (W3.putObj (w.heap.size + 1) (.loop (rec (if jump.isNone then .ready else .done) jump))).heap[w.heap.size]? = some (.deferred (some [])) := fun jump W3 hk3 => by
        have hl3 := hk3.same _ _ (by omega) hl2 rfl
        have := run_endRound (P := P) jump hl3
        rw [hrec] at this ⊢
        exact ⟨this, by rw [hrec] at hl3; exact hl3, World.putObj_heap_same (Array.getElem?_eq_some_iff.1 hl3).1, (World.putObj_heap_other (by omega)).trans (hk3.same _ _ (Nat.le_refl _) hk2 rfl)⟩
      rintro e a3 W3 hp
      cases e with
      | normal =>
        obtain ⟨hk3, hbk3, hi3⟩ := hp
        obtain ⟨hr, hl3, hl4, hk4⟩ := fin none W3 hk3
        exact ⟨_, _, hr, .inl ⟨rfl, ⟨hI.putObj _ hi3 (by omega) hl3 rfl, hl4, hk4⟩, hBk.putObj _ hbk3 (by omega) hl3 rfl⟩⟩
      | ret =>
        obtain ⟨hk3, hi3⟩ := hp
        obtain ⟨hr, hl3, hl4, hk4⟩ := fin (some .ret) W3 hk3
        exact ⟨_, _, hr, .inr ⟨rfl, .ret, (hIx _).putObj _ hi3 (by omega) hl3 rfl, hl4, hk4⟩⟩
      | exit id =>
        obtain ⟨hk3, hi3⟩ := hp
        obtain ⟨hr, hl3, hl4, hk4⟩ := fin (some (.exit id)) W3 hk3
        exact ⟨_, _, hr, .inr ⟨rfl, .exit id, (hIx _).putObj _ hi3 (by omega) hl3 rfl, hl4, hk4⟩⟩
      | goto t =>
        obtain ⟨hk3, hi3⟩ := hp
        obtain ⟨hr, hl3, hl4, hk4⟩ := fin (some (.goto t)) W3 hk3
        exact ⟨_, _, hr, .inr ⟨rfl, .goto t, (hIx _).putObj _ hi3 (by omega) hl3 rfl, hl4, hk4⟩⟩
      | panic ch => exact hp.elim
      | outgrown => exact hp.elim
    · rintro e W2 ⟨⟨v, rfl⟩, (⟨xs, hS2, hi, hl, hk⟩ | ⟨pre, c, hi, hl, hk⟩)⟩
      · exact ⟨none, _, by have := run_endLoop (P := P) hl (by rw [hrec]; simp); rw [hrec] at this; exact this, hdone _ xs _ (Nat.le_refl _) (hS.putObj _ hS2 (by omega) hl rfl) (hI.putObj _ hi (by omega) hl rfl) ((World.putObj_heap_other (by omega)).trans hk)⟩
      · exact ⟨some c, _, by have := run_endLoop (P := P) hl (by rw [hrec]; simp); rw [hrec] at this; exact this, hstop _ c pre _ (Nat.le_refl _) ((hIx c).putObj _ hi (by omega) hl rfl) ((World.putObj_heap_other (by omega)).trans hk)⟩
end
end Go.Proofs.YtpfokabdpmjobaaDoor
namespace Go.Proofs.YtpfokabdpmjobaaDoor
open Go.RowKit
set_option linter.unusedSimpArgs false
set_option linter.unusedVariables false
section
variable {F : Fence} {n : Nat} {P : Program}
def loopish : Obj → Bool
  | .loop _ => true
  | .deferred _ => true
  | _ => false
def NewK (W0 W1 W' : World) : Prop := ∀ k, W0.heap.size ≤ k → k < W1.heap.size → W'.heap[k]? = W1.heap[k]?
theorem below_put2 {A B : World} {l : Nat} {o : Obj} (h : Below A.heap.size A B) (hl : l < A.heap.size) : Below (A.putObj l o).heap.size (A.putObj l o) (B.putObj l o) := by
  have e1 : (A.putObj l o).heap.size = A.heap.size := by simp [World.putObj]
  have e2 : (B.putObj l o).heap.size = B.heap.size := by simp [World.putObj]
  refine ⟨h.os, h.tape, h.output, by rw [e1, e2]; exact h.size, fun k hk => ?_⟩
  rw [e1] at hk
  by_cases hkl : k = l
  · subst hkl
    rw [World.putObj_heap_same hk, World.putObj_heap_same (Nat.lt_of_lt_of_le hk h.size)]
  · rw [World.putObj_heap_other hkl, World.putObj_heap_other hkl]; exact h.block k hk
def SeqKp {α : Type} (F : Fence) (n : Nat) (P : Program) (g : Nat) (lb : Array Value) (encs : α → Array Value) (At : List α × α → Prop) (Kp : World → World → Prop) (S : List α → Prop) (w0 : World) : Prop :=
  ∀ (l : Nat) (J Jx : List α → World → Prop) (W : World), Below w0.heap.size w0 W →
    (∀ s A B, J s A → Below A.heap.size A B → J s B) → (∀ s A B, Jx s A → Below A.heap.size A B → Jx s B) →
    (∀ pre x W0 W1, J pre W0 → Below W0.heap.size W0 W1 → At (pre, x) → YieldAt F (n - 1) P l (encs x) W1 fun e W' =>
      (e = .returned (.bool true) ∧ J (pre ++ [x]) W' ∧ Kp W1 W' ∧ NewK W0 W1 W') ∨ (e = .returned (.bool false) ∧ Jx (pre ++ [x]) W')) →
    J [] W →
    CallsIn F n P g (#[.func (.yield l) #[] #[]] ++ lb) W fun e W' => (∃ v, e = .returned v) ∧ ((∃ xs, S xs ∧ J xs W') ∨ (∃ pre, Jx pre W'))
def kpPost {α : Type} (B : Nat) (Kp : World → World → Prop) (I : List α → World → Prop) (Ix : Code → List α → World → Prop) (xs : List α) (W0 W : World) : Exit → Act → World → Prop
  | .normal, _, W' => KeepsFrom B W W' ∧ Kp W W' ∧ NewK W0 W W' ∧ I xs W'
  | .ret, _, W' => KeepsFrom B W W' ∧ Ix .ret xs W'
  | .exit id, _, W' => KeepsFrom B W W' ∧ Ix (.exit id) xs W'
  | .goto t, _, W' => KeepsFrom B W W' ∧ Ix (.goto t) xs W'
  | .panic _, _, _ => False
  | .outgrown, _, _ => False
end
end Go.Proofs.YtpfokabdpmjobaaDoor
namespace Go.Proofs.YtpfokabdpmjobaaDoor
open Go.RowKit
set_option linter.unusedSimpArgs false
set_option linter.unusedVariables false
theorem index_lt : ∀ (l : List UInt8) (b : UInt8), (Lib.indexByte l b < 0 ↔ b ∉ l)
  | [], b => by simp [Lib.indexByte]
  | x :: l, b => by
    have ih := index_lt l b
    have h := Lib.indexByte_ge l b
    unfold Lib.indexByte
    by_cases hx : x = b
    · subst hx; simp
    · have hx' : ¬ b = x := fun e => hx e.symm
      rw [if_neg (by simpa using hx)]
      simp only [List.mem_cons, not_or, hx', not_false_eq_true, true_and, ← ih]
      by_cases h1 : Lib.indexByte l b = -1
      · rw [if_pos (by simpa using h1), h1]
      · rw [if_neg (by simpa using h1)]; omega
theorem toU8 (b : UInt8) : ((b.toNat : Int).toNat).toUInt8 = b := by simp
theorem eq92 (b : UInt8) : ((b.toNat : Int) == 92) = decide (b = 92) := by
  rw [Bool.eq_iff_iff, beq_iff_eq, decide_eq_true_eq, ← UInt8.toNat_inj]
  show _ ↔ b.toNat = 92
  omega
set_option maxHeartbeats 1000000 in
theorem plain_any (b : UInt8) (left : ByteArray) (w : World) :
    Calls Tryd.prog 99 #[.int .u8 (b.toNat : Int), .string left] w fun e w' => e = .returned (.bool (decide (plainP b left.data.toList))) ∧ w' = w := by
  go_enter Tryd.func99, Tryd.ntmps99
  by_cases h1 : (32 : Int) ≤ (b.toNat : Int)
  · by_cases h2 : (b.toNat : Int) ≤ 126
    · have h3 := eq92 b
      by_cases h4 : b = 92
      · rw [decide_eq_true h4] at h3
        have h6 : (b.toNat : Int) = 92 := by simpa using h3
        have hp : ¬ plainP b left.data.toList := fun h => h.2.1 h4
        go_wp2
        go_ret
        exact ⟨by first | rfl | (rw [decide_eq_false hp]; rfl) | simp [hp], rfl⟩
      · rw [decide_eq_false h4] at h3
        have h6 : ¬ (b.toNat : Int) = 92 := by simpa using h3
        have h9 : ((b.toNat : Int) != 92) = true := by simpa using h6
        have h5 := index_lt left.data.toList b
        by_cases h7 : b ∈ left.data.toList
        · have hp : ¬ plainP b left.data.toList := fun h => h.2.2 h7
          have h8 : ¬ Lib.indexByte left.data.toList b < 0 := fun h => h5.1 h h7
          go_wp2_with (go_at_call 64; refine (Tryd.strings_IndexByte left (b.toNat : Int) _).mono ?_; rintro e w' ⟨rfl, rfl⟩; rw [toU8])
          go_ret
          exact ⟨by first | rfl | (rw [decide_eq_false hp]; rfl) | simp [hp], rfl⟩
        · have hp : plainP b left.data.toList := ⟨⟨by omega, by omega⟩, h4, h7⟩
          have h8 := h5.2 h7
          go_wp2_with (go_at_call 64; refine (Tryd.strings_IndexByte left (b.toNat : Int) _).mono ?_; rintro e w' ⟨rfl, rfl⟩; rw [toU8])
          go_ret
          exact ⟨by first | rfl | (rw [decide_eq_true hp]; rfl) | simp [hp], rfl⟩
    · have hp : ¬ plainP b left.data.toList := fun h => by have := h.1.2; omega
      go_wp2
      go_ret
      exact ⟨by first | rfl | (rw [decide_eq_false hp]; rfl) | simp [hp], rfl⟩
  · have hp : ¬ plainP b left.data.toList := fun h => by have := h.1.1; omega
    go_wp2
    go_ret
    exact ⟨by first | rfl | (rw [decide_eq_false hp]; rfl) | simp [hp], rfl⟩
end Go.Proofs.YtpfokabdpmjobaaDoor
