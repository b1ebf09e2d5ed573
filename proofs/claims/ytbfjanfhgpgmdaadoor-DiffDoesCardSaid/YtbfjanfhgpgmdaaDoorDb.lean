/- Rows of structs in memory, and what hangs on them: which blocks they lie in. No program in sight. -/
import Derived.Test.YtbfjanfhgpgmdaaDoorApp
import Derived.Test.YtbfjanfhgpgmdaaDoorDa
import Derived.WalkKit
import Derived.Below
namespace Go.Proofs.YtbfjanfhgpgmdaaDoor
open Go.RowKit

/-- In the blocks S the world reads as it did. -/
def Agree (S : Nat → Prop) (w w' : World) : Prop := ∀ k, S k → k < w.heap.size → w'.heap[k]? = w.heap[k]?
theorem Agree.mono {S T : Nat → Prop} {w w' : World} (h : Agree S w w') (hS : ∀ k, k < w.heap.size → T k → S k) : Agree T w w' := fun k hk hl => h k (hS k hl hk) hl
theorem Agree.refl (S : Nat → Prop) (w : World) : Agree S w w := fun _ _ _ => rfl
theorem Agree.trans {S : Nat → Prop} {a b c : World} (h : Agree S a b) (k : Agree S b c) (hs : a.heap.size ≤ b.heap.size) : Agree S a c := fun i hi hl => (k i hi (by omega)).trans (h i hi hl)
theorem below_agree {B : Nat} {w w' : World} (h : Below B w w') : Agree (· < B) w w' := fun k hk _ => h.block k hk
theorem below_all {S : Nat → Prop} {w w' : World} (h : Below w.heap.size w w') : Agree S w w' := fun k _ hl => h.block k hl
theorem grown_agree {w w' : World} {row : Option Nat} (h : w.grownBy w' row) : Agree (fun k => some k ≠ row) w w' := fun k hk hl => h.block k hl hk
theorem set_agree (w : World) (a : Addr) (u : Value) : Agree (· ≠ a.block) w (w.setCell a u) := fun k hk _ => Below.heap_setCell w a u k hk
theorem alloc_agree (S : Nat → Prop) (w : World) (o : Obj) : Agree S w (w.alloc o) := fun k _ hl => Below.heap_alloc w o k hl
theorem drew_agree (S : Nat → Prop) (w : World) : Agree S w w.drew := fun _ _ _ => rfl

/-- The slice at A holds the cells xs, in the blocks S. -/
def RowIn (w : World) (S : Nat → Prop) (A : Option Addr) (xs : List Value) : Prop := RowAt w A xs ∧ (xs ≠ [] → ∀ ad, A = some ad → S ad.block)
theorem RowIn.lt {w : World} {S : Nat → Prop} {A : Option Addr} {xs : List Value} (h : RowIn w S A xs) (hx : xs ≠ []) : ∃ ad, A = some ad ∧ S ad.block ∧ ad.block < w.heap.size := by
  cases xs with
  | nil => exact absurd rfl hx
  | cons u r =>
    obtain ⟨ad, e, hc⟩ := h.1 0 u rfl
    have := cellLt hc
    rw [add_block] at this
    exact ⟨ad, e, h.2 hx ad e, this⟩
theorem RowIn.agree {w w' : World} {S : Nat → Prop} {A : Option Addr} {xs : List Value} (h : RowIn w S A xs) (hg : Agree S w w') : RowIn w' S A xs :=
  ⟨fun j u hu => by
    obtain ⟨ad, e, hc⟩ := h.1 j u hu
    refine ⟨ad, e, ?_⟩
    have hl := cellLt hc
    have hs := h.2 (fun e => by rw [e] at hu; simp at hu) ad e
    rw [← hc]
    exact World.cell?_of_block (hg _ (by rw [add_block]; exact hs) hl), h.2⟩
theorem RowIn.mono {w : World} {S T : Nat → Prop} {A : Option Addr} {xs : List Value} (h : RowIn w S A xs) (hS : ∀ k, k < w.heap.size → S k → T k) : RowIn w T A xs :=
  ⟨h.1, fun hx ad e => by
    obtain ⟨ad', e', h1, h2⟩ := h.lt hx
    rw [e] at e'; cases e'
    exact hS _ h2 h1⟩
theorem RowIn.nil (w : World) (S : Nat → Prop) (A : Option Addr) : RowIn w S A [] := ⟨fun j u hu => by simp at hu, fun h => absurd rfl h⟩
theorem RowAt.rowIn {w : World} {A : Option Addr} {xs : List Value} (h : RowAt w A xs) : RowIn w (· < w.heap.size) A xs :=
  ⟨h, fun hx ad e => by
    cases xs with
    | nil => exact absurd rfl hx
    | cons u r =>
      obtain ⟨ad', e', hc⟩ := h 0 u rfl
      rw [e] at e'; cases e'
      have := cellLt hc
      rwa [add_block] at this⟩
theorem own_rowIn {w : World} {base : Nat} {e : TypeId} {size n c : Nat} {A : Option Addr} {xs : List Value} {S : Nat → Prop} (h : w.ownsRow base e size (.slice A n c) n xs) (hS : ∀ ad, A = some ad → S ad.block) : RowIn w S A xs :=
  ⟨RowAt.own h, fun _ => hS⟩
theorem own_block {w : World} {base : Nat} {e : TypeId} {size n c : Nat} {A : Option Addr} {xs : List Value} (h : w.ownsRow base e size (.slice A n c) n xs) : ∀ ad, A = some ad → base ≤ ad.block ∧ ad.block < w.heap.size := fun ad e => by
  subst e; exact World.ownsRow.lt h ad.block rfl

/-- How a struct lies in memory: its cells, and what is known of what they point to. -/
structure Lay (α : Type) where
  size : Nat
  cells : α → List Value
  len : ∀ x, (cells x).length = size
  one : ∀ x, ∀ u ∈ cells x, u.oneCell' = true
  inn : World → (Nat → Prop) → α → Prop
  agree : ∀ {w w' : World} {S : Nat → Prop} {x : α}, inn w S x → Agree S w w' → inn w' S x
  mono : ∀ {w : World} {S T : Nat → Prop} {x : α}, inn w S x → (∀ k, k < w.heap.size → S k → T k) → inn w T x

section
variable {α : Type} (L : Lay α)
def Lay.all (l : List α) : List Value := l.flatMap L.cells
@[simp] theorem Lay.all_nil : L.all [] = [] := rfl
theorem Lay.all_append (l m : List α) : L.all (l ++ m) = L.all l ++ L.all m := by simp [Lay.all]
theorem Lay.all_one (x : α) : L.all [x] = L.cells x := by simp [Lay.all]
theorem Lay.all_length (l : List α) : (L.all l).length = l.length * L.size := by
  induction l with
  | nil => simp
  | cons x l ih =>
    have e : L.all (x :: l) = L.cells x ++ L.all l := by simp [Lay.all]
    rw [e, List.length_append, L.len, ih, List.length_cons, Nat.add_mul]; omega
theorem Lay.all_one' (l : List α) : ∀ u ∈ L.all l, u.oneCell' = true := fun u hu => by
  obtain ⟨x, _, hu⟩ := List.mem_flatMap.1 hu
  exact L.one x u hu
theorem Lay.all_at (l : List α) (i j : Nat) (hi : i < l.length) (hj : j < L.size) : (L.all l)[i * L.size + j]? = (L.cells l[i])[j]? := by
  induction l generalizing i with
  | nil => simp at hi
  | cons x l ih =>
    have e : L.all (x :: l) = L.cells x ++ L.all l := by simp [Lay.all]
    rw [e]
    cases i with
    | zero => rw [Nat.zero_mul, Nat.zero_add, List.getElem?_append_left (by rw [L.len]; exact hj)]; rfl
    | succ i =>
      rw [List.getElem?_append_right (by rw [L.len, Nat.add_mul]; omega), L.len]
      rw [show (i + 1) * L.size + j - L.size = i * L.size + j by rw [Nat.add_mul]; omega]
      simp only [List.length_cons] at hi
      rw [ih i (by omega)]; rfl
theorem Lay.all_set (l : List α) (i : Nat) (hi : i < l.length) (x : α) : L.all (l.set i x) = (L.all l).take (i * L.size) ++ L.cells x ++ (L.all l).drop ((i + 1) * L.size) := by
  have e : l.set i x = l.take i ++ x :: l.drop (i + 1) := by rw [List.set_eq_take_append_cons_drop, if_pos hi]
  have e2 : L.all l = L.all (l.take i) ++ L.all (l.drop i) := by rw [← L.all_append, List.take_append_drop]
  have e3 : L.all l = L.all (l.take (i + 1)) ++ L.all (l.drop (i + 1)) := by rw [← L.all_append, List.take_append_drop]
  have t1 : (L.all l).take (i * L.size) = L.all (l.take i) := by
    rw [e2, List.take_left' (by rw [L.all_length, List.length_take]; congr 1; omega)]
  have t2 : (L.all l).drop ((i + 1) * L.size) = L.all (l.drop (i + 1)) := by
    rw [e3, List.drop_left' (by rw [L.all_length, List.length_take]; congr 1; omega)]
  rw [t1, t2, e, L.all_append]
  simp [Lay.all]

/-- A row of structs at A, all that hangs on it in the blocks S. -/
def Lay.row (w : World) (S : Nat → Prop) (A : Option Addr) (l : List α) : Prop := RowIn w S A (L.all l) ∧ ∀ x ∈ l, L.inn w S x
variable {L}
theorem Lay.row.agree {w w' : World} {S : Nat → Prop} {A : Option Addr} {l : List α} (h : L.row w S A l) (hg : Agree S w w') : L.row w' S A l := ⟨h.1.agree hg, fun x hx => L.agree (h.2 x hx) hg⟩
theorem Lay.row.mono {w : World} {S T : Nat → Prop} {A : Option Addr} {l : List α} (h : L.row w S A l) (hS : ∀ k, k < w.heap.size → S k → T k) : L.row w T A l := ⟨h.1.mono hS, fun x hx => L.mono (h.2 x hx) hS⟩
theorem Lay.row.below {w w' : World} {S : Nat → Prop} {A : Option Addr} {l : List α} (h : L.row w S A l) (hg : Below w.heap.size w w') : L.row w' S A l := h.agree (below_all hg)
theorem Lay.row.nil (w : World) (S : Nat → Prop) (A : Option Addr) : L.row w S A [] := ⟨RowIn.nil _ _ _, by simp⟩
theorem Lay.row.rowAt {w : World} {S : Nat → Prop} {A : Option Addr} {l : List α} (h : L.row w S A l) : RowAt w A (L.all l) := h.1.1
/-- Where its cells lie. -/
theorem Lay.row.at {w : World} {S : Nat → Prop} {A : Option Addr} {l : List α} (h : L.row w S A l) (h0 : 0 < L.size) (i : Nat) (hi : i < l.length) :
    ∃ b o, A = some ⟨b, o, none⟩ ∧ S b ∧ b < w.heap.size ∧ ∀ j u, (L.cells l[i])[j]? = some u → w.cell? ⟨b, o + (i * L.size + j), none⟩ = some u := by
  have hne : L.all l ≠ [] := fun e => by
    have h1 := L.all_length l
    rw [e, List.length_nil] at h1
    have := Nat.mul_pos (show 0 < l.length by omega) h0
    omega
  obtain ⟨ad, rfl, hS, hlt⟩ := h.1.lt hne
  obtain ⟨b, o, sp⟩ := ad
  have hsp : sp = none := by
    have hu : ∃ u, (L.all l)[0]? = some u := by
      cases e : L.all l with
      | nil => exact absurd e hne
      | cons u r => exact ⟨u, rfl⟩
    obtain ⟨u, hu⟩ := hu
    obtain ⟨_, e, hc⟩ := h.1.1 0 u hu
    cases e
    cases sp with
    | none => rfl
    | some x =>
      rw [Addr.add_zero'] at hc
      unfold World.cell? at hc
      split at hc <;> simp at hc
  subst hsp
  refine ⟨b, o, rfl, hS, hlt, fun j u hu => ?_⟩
  have hj : j < L.size := by have := (List.getElem?_eq_some_iff.1 hu).1; rwa [L.len] at this
  obtain ⟨_, e, hc⟩ := h.1.1 (i * L.size + j) u ((L.all_at l i j hi hj).trans hu)
  cases e
  rw [Addr.add_lit] at hc
  exact hc
theorem Lay.row.sub {w : World} {S : Nat → Prop} {A : Option Addr} {l : List α} (h : L.row w S A l) (i : Nat) (hi : i < l.length) : L.inn w S l[i] := h.2 _ (List.getElem_mem hi)
end

/-! ### numbers -/
def intL : Lay Int where
  size := 1
  cells n := [.int .i64 n]
  len _ := rfl
  one _ u hu := by simp at hu; subst hu; rfl
  inn _ _ _ := True
  agree _ _ := trivial
  mono _ _ := trivial
theorem intL_all (l : List Int) : intL.all l = l.map (Value.int .i64) := by
  induction l with
  | nil => rfl
  | cons x l ih => show Value.int .i64 x :: intL.all l = _; rw [ih]; rfl
theorem intRow {w : World} {S : Nat → Prop} {A : Option Addr} {l : List Int} (h : intL.row w S A l) (i : Nat) (hi : i < l.length) : ∃ b o, A = some ⟨b, o, none⟩ ∧ S b ∧ b < w.heap.size ∧ w.cell? ⟨b, o + i, none⟩ = some (.int .i64 l[i]) := by
  obtain ⟨b, o, e, hS, hl, hc⟩ := h.at (by decide) i hi
  refine ⟨b, o, e, hS, hl, ?_⟩
  have := hc 0 _ rfl
  simpa [intL] using this

/-! ### nodes -/
/-- A node, and where its kids lie. -/
structure Ln where
  nd : Nd
  A : Option Addr
  c : Nat
abbrev Ln.kv (n : Ln) : Value := .slice n.A n.nd.kids.length n.c
abbrev ndV (n : Nd) (K : Value) : Value := .agg #[.int .u8 n.kind, .int .u64 n.s0, .int .u64 n.s1, .int .u64 n.s2, .int .u64 n.s3, .string n.text, .int .i64 n.mn, .int .i64 n.mx, K]
abbrev Ln.val (n : Ln) : Value := ndV n.nd n.kv
def U64 (z : Int) : Prop := 0 ≤ z ∧ z < 18446744073709551616
/-- What is known of a node that lies in memory. -/
def Nd.wf (n : Nd) : Prop := (0 ≤ n.kind ∧ n.kind ≤ 255) ∧ n.text.size ≤ 281474976710656 ∧ n.kids.length ≤ 281474976710656 ∧ U64 n.s0 ∧ U64 n.s1 ∧ U64 n.s2 ∧ U64 n.s3
def ndL : Lay Ln where
  size := 9
  cells n := [.int .u8 n.nd.kind, .int .u64 n.nd.s0, .int .u64 n.nd.s1, .int .u64 n.nd.s2, .int .u64 n.nd.s3, .string n.nd.text, .int .i64 n.nd.mn, .int .i64 n.nd.mx, n.kv]
  len _ := rfl
  one _ u hu := by
    simp only [List.mem_cons, List.not_mem_nil, or_false] at hu
    rcases hu with rfl | rfl | rfl | rfl | rfl | rfl | rfl | rfl | rfl <;> rfl
  inn w S n := n.nd.wf ∧ intL.row w S n.A n.nd.kids
  agree h hg := ⟨h.1, h.2.agree hg⟩
  mono h hS := ⟨h.1, h.2.mono hS⟩
theorem ndRow {w : World} {S : Nat → Prop} {A : Option Addr} {l : List Ln} (h : ndL.row w S A l) (i : Nat) (hi : i < l.length) :
    ∃ b o, A = some ⟨b, o, none⟩ ∧ S b ∧ b < w.heap.size ∧ w.cell? ⟨b, o + i * 9, none⟩ = some (.int .u8 l[i].nd.kind) ∧ w.cell? ⟨b, o + i * 9 + 1, none⟩ = some (.int .u64 l[i].nd.s0) ∧ w.cell? ⟨b, o + i * 9 + 2, none⟩ = some (.int .u64 l[i].nd.s1) ∧
      w.cell? ⟨b, o + i * 9 + 3, none⟩ = some (.int .u64 l[i].nd.s2) ∧ w.cell? ⟨b, o + i * 9 + 4, none⟩ = some (.int .u64 l[i].nd.s3) ∧ w.cell? ⟨b, o + i * 9 + 5, none⟩ = some (.string l[i].nd.text) ∧
      w.cell? ⟨b, o + i * 9 + 6, none⟩ = some (.int .i64 l[i].nd.mn) ∧ w.cell? ⟨b, o + i * 9 + 7, none⟩ = some (.int .i64 l[i].nd.mx) ∧ w.cell? ⟨b, o + i * 9 + 8, none⟩ = some (.slice l[i].A l[i].nd.kids.length l[i].c) := by
  obtain ⟨b, o, e, hS, hl, hc⟩ := h.at (by decide) i hi
  have hc : ∀ j u, (ndL.cells l[i])[j]? = some u → w.cell? ⟨b, o + i * 9 + j, none⟩ = some u := fun j u hu => by rw [Nat.add_assoc]; exact hc j u hu
  exact ⟨b, o, e, hS, hl, hc 0 _ rfl, hc 1 _ rfl, hc 2 _ rfl, hc 3 _ rfl, hc 4 _ rfl, hc 5 _ rfl, hc 6 _ rfl, hc 7 _ rfl, hc 8 _ rfl⟩

/-! ### trees -/
/-- A tree, and where it lies. -/
structure Lt where
  A : Option Addr
  c : Nat
  ls : List Ln
  root : Int
def Lt.tr (t : Lt) : Tr := ⟨t.ls.map Ln.nd, t.root⟩
abbrev Lt.val (t : Lt) : Value := .agg #[.slice t.A t.ls.length t.c, .int .i64 t.root]
def Lt.inn (w : World) (S : Nat → Prop) (t : Lt) : Prop := t.ls.length ≤ 281474976710656 ∧ ndL.row w S t.A t.ls
theorem Lt.inn.agree {w w' : World} {S : Nat → Prop} {t : Lt} (h : t.inn w S) (hg : Agree S w w') : t.inn w' S := ⟨h.1, h.2.agree hg⟩
theorem Lt.inn.mono {w : World} {S T : Nat → Prop} {t : Lt} (h : t.inn w S) (hS : ∀ k, k < w.heap.size → S k → T k) : t.inn w T := ⟨h.1, h.2.mono hS⟩
theorem Lt.inn.below {w w' : World} {S : Nat → Prop} {t : Lt} (h : t.inn w S) (hg : Below w.heap.size w w') : t.inn w' S := Lt.inn.agree h (below_all hg)

/-! ### rules -/
structure Ld where
  name : ByteArray
  t : Lt
def Ld.df (d : Ld) : Df := ⟨d.name, d.t.tr⟩
abbrev Ld.val (d : Ld) : Value := .agg #[.string d.name, .slice d.t.A d.t.ls.length d.t.c, .int .i64 d.t.root]
def dfL : Lay Ld where
  size := 3
  cells d := [.string d.name, .slice d.t.A d.t.ls.length d.t.c, .int .i64 d.t.root]
  len _ := rfl
  one _ u hu := by
    simp only [List.mem_cons, List.not_mem_nil, or_false] at hu
    rcases hu with rfl | rfl | rfl <;> rfl
  inn w S d := d.name.size ≤ 281474976710656 ∧ d.t.inn w S
  agree h hg := ⟨h.1, h.2.agree hg⟩
  mono h hS := ⟨h.1, h.2.mono hS⟩
theorem dfRow {w : World} {S : Nat → Prop} {A : Option Addr} {l : List Ld} (h : dfL.row w S A l) (i : Nat) (hi : i < l.length) :
    ∃ b o, A = some ⟨b, o, none⟩ ∧ S b ∧ b < w.heap.size ∧ w.cell? ⟨b, o + i * 3, none⟩ = some (.string l[i].name) ∧ w.cell? ⟨b, o + i * 3 + 1, none⟩ = some (.slice l[i].t.A l[i].t.ls.length l[i].t.c) ∧ w.cell? ⟨b, o + i * 3 + 2, none⟩ = some (.int .i64 l[i].t.root) := by
  obtain ⟨b, o, e, hS, hl, hc⟩ := h.at (by decide) i hi
  have hc : ∀ j u, (dfL.cells l[i])[j]? = some u → w.cell? ⟨b, o + i * 3 + j, none⟩ = some u := fun j u hu => by rw [Nat.add_assoc]; exact hc j u hu
  exact ⟨b, o, e, hS, hl, hc 0 _ rfl, hc 1 _ rfl, hc 2 _ rfl⟩
theorem dfSub {w : World} {S : Nat → Prop} {A : Option Addr} {l : List Ld} (h : dfL.row w S A l) (i : Nat) (hi : i < l.length) : l[i].t.inn w S := (h.sub i hi).2
theorem ndWf {w : World} {S : Nat → Prop} {A : Option Addr} {l : List Ln} (h : ndL.row w S A l) (i : Nat) (hi : i < l.length) : l[i].nd.wf := (h.sub i hi).1
theorem ndSub {w : World} {S : Nat → Prop} {A : Option Addr} {l : List Ln} (h : ndL.row w S A l) (i : Nat) (hi : i < l.length) : intL.row w S l[i].A l[i].nd.kids := (h.sub i hi).2

/-! ### edits -/
structure Le where
  kind : Int
  d : Ld
abbrev Le.val (e : Le) : Value := .agg #[.int .u8 e.kind, .string e.d.name, .slice e.d.t.A e.d.t.ls.length e.d.t.c, .int .i64 e.d.t.root]
def edL : Lay Le where
  size := 4
  cells e := [.int .u8 e.kind, .string e.d.name, .slice e.d.t.A e.d.t.ls.length e.d.t.c, .int .i64 e.d.t.root]
  len _ := rfl
  one _ u hu := by
    simp only [List.mem_cons, List.not_mem_nil, or_false] at hu
    rcases hu with rfl | rfl | rfl | rfl <;> rfl
  inn w S e := (0 ≤ e.kind ∧ e.kind ≤ 255) ∧ e.d.name.size ≤ 281474976710656 ∧ e.d.t.inn w S
  agree h hg := ⟨h.1, h.2.1, h.2.2.agree hg⟩
  mono h hS := ⟨h.1, h.2.1, h.2.2.mono hS⟩
theorem edRow {w : World} {S : Nat → Prop} {A : Option Addr} {l : List Le} (h : edL.row w S A l) (i : Nat) (hi : i < l.length) :
    ∃ b o, A = some ⟨b, o, none⟩ ∧ S b ∧ b < w.heap.size ∧ w.cell? ⟨b, o + i * 4, none⟩ = some (.int .u8 l[i].kind) ∧ w.cell? ⟨b, o + i * 4 + 1, none⟩ = some (.string l[i].d.name) ∧ w.cell? ⟨b, o + i * 4 + 2, none⟩ = some (.slice l[i].d.t.A l[i].d.t.ls.length l[i].d.t.c) ∧ w.cell? ⟨b, o + i * 4 + 3, none⟩ = some (.int .i64 l[i].d.t.root) := by
  obtain ⟨b, o, e, hS, hl, hc⟩ := h.at (by decide) i hi
  have hc : ∀ j u, (edL.cells l[i])[j]? = some u → w.cell? ⟨b, o + i * 4 + j, none⟩ = some u := fun j u hu => by rw [Nat.add_assoc]; exact hc j u hu
  exact ⟨b, o, e, hS, hl, hc 0 _ rfl, hc 1 _ rfl, hc 2 _ rfl, hc 3 _ rfl⟩
theorem edSub {w : World} {S : Nat → Prop} {A : Option Addr} {l : List Le} (h : edL.row w S A l) (i : Nat) (hi : i < l.length) : l[i].d.t.inn w S := (h.sub i hi).2.2
end Go.Proofs.YtbfjanfhgpgmdaaDoor
