/- The contracts of strings.Builder that the shelf does not lay over this seat: copyCheck, WriteString. Plain laws of bytes, signs, literals, classes and sets of four words; no program in sight. The contract of quote.plain. -/
import Derived.Test.YtmjkgnknfgoadaaGreatDoorPn
import Derived.Test.YtmjkgnknfgoadaaGreatDoorShelf
import Derived.WalkKit
import Derived.WalkSpells
import Derived.WalkLawsBesides
import Derived.Lib.Builder
import Derived.Lib.AppendStr
import Derived.Lib.UnsafeStr
import Derived.Laws.Externs
import Derived.Lib.TrailingZeros
import Derived.Lib.IndexBytes
import Derived.Test.YtmjkgnknfgoadaaGreatDoorNa
namespace Go.Proofs.YtmjkgnknfgoadaaGreatDoor
open Go.RowKit
set_option linter.unusedSimpArgs false
set_option linter.unusedVariables false
abbrev BAt (B b : Nat) (p : Value) (l : List UInt8) (w : World) : Prop := Lib.BuilderAt 117 5 B b p (Lib.byteCells l) w
abbrev IsB (B b : Nat) (l : List UInt8) (w : World) : Prop := Lib.IsBuilder 117 5 B b (Lib.byteCells l) w
theorem sizeBuilder : (Tryz.prog.info? 117).map (·.size) = some 2 := by kernel_rfl
theorem liesBuilder : liesAt Tryz.prog Tryz.prog.depth 117 (2 / Tryz.prog.cellsOf 117) 0 117 1 = true := by kernel_rfl
set_option maxHeartbeats 1000000 in
set_option maxRecDepth 100000 in
theorem copyCheck_used (b : Nat) (w : World) (h0 : w.cell? ⟨b, 0, none⟩ = some (.pointer (some ⟨b, 0, none⟩))) :
    Calls Tryz.prog 118 #[.pointer (some ⟨b, 0, none⟩)] w fun e w' => e = .returned (.tuple #[]) ∧ w' = w := by
  obtain ⟨j, hj, _⟩ := Option.map_eq_some_iff.1 sizeBuilder
  go_enter Tryz.func118, Tryz.ntmps118
  go_wp2
  rw [Lib.run_neq_ptr_same w _ Tryz.underlying114 hj]
  go_wp2
  go_end0
  exact ⟨rfl, rfl⟩
set_option maxHeartbeats 1000000 in
set_option maxRecDepth 100000 in
theorem copyCheck_fresh (b : Nat) (w : World) (h0 : w.cell? ⟨b, 0, none⟩ = some (.pointer none)) (hsh : w.shape? b = some (117, 2)) (hfz : w.frozen? ⟨b, 0, none⟩ = false) :
    Calls Tryz.prog 118 #[.pointer (some ⟨b, 0, none⟩)] w fun e w' => e = .returned (.tuple #[]) ∧ w' = w.setCell ⟨b, 0, none⟩ (.pointer (some ⟨b, 0, none⟩)) := by
  obtain ⟨j, hj, hjs⟩ := Option.map_eq_some_iff.1 sizeBuilder
  go_enter Tryz.func118, Tryz.ntmps118
  go_wp2
  rw [Lib.run_to_unsafe w ⟨b, 0, none⟩ Tryz.underlying114 Tryz.underlying179 hj (by rw [hjs]; decide) hsh (Nat.zero_lt_succ 1)]
  simp only [Result.andThen]
  rw [Oper.upon_value]
  go_wp2
  rw [run_callFunc_extern Tryz.func148 (by kernel_rfl) (by kernel_rfl) (by kernel_rfl) (e := Extern.AbiNoEscape.same) (by kernel_rfl)]
  rw [Lib.run_noEscape]
  simp only [Result.andThen]
  rw [Oper.upon_value]
  go_wp2
  rw [Lib.run_from_unsafe w ⟨b, 0, none⟩ Tryz.underlying179 Tryz.underlying114 hj hsh liesBuilder]
  simp only [Result.andThen]
  rw [Oper.upon_value]
  go_wp2
  go_end0
  exact ⟨rfl, rfl⟩
def Keeps (w w' : World) : Prop := ∀ (k : Nat) (cs : Array Value) (T : TypeId) (fr : Nat × Nat), w.heap[k]? = some (Obj.cells cs T fr) → T ≠ 117 → T ≠ 5 → w'.heap[k]? = some (Obj.cells cs T fr)
theorem Keeps.trans {a b c : World} (h : Keeps a b) (k : Keeps b c) : Keeps a c := fun i cs T fr hi h1 h2 => k i cs T fr (h i cs T fr hi h1 h2) h1 h2
theorem Keeps.set {w : World} {b i : Nat} {cs : Array Value} {u : Value} (h : w.heap[b]? = some (.cells cs 117 (0, 0))) : Keeps w (w.setCell ⟨b, i, none⟩ u) := fun k ds T fr hk h1 _ =>
  (Below.heap_setCell _ _ _ _ (fun e => by
    have e : k = b := e
    subst e; rw [h] at hk; injection hk with hk; injection hk with _ hT; exact h1 hT.symm)).trans hk
theorem Keeps.grown {w w' : World} {B n : Nat} {v : Value} {xs : List Value} (hown : w.ownsRow B 5 1 v n xs) (hg : w.grownBy w' v.ownBlock) : Keeps w w' := fun k ds T fr hk _ h2 =>
  (hg.block k (by
    rcases Nat.lt_or_ge k w.heap.size with h' | h'
    · exact h'
    · simp [Array.getElem?_eq_none h'] at hk) (fun e => by
    rcases hown.2 with ⟨hv, _⟩ | ⟨g, cap, cur, hv, _, hh, _⟩
    · rw [hv] at e; cases e
    · rw [hv] at e
      have e : k = g := by simpa [Value.ownBlock] using e
      subst e; rw [hh] at hk; injection hk with hk; injection hk with _ hT; exact h2 hT.symm)).trans hk
theorem Keeps.below {w w' : World} (h : Below w.heap.size w w') : Keeps w w' := fun k _ _ _ hk _ _ => (h.block k (by
    rcases Nat.lt_or_ge k w.heap.size with h' | h'
    · exact h'
    · simp [Array.getElem?_eq_none h'] at hk)).trans hk
theorem copyCheck_any (B b : Nat) (l : List UInt8) (w : World) (h : IsB B b l w) :
    Calls Tryz.prog 118 #[.pointer (some ⟨b, 0, none⟩)] w fun e w' => e = .returned (.tuple #[]) ∧ (BAt B b (.pointer (some ⟨b, 0, none⟩)) l w' ∧ Below B w w' ∧ Keeps w w') := by
  rcases h with h | h
  · refine (copyCheck_fresh b w h.cell0 h.shape h.frozen0).mono ?_
    rintro e w' ⟨rfl, rfl⟩
    obtain ⟨_, v, hbk, _⟩ := id h
    exact ⟨rfl, h.used _, (Below.refl B w).setCell (p := ⟨b, 0, none⟩) h.1 _, Keeps.set hbk⟩
  · refine (copyCheck_used b w h.cell0).mono ?_
    rintro e w' ⟨rfl, rfl⟩
    exact ⟨rfl, h, Below.refl B _, fun _ _ _ _ h _ _ => h⟩
theorem infoByte : (Tryz.prog.info? 5).map (fun i => (i.zero, i.size, i.bytes)) = some (some (.int .u8 0), 1, 1) := by kernel_rfl
set_option maxHeartbeats 2000000 in
set_option maxRecDepth 100000 in
theorem write_any (B b : Nat) (l : List UInt8) (s : ByteArray) (w : World) (h : IsB B b l w) (hlen : l.length + s.size ≤ 140737488355328) (hBw : B ≤ w.heap.size) :
    Calls Tryz.prog 79 #[.pointer (some ⟨b, 0, none⟩), .string s] w fun e w' => e = .returned (.tuple #[.int .i64 s.size, .nilIface]) ∧ (IsB B b (l ++ s.data.toList) w' ∧ Below B w w' ∧ Keeps w w') := by
  obtain ⟨i0, hi, hz0, hz1, hz2⟩ := info_parts infoByte
  go_enter Tryz.func79, Tryz.ntmps79
  go_wp2_with (go_at_call 118; refine (copyCheck_any B b l _ h).mono ?_)
  rintro e w1 ⟨rfl, h1, hb1, hk1⟩
  have HK1 := Lib.hid hk1; clear hk1
  obtain ⟨hB, v, hbk, hown, hne⟩ := h1
  have c0 : w1.cell? ⟨b, 0, none⟩ = some (.pointer (some ⟨b, 0, none⟩)) := by rw [Lib.cell_of_heap hbk]; rfl
  have c1 : w1.cell? ⟨b, 1, none⟩ = some v := by rw [Lib.cell_of_heap hbk]; rfl
  have hbl : (Lib.byteCells l).length = l.length := by simp [Lib.byteCells]
  go_wp2_with (at_builtin; refine Lib.wpList_append_own_string _ rfl _ _ 115 9 rfl B 5 i0 Tryz.underlying115 Tryz.underlying9 hi hz0 hz1 hz2 _ _ _ rfl hown s rfl ?c3 ?c4 ?c5 ?_)
  case c3 => unfold maxLen; omega
  case c4 => omega
  case c5 => have := hb1.size; omega
  intro v' w2 hown' hgrow _
  have hlt : b < w1.heap.size := by
    rcases Nat.lt_or_ge b w1.heap.size with h' | h'
    · exact h'
    · simp [Array.getElem?_eq_none h'] at hbk
  have hb2 : w2.heap[b]? = some (.cells #[.pointer (some ⟨b, 0, none⟩), v] 117 (0, 0)) := by
    rw [hgrow.block b hlt (fun e => hne e.symm)]
    exact hbk
  have d0 : w2.cell? ⟨b, 0, none⟩ = some (.pointer (some ⟨b, 0, none⟩)) := by rw [Lib.cell_of_heap hb2]; rfl
  have d1 : w2.cell? ⟨b, 1, none⟩ = some v := by rw [Lib.cell_of_heap hb2]; rfl
  have f1 : w2.frozen? ⟨b, 1, none⟩ = false := Lib.frozen_of_heap hb2 1
  obtain ⟨ao, n', cap, rfl⟩ : ∃ ao n' cap, v' = .slice ao n' cap := by
    rcases hown'.2 with ⟨hv, _⟩ | ⟨g, cap, cur, hv, _⟩
    · exact ⟨_, _, _, hv⟩
    · exact ⟨_, _, _, hv⟩
  have HE := Lib.hid (show Lib.byteCells (l ++ s.data.toList) = Lib.byteCells l ++ Lib.strCells s by simp [Lib.byteCells, Lib.strCells])
  clear hbl
  go_wp2
  go_ret2
  refine ⟨rfl, .inr ?_, ?_, ?_⟩
  · have h := Lib.BuilderAt.put (T := 117) (e := 5) hB hb2 (bs' := Lib.byteCells l ++ Lib.strCells s) (by rw [List.length_append, Lib.strCells_length, show (Lib.byteCells l).length = l.length by simp [Lib.byteCells]]; exact hown') (by decide)
    rw [← HE.out] at h; exact h
  · exact (hb1.grown hgrow (by have := hb1.size; omega) (fun k hk => (hown.lt k hk).1)).setCell (p := ⟨b, 1, none⟩) hB _
  · exact HK1.out.trans ((Keeps.grown hown hgrow).trans (Keeps.set hb2))
theorem BAt.below {B b : Nat} {p : Value} {l : List UInt8} {w w' : World} (h : BAt B b p l w) (hb : Below w.heap.size w w') : BAt B b p l w' := by
  obtain ⟨hB, v, hbk, hown, hne⟩ := h
  have hlt : b < w.heap.size := by
    rcases Nat.lt_or_ge b w.heap.size with h' | h'
    · exact h'
    · simp [Array.getElem?_eq_none h'] at hbk
  exact ⟨hB, v, (hb.block _ hlt).trans hbk, World.ownsRow.kept (row := none) hown ⟨hb.1, hb.2, hb.3, hb.size, fun k hk _ => hb.block k hk⟩ (by
    cases h : v.ownBlock with
    | none => exact .inl rfl
    | some k => exact .inr (by simp)), hne⟩
theorem IsB.below {B b : Nat} {l : List UInt8} {w w' : World} (h : IsB B b l w) (hb : Below w.heap.size w w') : IsB B b l w' := h.imp (fun h => BAt.below h hb) (fun h => BAt.below h hb)
theorem IsB.new (w : World) {B : Nat} (hB : B ≤ w.heap.size) : IsB B w.heap.size [] (w.alloc (.cells #[.pointer none, .slice none 0 0] 117)) :=
  .inl ⟨hB, .slice none 0 0, heap_alloc_new w _, World.ownsRow_nil _ _ _ _, by simp [Value.ownBlock]⟩
end Go.Proofs.YtmjkgnknfgoadaaGreatDoor
namespace Go.Proofs.YtmjkgnknfgoadaaGreatDoor
set_option linter.unusedSimpArgs false
set_option linter.unusedVariables false
def hexB (n : Nat) : UInt8 := if n < 10 then UInt8.ofNat (48 + n) else UInt8.ofNat (87 + n)
def signB (left : List UInt8) (b : UInt8) : List UInt8 :=
  if (32 ≤ b.toNat ∧ b.toNat ≤ 126) ∧ b ≠ 92 ∧ b ∉ left then [b]
  else if b = 10 then [92, 110] else if b = 13 then [92, 114] else if b = 9 then [92, 116]
  else if b = 92 ∨ b ∈ left then [92, b]
  else [92, 120, hexB (b.toNat / 16), hexB (b.toNat % 16)]
theorem signB_len (left : List UInt8) (b : UInt8) : 1 ≤ (signB left b).length ∧ (signB left b).length ≤ 4 := by
  unfold signB
  split
  · simp
  split
  · simp
  split
  · simp
  split
  · simp
  split <;> simp
def litB (s : List UInt8) : List UInt8 := [34] ++ s.flatMap (signB [34]) ++ [34]
theorem flat_len {α : Type} (f : α → List UInt8) (m : Nat) : ∀ l : List α, (∀ x ∈ l, (f x).length ≤ m) → (l.flatMap f).length ≤ l.length * m
  | [], _ => by simp
  | x :: l, h => by
    have h1 := flat_len f m l fun y hy => h y (List.mem_cons_of_mem _ hy)
    have h2 := h x List.mem_cons_self
    simp only [List.flatMap_cons, List.length_append, List.length_cons, Nat.succ_mul]
    omega
theorem litB_len (s : List UInt8) : (litB s).length ≤ s.length * 4 + 2 := by
  have := flat_len (signB [34]) 4 s fun x _ => (signB_len [34] x).2
  simp only [litB, List.length_append, List.length_singleton]
  omega
def hasW (ws : List Nat) (b : Nat) : Bool := (ws.getD (b / 64) 0).testBit (b % 64)
def addRun (l : List (Nat × Nat)) (b : Nat) : List (Nat × Nat) :=
  match l.getLast? with
  | some (x, y) => if y + 1 = b then l.dropLast ++ [(x, b)] else l ++ [(b, b)]
  | none => [(b, b)]
def runsF (f : Nat → Bool) : List (Nat × Nat) := ((List.range 256).filter f).foldl addRun []
def runB (r : Nat × Nat) : List UInt8 :=
  signB [93, 45, 94] (UInt8.ofNat r.1) ++ (if r.1 + 1 < r.2 then [45] else []) ++ (if r.1 ≠ r.2 then signB [93, 45, 94] (UInt8.ofNat r.2) else [])
def classF (f : Nat → Bool) : List UInt8 := if (List.range 256).all f then [46] else [91] ++ (runsF f).flatMap runB ++ [93]
theorem addRun_len (l : List (Nat × Nat)) (b : Nat) : (addRun l b).length ≤ l.length + 1 := by
  unfold addRun
  split
  · split
    · simp
    · simp
  · simp
theorem foldRun_len : ∀ (m : List Nat) (l : List (Nat × Nat)), (m.foldl addRun l).length ≤ l.length + m.length
  | [], l => by simp
  | b :: m, l => by
    have := foldRun_len m (addRun l b)
    have := addRun_len l b
    simp only [List.foldl_cons, List.length_cons]
    omega
theorem runsF_len (f : Nat → Bool) : (runsF f).length ≤ 256 := by
  have h := foldRun_len ((List.range 256).filter f) []
  have h2 := List.length_filter_le f (List.range 256)
  simp only [List.length_range, List.length_nil] at h h2
  unfold runsF
  omega
theorem runB_len (r : Nat × Nat) : (runB r).length ≤ 9 := by
  have h1 := signB_len [93, 45, 94] (UInt8.ofNat r.1)
  have h2 := signB_len [93, 45, 94] (UInt8.ofNat r.2)
  simp only [runB, List.length_append]
  split <;> split <;> simp only [List.length_singleton, List.length_nil] <;> omega
theorem classF_len (f : Nat → Bool) : (classF f).length ≤ 2306 := by
  unfold classF
  split
  · simp
  · have h := flat_len runB 9 (runsF f) fun x _ => runB_len x
    have := runsF_len f
    simp only [List.length_append, List.length_singleton]
    omega
def plainP (b : UInt8) (left : List UInt8) : Prop := (32 ≤ b.toNat ∧ b.toNat ≤ 126) ∧ b ≠ 92 ∧ b ∉ left
instance (b : UInt8) (left : List UInt8) : Decidable (plainP b left) := by unfold plainP; infer_instance
end Go.Proofs.YtmjkgnknfgoadaaGreatDoor
/- Plain laws of a word's bits, lowest first; no program in sight. -/
namespace Go.Proofs.YtmjkgnknfgoadaaGreatDoor
set_option linter.unusedSimpArgs false
set_option linter.unusedVariables false
def bitsL (x : Nat) : List Nat := (List.range 64).filter x.testBit
theorem bits_zero : bitsL 0 = [] := by simp [bitsL]
theorem low_parts {x : Nat} (h0 : x ≠ 0) (h : x < 18446744073709551616) : ∃ m, x = 2 ^ Lib.ctz 64 x * (2 * m + 1) ∧ Lib.ctz 64 x < 64 := by
  unfold Lib.ctz
  rw [if_neg h0]
  exact Lib.ctzFrom_spec 64 x (by omega) (by omega)
theorem odd_bit (m j : Nat) : (2 * m + 1).testBit j = if j = 0 then true else m.testBit (j - 1) := by
  cases j with
  | zero => simp [Nat.testBit_zero]
  | succ j =>
    simp only [Nat.testBit_succ, Nat.add_sub_cancel]
    rw [show (2 * m + 1) / 2 = m by omega]; simp
theorem even_bit (m j : Nat) : (2 * m).testBit j = if j = 0 then false else m.testBit (j - 1) := by
  cases j with
  | zero => simp [Nat.testBit_zero]
  | succ j => simp [Nat.testBit_succ]
theorem and_pred (k m : Nat) : (2 ^ k * (2 * m + 1)) &&& (2 ^ k * (2 * m + 1) - 1) = 2 ^ k * (2 * m) := by
  have hp : 0 < 2 ^ k := Nat.two_pow_pos k
  have e : 2 ^ k * (2 * m + 1) - 1 = 2 ^ k * (2 * m) + (2 ^ k - 1) := by rw [Nat.mul_add]; omega
  rw [e]
  apply Nat.eq_of_testBit_eq
  intro j
  rw [Nat.testBit_and, Nat.testBit_two_pow_mul_add _ (by omega), Nat.testBit_two_pow_mul, Nat.testBit_two_pow_mul]
  by_cases hj : j < k
  · have h1 : decide (j ≥ k) = false := by simp; omega
    simp [h1]
  · have h1 : decide (j ≥ k) = true := by simp; omega
    rw [if_neg hj, h1, odd_bit, even_bit]
    by_cases h2 : j - k = 0
    · simp [h2]
    · simp [h2]
theorem bits_step {x : Nat} (h0 : x ≠ 0) (h : x < 18446744073709551616) : bitsL x = Lib.ctz 64 x :: bitsL (x &&& (x - 1)) := by
  obtain ⟨m, hm, hk⟩ := low_parts h0 h
  generalize Lib.ctz 64 x = k at hm hk ⊢
  subst hm
  rw [and_pred]
  unfold bitsL
  have er : List.range 64 = List.range k ++ k :: List.range' (k + 1) (63 - k) := by
    rw [List.range_eq_range', List.range_eq_range']
    have h1 : List.range' 0 64 = List.range' 0 k ++ List.range' k (64 - k) := by
      have := List.range'_append (s := 0) (m := k) (n := 64 - k) (step := 1)
      rw [show k + (64 - k) = 64 by omega] at this
      simpa using this.symm
    rw [h1, show 64 - k = (63 - k) + 1 by omega, List.range'_succ]
  rw [er]
  have hb : ∀ j, (2 ^ k * (2 * m + 1)).testBit j = (decide (j = k) || (2 ^ k * (2 * m)).testBit j) := fun j => by
    rw [Nat.testBit_two_pow_mul, Nat.testBit_two_pow_mul, odd_bit, even_bit]
    by_cases h1 : j = k
    · subst h1; simp
    · by_cases h2 : j ≥ k
      · have : j - k ≠ 0 := by omega
        simp [h1, h2, this]
      · simp [h1, h2]
  have hlow : ∀ j, j ≤ k → (2 ^ k * (2 * m)).testBit j = false := fun j hj => by
    rw [Nat.testBit_two_pow_mul, even_bit]
    by_cases h1 : j = k
    · subst h1; simp
    · have : ¬ j ≥ k := by omega
      simp [this]
  rw [List.filter_append, List.filter_append, List.filter_cons, List.filter_cons]
  have e1 : (List.range k).filter (2 ^ k * (2 * m + 1)).testBit = [] := List.filter_eq_nil_iff.2 fun j hj => by
    rw [hb, hlow j (by have := List.mem_range.1 hj; omega)]
    have := List.mem_range.1 hj
    simp; omega
  have e2 : (List.range k).filter (2 ^ k * (2 * m)).testBit = [] := List.filter_eq_nil_iff.2 fun j hj => by
    rw [hlow j (by have := List.mem_range.1 hj; omega)]; simp
  have e3 : (List.range' (k + 1) (63 - k)).filter (2 ^ k * (2 * m + 1)).testBit = (List.range' (k + 1) (63 - k)).filter (2 ^ k * (2 * m)).testBit := List.filter_congr fun j hj => by
    rw [hb]
    have := List.mem_range'_1.1 hj
    have h1 : decide (j = k) = false := by simp; omega
    rw [h1]; rfl
  rw [e1, e2, e3, hb k, hlow k (Nat.le_refl _)]
  simp
theorem filter_block (f : Nat → Bool) (a n : Nat) : (List.range (a + n)).filter f = (List.range a).filter f ++ ((List.range n).filter fun j => f (a + j)).map (a + ·) := by
  rw [List.range_add, List.filter_append, List.filter_map]; rfl
theorem has_block (w0 w1 w2 w3 i j : Nat) (hi : i < 4) (hj : j < 64) : hasW [w0, w1, w2, w3] (i * 64 + j) = ([w0, w1, w2, w3].getD i 0).testBit j := by
  unfold hasW
  rw [show (i * 64 + j) / 64 = i by omega, show (i * 64 + j) % 64 = j by omega]
theorem set_bits (w0 w1 w2 w3 : Nat) : (List.range 256).filter (hasW [w0, w1, w2, w3]) = bitsL w0 ++ (bitsL w1).map (64 + ·) ++ (bitsL w2).map (128 + ·) ++ (bitsL w3).map (192 + ·) := by
  rw [show 256 = 192 + 64 from rfl, filter_block, show 192 = 128 + 64 from rfl, filter_block, show 128 = 64 + 64 from rfl, filter_block]
  have h : ∀ i, i < 4 → ((List.range 64).filter fun j => hasW [w0, w1, w2, w3] (i * 64 + j)) = bitsL ([w0, w1, w2, w3].getD i 0) := fun i hi => List.filter_congr fun j hj => by
    rw [has_block _ _ _ _ i j hi (List.mem_range.1 hj)]
  have h0 := h 0 (by decide); have h1 := h 1 (by decide); have h2 := h 2 (by decide); have h3 := h 3 (by decide)
  simp only [Nat.zero_mul, Nat.zero_add] at h0
  rw [show (List.range 64).filter (hasW [w0, w1, w2, w3]) = bitsL w0 from h0]
  rw [show ((List.range 64).filter fun j => hasW [w0, w1, w2, w3] (64 + j)) = bitsL w1 from h1]
  rw [show ((List.range 64).filter fun j => hasW [w0, w1, w2, w3] (64 + 64 + j)) = bitsL w2 from h2]
  rw [show ((List.range 64).filter fun j => hasW [w0, w1, w2, w3] (64 + 64 + 64 + j)) = bitsL w3 from h3]
end Go.Proofs.YtmjkgnknfgoadaaGreatDoor
namespace Go.Proofs.YtmjkgnknfgoadaaGreatDoor
open Go.RowKit
set_option linter.unusedSimpArgs false
set_option linter.unusedVariables false
theorem index_lt : ∀ (l : List UInt8) (b : UInt8), (Lib.indexByte l b < 0 ↔ b ∉ l)
  | [], b => by simp [Lib.indexByte]
  | x :: l, b => by
    have ih := index_lt l b
    have h := Lib.indexByte_ge l b
    unfold Lib.indexByte
    by_cases hx : x = b
    · subst hx; simp
    · have hx' : ¬ b = x := fun e => hx e.symm
      rw [if_neg (by simpa using hx)]
      simp only [List.mem_cons, not_or, hx', not_false_eq_true, true_and, ← ih]
      by_cases h1 : Lib.indexByte l b = -1
      · rw [if_pos (by simpa using h1), h1]
      · rw [if_neg (by simpa using h1)]; omega
theorem toU8 (b : UInt8) : ((b.toNat : Int).toNat).toUInt8 = b := by simp
theorem eq92 (b : UInt8) : ((b.toNat : Int) == 92) = decide (b = 92) := by
  rw [Bool.eq_iff_iff, beq_iff_eq, decide_eq_true_eq, ← UInt8.toNat_inj]
  show _ ↔ b.toNat = 92
  omega
set_option maxHeartbeats 1000000 in
theorem plain_any (b : UInt8) (left : ByteArray) (w : World) :
    Calls Tryz.prog 184 #[.int .u8 (b.toNat : Int), .string left] w fun e w' => e = .returned (.bool (decide (plainP b left.data.toList))) ∧ w' = w := by
  go_enter Tryz.func184, Tryz.ntmps184
  by_cases h1 : (32 : Int) ≤ (b.toNat : Int)
  · by_cases h2 : (b.toNat : Int) ≤ 126
    · have h3 := eq92 b
      by_cases h4 : b = 92
      · rw [decide_eq_true h4] at h3
        have h6 : (b.toNat : Int) = 92 := by simpa using h3
        have hp : ¬ plainP b left.data.toList := fun h => h.2.1 h4
        go_wp2
        go_ret
        exact ⟨by first | rfl | (rw [decide_eq_false hp]; rfl) | simp [hp], rfl⟩
      · rw [decide_eq_false h4] at h3
        have h6 : ¬ (b.toNat : Int) = 92 := by simpa using h3
        have h9 : ((b.toNat : Int) != 92) = true := by simpa using h6
        have h5 := index_lt left.data.toList b
        by_cases h7 : b ∈ left.data.toList
        · have hp : ¬ plainP b left.data.toList := fun h => h.2.2 h7
          have h8 : ¬ Lib.indexByte left.data.toList b < 0 := fun h => h5.1 h h7
          go_wp2_with (go_at_call 185; refine (Tryz.strings_IndexByte left (b.toNat : Int) _).mono ?_; rintro e w' ⟨rfl, rfl⟩; rw [toU8])
          go_ret
          exact ⟨by first | rfl | (rw [decide_eq_false hp]; rfl) | simp [hp], rfl⟩
        · have hp : plainP b left.data.toList := ⟨⟨by omega, by omega⟩, h4, h7⟩
          have h8 := h5.2 h7
          go_wp2_with (go_at_call 185; refine (Tryz.strings_IndexByte left (b.toNat : Int) _).mono ?_; rintro e w' ⟨rfl, rfl⟩; rw [toU8])
          go_ret
          exact ⟨by first | rfl | (rw [decide_eq_true hp]; rfl) | simp [hp], rfl⟩
    · have hp : ¬ plainP b left.data.toList := fun h => by have := h.1.2; omega
      go_wp2
      go_ret
      exact ⟨by first | rfl | (rw [decide_eq_false hp]; rfl) | simp [hp], rfl⟩
  · have hp : ¬ plainP b left.data.toList := fun h => by have := h.1.1; omega
    go_wp2
    go_ret
    exact ⟨by first | rfl | (rw [decide_eq_false hp]; rfl) | simp [hp], rfl⟩
end Go.Proofs.YtmjkgnknfgoadaaGreatDoor
