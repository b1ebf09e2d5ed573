/- append onto a row of the call's own: what is known of the new one, and of where it lies; slices.Reverse of it. -/
import Derived.Test.YtbfjanfhgpgmdaaDoorApp
import Derived.Test.YtbfjanfhgpgmdaaDoorShelf
import Derived.Maps.AppendAt
import Derived.Deep.RegionLaw
import Derived.Sort.OwnSortedInts
namespace Go.Proofs.YtbfjanfhgpgmdaaDoor
open Go.RowKit Go.Sort

/-- The block that a slice lies in. -/
def blkOf : Option Addr → Option Nat := fun A => A.map Addr.block
theorem blk_own (A : Option Addr) (n c : Nat) : (Value.slice A n c).ownBlock = blkOf A := by cases A <;> rfl

section
variable {P : Program} (w : World)
theorem run_append_at (base : Nat) (t ty e : TypeId) (i : TypeInfo) (z : Value) (size bytes : Nat) (ht : P.underlying t = some (.slice e)) (hi : P.info? e = some i) (hz : i.zero = some z)
    (hsize : i.size = size) (hby : i.bytes = bytes) (hzs : z.cells.size = size) (hsz : 0 < size)
    (V : Option Addr) (vc n : Nat) (xs : List Value) (hown : w.ownsRow base e size (.slice V n vc) n xs)
    (A : Option Addr) (m c : Nat) (news : List Value) (hl : news.length = m * size) (hr : RowAt w A news) (h1 : ∀ u ∈ news, u.oneCell' = true)
    (h63 : n + m ≤ maxLen) (hbytes : (n + m) * bytes ≤ 140737488355328) (hbase : base ≤ w.heap.size) :
    ∃ V' vc' w', (Builtin.append_ #[t, t] ty #[.slice V n vc, .slice A m c]).run P w = .ok (.slice V' (n + m) vc') w' ∧ w'.ownsRow base e size (.slice V' (n + m) vc') (n + m) (xs ++ news) ∧ w.grownBy w' (blkOf V) ∧ (blkOf V' = blkOf V ∨ blkOf V' = some w.heap.size) := by
  cases A with
  | some ad =>
    obtain ⟨v', w', h, h2, h3, _, h5⟩ := run_append_own_at (P := P) w base t ty e i z size bytes ht hi hz hsize hby hzs hsz _ n xs hown ad m c news hl
      (fun j u hu => by obtain ⟨ad', e', h⟩ := hr j u hu; cases e'; exact h) h1 h63 hbytes hbase
    obtain ⟨V', vc', rfl⟩ := ownsRow_slice h2
    rw [blk_own] at h3
    rw [blk_own, blk_own] at h5
    exact ⟨V', vc', w', h, h2, h3, h5⟩
  | none =>
    have hn : news = [] := by
      cases news with
      | nil => rfl
      | cons u r => obtain ⟨_, h, _⟩ := hr 0 u rfl; cases h
    subst hn
    have hm : m = 0 := by
      rcases Nat.eq_zero_or_pos m with h | h
      · exact h
      · have := Nat.mul_pos h hsz; simp at hl; omega
    subst hm
    refine ⟨V, vc, w, ?_, by simpa using hown, World.grownBy.refl w _, .inl rfl⟩
    rcases hown.2 with ⟨hv, rfl⟩ | ⟨g, cap, cur, hv, _, _, hnc, _⟩
    · cases hv
      simp [Builtin.append_, run_underlying ht, sizeOf, typeInfo, hi, Builtin.lenOf, Builtin.firstCells]
    · cases hv
      simp [Builtin.append_, run_underlying ht, sizeOf, typeInfo, hi, Builtin.lenOf, Builtin.firstCells, hnc, storeCells]

theorem wpList_append_at {ops : Array Oper} {rest : List Oper} {o : Oper} {a : Act} {Q : Exit → Act → World → Prop} (hgd : o.guard = none) (s x : Operand) (t : TypeId)
    (ho : o.op = .call { callee := .builtin .append, args := #[s, x], argTypes := #[t, t] })
    (base : Nat) (e : TypeId) (i : TypeInfo) (z : Value) (size bytes : Nat) (ht : P.underlying t = some (.slice e)) (hi : P.info? e = some i) (hz : i.zero = some z)
    (hsize : i.size = size) (hby : i.bytes = bytes) (hzs : z.cells.size = size) (hsz : 0 < size)
    (V : Option Addr) (vc n : Nat) (xs : List Value) (hs : a.eval s = .slice V n vc) (hown : w.ownsRow base e size (.slice V n vc) n xs)
    (A : Option Addr) (m c : Nat) (news : List Value) (hx : a.eval x = .slice A m c) (hl : news.length = m * size) (hr : RowAt w A news) (h1 : ∀ u ∈ news, u.oneCell' = true)
    (h63 : n + m ≤ maxLen) (hbytes : (n + m) * bytes ≤ 140737488355328) (hbase : base ≤ w.heap.size)
    (h : ∀ V' vc' w', Hid (w'.ownsRow base e size (.slice V' (n + m) vc') (n + m) (xs ++ news)) → Hid (w.grownBy w' (blkOf V)) → Hid (blkOf V' = blkOf V ∨ blkOf V' = some w.heap.size) → wpList P ops Q rest (a.put o.dst (.slice V' (n + m) vc')) w') : wpList P ops Q (o :: rest) a w :=
  wpList_plain hgd fun K hK => by
    obtain ⟨V', vc', w', hrun, h2, h3, h4⟩ := run_append_at (P := P) w base t o.type e i z size bytes ht hi hz hsize hby hzs hsz V vc n xs hown A m c news hl hr h1 h63 hbytes hbase
    unfold Oper.wp execOp
    simp only [ho, resolve, invoke, builtin, Sem.run_bind, Sem.run_pure, Result.andThen_ok, List.map_toArray, List.map_cons, List.map_nil, hs, hx, hrun]
    exact hK _ _ (h V' vc' w' h2 h3 h4)

theorem step_append_at {ops : Array Oper} {o : Oper} {a : Act} {w : World} {K : Act → World → Prop} {Q : Exit → Act → World → Prop} {E : Prop}
    (hgd : o.guard = none) (s x : Operand) (t : TypeId) (ho : o.op = .call { callee := .builtin .append, args := #[s, x], argTypes := #[t, t] })
    (base : Nat) (e : TypeId) (i : TypeInfo) (z : Value) (size bytes : Nat) (ht : P.underlying t = some (.slice e)) (hi : P.info? e = some i) (hz : i.zero = some z)
    (hsize : i.size = size) (hby : i.bytes = bytes) (hzs : z.cells.size = size) (hsz : 0 < size)
    (V : Option Addr) (vc n : Nat) (xs : List Value) (hs : a.eval s = .slice V n vc) (hown : w.ownsRow base e size (.slice V n vc) n xs)
    (A : Option Addr) (m c : Nat) (news : List Value) (hx : a.eval x = .slice A m c) (hl : news.length = m * size) (hr : RowAt w A news) (h1 : ∀ u ∈ news, u.oneCell' = true)
    (h63 : n + m ≤ maxLen) (hbytes : (n + m) * bytes ≤ 140737488355328) (hbase : base ≤ w.heap.size)
    (hK : ∀ V' vc' w', Hid (w'.ownsRow base e size (.slice V' (n + m) vc') (n + m) (xs ++ news)) → Hid (w.grownBy w' (blkOf V)) → Hid (blkOf V' = blkOf V ∨ blkOf V' = some w.heap.size) → K (a.put o.dst (.slice V' (n + m) vc')) w') :
    if Region.wanted o (yielded ops a.tmps) = true then Oper.wp P o a w K Q else E := by
  have hw : Region.wanted o (yielded ops a.tmps) = true := by simp [Region.wanted, hgd]
  rw [if_pos hw]
  obtain ⟨V', vc', w', hrun, h2, h3, h4⟩ := run_append_at (P := P) w base t o.type e i z size bytes ht hi hz hsize hby hzs hsz V vc n xs hown A m c news hl hr h1 h63 hbytes hbase
  unfold Oper.wp
  simp [execOp, ho, resolve, invoke, builtin, hs, hx, hrun, Result.andThen]
  exact hK _ _ _ h2 h3 h4
end

/-- What is cut off behind. -/
theorem own_cut {w : World} {base : Nat} {e : TypeId} {size n c : Nat} {V : Option Addr} {xs : List Value} (h : w.ownsRow base e size (.slice V n c) n xs) {m : Nat} (hm : m ≤ n) : w.ownsRow base e size (.slice V m c) m (xs.take (m * size)) := by
  have hms : m * size ≤ n * size := Nat.mul_le_mul_right _ hm
  refine ⟨by rw [List.length_take, h.1]; omega, ?_⟩
  rcases h.2 with ⟨hv, h0⟩ | ⟨g, cap, cur, hv, hb, hh, hn, hc, hs, ht⟩
  · cases hv; exact .inl ⟨by rw [show m = 0 by omega], by omega⟩
  · cases hv
    exact .inr ⟨g, _, cur, rfl, hb, hh, by omega, hc, hs, by rw [← ht, List.take_take]; congr 1; omega⟩
theorem own_some {w : World} {base : Nat} {e : TypeId} {size n c : Nat} {V : Option Addr} {xs : List Value} (h : w.ownsRow base e size (.slice V n c) n xs) (hn : 0 < n) : ∃ g, V = some ⟨g, 0, none⟩ ∧ base ≤ g ∧ g < w.heap.size := by
  rcases h.2 with ⟨_, h0⟩ | ⟨g, cap, cur, hv, hb, hh, _⟩
  · omega
  · cases hv; exact ⟨g, rfl, hb, (Array.getElem?_eq_some_iff.1 hh).1⟩
theorem own_blk {w : World} {base : Nat} {e : TypeId} {size n c : Nat} {V : Option Addr} {xs : List Value} (h : w.ownsRow base e size (.slice V n c) n xs) : ∀ k, blkOf V = some k → base ≤ k ∧ k < w.heap.size := fun k hk => by
  rw [← blk_own V n c] at hk; exact World.ownsRow.lt h k hk
/-- A row stays while another one grows. -/
theorem own_kept {w w' : World} {base : Nat} {e : TypeId} {size n c : Nat} {V : Option Addr} {xs : List Value} {row : Option Nat} (h : w.ownsRow base e size (.slice V n c) n xs) (hg : w.grownBy w' row) (hne : ∀ k, blkOf V = some k → row ≠ some k) : w'.ownsRow base e size (.slice V n c) n xs :=
  World.ownsRow.kept h hg (by
    rw [blk_own]
    cases hV : blkOf V with
    | none => exact .inl rfl
    | some k => exact .inr fun e => hne k hV e.symm)
theorem own_mono {w : World} {base base' : Nat} {e : TypeId} {size n : Nat} {v : Value} {xs : List Value} (h : w.ownsRow base e size v n xs) (hb : base' ≤ base) : w.ownsRow base' e size v n xs :=
  ⟨h.1, h.2.imp id fun ⟨g, cap, cur, e, hg, r⟩ => ⟨g, cap, cur, e, by omega, r⟩⟩
theorem own_cap {w : World} {base : Nat} {e : TypeId} {size n c : Nat} {V : Option Addr} {xs : List Value} (h : w.ownsRow base e size (.slice V n c) n xs) : n ≤ c := by
  rcases h.2 with ⟨hv, h0⟩ | ⟨g, cap, cur, hv, _, _, hn, _⟩
  · omega
  · cases hv; exact hn
/-- Two rows lie apart. -/
def ApartB (V U : Option Addr) : Prop := ∀ k, blkOf V = some k → blkOf U ≠ some k
theorem ApartB.symm {V U : Option Addr} (h : ApartB V U) : ApartB U V := fun k hk e => h k e hk
/-- One of them has grown. -/
theorem ApartB.grown {V V' U : Option Addr} {n : Nat} (h : ApartB V U) (hU : ∀ k, blkOf U = some k → k < n) (hv : blkOf V' = blkOf V ∨ blkOf V' = some n) : ApartB V' U := fun k hk e => by
  rcases hv with hv | hv
  · exact h k (hv ▸ hk) e
  · have := hU k e; rw [hv] at hk; cases hk; omega
theorem ApartB.none (U : Option Addr) : ApartB none U := fun k hk => by cases hk
theorem kept_apart {w w' : World} {base : Nat} {e : TypeId} {size n c : Nat} {V U : Option Addr} {xs : List Value} (h : w.ownsRow base e size (.slice V n c) n xs) (hg : w.grownBy w' (blkOf U)) (ha : ApartB U V) : w'.ownsRow base e size (.slice V n c) n xs :=
  own_kept h hg fun k hk e => ha k e hk
theorem below_grownA {w w' : World} {B base : Nat} {e : TypeId} {size n c : Nat} {V : Option Addr} {xs : List Value} (h : w.ownsRow base e size (.slice V n c) n xs) (hg : w.grownBy w' (blkOf V)) (hB : B ≤ base) (hw : B ≤ w.heap.size) : Below B w w' :=
  (Below.refl B w).grown hg hw fun k hk => by have := own_blk h k hk; omega

theorem reverse_own (g c B : Nat) (zs : List Int) (w : World) (e : TypeId) (h : w.ownsRow B e 1 (.slice (some ⟨g, 0, none⟩) zs.length c) zs.length (zs.map (.int .i64))) :
    Calls Tryd.prog 85 #[.slice (some ⟨g, 0, none⟩) zs.length c] w fun en w' => en = .returned (.tuple #[]) ∧ w'.ownsRow B e 1 (.slice (some ⟨g, 0, none⟩) zs.length c) zs.length (zs.reverse.map (.int .i64)) ∧ w.grownBy w' (some g) := by
  rcases h.2 with ⟨hv, _⟩ | ⟨g', cap, cur, hv, hb, hh, hn, hc, hs, ht⟩
  · cases hv
  · cases hv
    refine (Tryd.slices_Reverse_int g 0 c zs w (holds_of_blockI hh (by rw [← ht, Nat.mul_one])) (by unfold maxLen at hc; omega)).mono ?_
    rintro en w' ⟨he, k, rfl⟩
    refine ⟨he, ?_, ?_⟩
    · have := ownsRow_sortedI (os := #[]) (n := k) (ts := zs.reverse) (ss := zs) (by simp) hb hh hn hc hs
      rw [grow_empty] at this
      exact this
    · have := grownBy_sortedI (w := w) (g := g) (n := k) (os := #[]) zs.reverse.toArray
      rw [grow_empty] at this
      exact this
end Go.Proofs.YtbfjanfhgpgmdaaDoor
