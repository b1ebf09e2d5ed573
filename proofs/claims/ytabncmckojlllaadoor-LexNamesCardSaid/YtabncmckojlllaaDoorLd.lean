/- The contracts of quote.escapes, and of a reader's fail, next, sees. -/
import Derived.Test.YtabncmckojlllaaDoorLa
import Derived.Test.YtabncmckojlllaaDoorLb
import Derived.Deep.RegionHeld3
import Derived.Deep.QuietTactic
import Derived.BigQuiet
namespace Go.Proofs.YtabncmckojlllaaDoor
open Go.RowKit
set_option linter.unusedSimpArgs false
set_option linter.unusedVariables false

abbrev rdCells (t left : ByteArray) (en : UInt8) (m : Nat) (a e : Int) : Array Value := #[.string t, .string left, u8V en, .map (some m), .int .i64 a, .int .i64 e]
/-- Block r is a reader of t, that stands at a, with error e. -/
def RD (w : World) (r : Nat) (t left : ByteArray) (en : UInt8) (m : Nat) (a e : Int) : Prop := w.heap[r]? = some (.cells (rdCells t left en m a e) 180 (0, 0))
theorem RD.cells {w : World} {r : Nat} {t left : ByteArray} {en : UInt8} {m : Nat} {a e : Int} (h : RD w r t left en m a e) :
    w.cell? ⟨r, 0, none⟩ = some (.string t) ∧ w.cell? ⟨r, 1, none⟩ = some (.string left) ∧ w.cell? ⟨r, 2, none⟩ = some (u8V en) ∧ w.cell? ⟨r, 3, none⟩ = some (.map (some m)) ∧ w.cell? ⟨r, 4, none⟩ = some (.int .i64 a) ∧ w.cell? ⟨r, 5, none⟩ = some (.int .i64 e) ∧
    w.frozen? ⟨r, 4, none⟩ = false ∧ w.frozen? ⟨r, 5, none⟩ = false := by
  simp [World.cell?, World.frozen?, show w.heap[r]? = _ from h]
theorem RD.lt {w : World} {r : Nat} {t left : ByteArray} {en : UInt8} {m : Nat} {a e : Int} (h : RD w r t left en m a e) : r < w.heap.size := (Array.getElem?_eq_some_iff.1 h).1
theorem RD.kept {w w' : World} {r : Nat} {t left : ByteArray} {en : UInt8} {m : Nat} {a e : Int} {row : Option Nat} (h : RD w r t left en m a e) (hg : w.grownBy w' row) (hne : some r ≠ row) : RD w' r t left en m a e :=
  (hg.block r h.lt hne).trans h
theorem RD.below {w w' : World} {r : Nat} {t left : ByteArray} {en : UInt8} {m : Nat} {a e : Int} (h : RD w r t left en m a e) (hb : Below w.heap.size w w') : RD w' r t left en m a e := (hb.block r h.lt).trans h
theorem RD.setAt {w : World} {r : Nat} {t left : ByteArray} {en : UInt8} {m : Nat} {a e : Int} (h : RD w r t left en m a e) (k : Int) : RD (w.setCell ⟨r, 4, none⟩ (.int .i64 k)) r t left en m k e := by
  have := heap_setCell_same w r 4 _ 180 (.int .i64 k) h
  simpa [RD] using this
theorem RD.setE {w : World} {r : Nat} {t left : ByteArray} {en : UInt8} {m : Nat} {a e : Int} (h : RD w r t left en m a e) (k : Int) : RD (w.setCell ⟨r, 5, none⟩ (.int .i64 k)) r t left en m a k := by
  have := heap_setCell_same w r 5 _ 180 (.int .i64 k) h
  simpa [RD] using this
theorem grewD (w : World) (row : Option Nat) : w.grownBy w.drew row := ⟨rfl, rfl, rfl, Nat.le_refl _, fun _ _ _ => rfl⟩
theorem grewSet (w : World) (r i : Nat) (v : Value) : w.grownBy (w.setCell ⟨r, i, none⟩ v) (some r) :=
  ⟨rfl, rfl, rfl, by show w.heap.size ≤ (w.heap.modify _ _).size; simp, fun k _ hk => Below.heap_setCell _ _ _ k (fun e => hk (by rw [e]))⟩
theorem grewDN (w : World) (n : Nat) (row : Option Nat) : w.grownBy (w.drewN n) row := ⟨rfl, rfl, rfl, Nat.le_refl _, fun _ _ _ => rfl⟩
theorem setSize (w : World) (a : Addr) (v : Value) : (w.setCell a v).heap.size = w.heap.size := by show (w.heap.modify _ _).size = _; simp

set_option maxRecDepth 100000 in
set_option maxHeartbeats 1000000 in
theorem fail_any (r : Nat) (t left : ByteArray) (en : UInt8) (m : Nat) (a e k : Int) (w : World) (h : RD w r t left en m a e) :
    Calls Tryd.prog 129 #[.pointer (some ⟨r, 0, none⟩), .int .i64 k] w fun en' w' => en' = .returned (.tuple #[]) ∧ RD w' r t left en m k 4 ∧ w.grownBy w' (some r) := by
  have HR := Lib.hid h
  obtain ⟨c0, c1, c2, c3, c4, c5, f4, f5⟩ := h.cells
  go_enter Tryd.func129, Tryd.ntmps129
  clear h
  go_wp2_with fail
  refine bodyPost_end (v := .tuple #[]) (by simp [results, Tryd.results129]) rfl ?_
  exact ⟨rfl, (HR.out.setAt k).setE 4, (grewSet _ _ _ _).trans (grewSet _ _ _ _)⟩

set_option maxRecDepth 100000 in
set_option maxHeartbeats 1000000 in
theorem next_some (r : Nat) (t left : ByteArray) (en : UInt8) (m a : Nat) (e : Int) (w : World) (h : RD w r t left en m (a : Int) e) (ha : a < t.size) (hs : t.size ≤ 1000000) :
    Calls Tryd.prog 142 #[.pointer (some ⟨r, 0, none⟩)] w fun en' w' => en' = .returned (.tuple #[u8V t[a], .bool true]) ∧ RD w' r t left en m ((a + 1 : Nat) : Int) e ∧ w.grownBy w' (some r) := by
  have HR := Lib.hid h
  obtain ⟨c0, c1, c2, c3, c4, c5, f4, f5⟩ := h.cells
  go_enter Tryd.func142, Tryd.ntmps142
  clear h
  have i1 : ¬ (t.size : Int) ≤ (a : Int) := by omega
  have i2 : (0 : Int) ≤ (a : Int) := by omega
  have i3 : (a : Int) < (t.size : Int) := by omega
  go_wp2_with fail
  go_quiet (fail)
  go_wp2_with fail
  have h1 : RD ((w.drewN nq).setCell ⟨r, 4, none⟩ (.int .i64 ((a : Int) + 1))) r t left en m ((a : Int) + 1) e := (HR.out.kept (grewDN w nq none) (by simp)).setAt _
  have HG := Lib.hid (show w.grownBy ((w.drewN nq).setCell ⟨r, 4, none⟩ (.int .i64 ((a : Int) + 1))) (some r) from (grewDN _ _ _).trans (grewSet _ _ _ _))
  generalize (w.drewN nq).setCell ⟨r, 4, none⟩ (.int .i64 ((a : Int) + 1)) = W1 at *
  clear c0 c1 c2 c3 c4 c5 f4 f5 HR
  have HR := Lib.hid h1
  obtain ⟨c0, c1, c2, c3, c4, c5, f4, f5⟩ := h1.cells
  clear h1
  go_quiet (fail)
  go_wp2_with fail
  refine bodyPost_ret (v := .tuple #[u8V t[a], .bool true]) (by simp [results, Tryd.results142, go_sem]) rfl ?_
  exact ⟨rfl, by rw [show ((a + 1 : Nat) : Int) = (a : Int) + 1 by omega]; exact HR.out.kept (grewDN _ _ none) (by simp), HG.out.trans (grewDN _ _ _)⟩
set_option maxRecDepth 100000 in
set_option maxHeartbeats 1000000 in
theorem next_none (r : Nat) (t left : ByteArray) (en : UInt8) (m a : Nat) (e : Int) (w : World) (h : RD w r t left en m (a : Int) e) (ha : ¬ a < t.size) (hs : t.size ≤ 1000000) :
    Calls Tryd.prog 142 #[.pointer (some ⟨r, 0, none⟩)] w fun en' w' => en' = .returned (.tuple #[.int .u8 0, .bool false]) ∧ RD w' r t left en m (t.size : Int) 8 ∧ w.grownBy w' (some r) := by
  have HR := Lib.hid h
  obtain ⟨c0, c1, c2, c3, c4, c5, f4, f5⟩ := h.cells
  go_enter Tryd.func142, Tryd.ntmps142
  clear h
  have i1 : (t.size : Int) ≤ (a : Int) := by omega
  go_wp2_with fail
  go_quiet (fail)
  go_wp2_with fail
  refine bodyPost_ret (v := .tuple #[.int .u8 0, .bool false]) (by simp [results, Tryd.results142, go_sem]) rfl ?_
  exact ⟨rfl, ((HR.out.kept (grewDN w _ none) (by simp)).setAt _).setE 8, ((grewDN _ _ _).trans (grewSet _ _ _ _)).trans (grewSet _ _ _ _)⟩

set_option maxRecDepth 100000 in
set_option maxHeartbeats 1000000 in
theorem sees_any (r : Nat) (t left : ByteArray) (en : UInt8) (m a : Nat) (e : Int) (b : UInt8) (w : World) (h : RD w r t left en m (a : Int) e) (hs : t.size ≤ 1000000) :
    Calls Tryd.prog 127 #[.pointer (some ⟨r, 0, none⟩), u8V b] w fun en' w' => en' = .returned (.bool (decide (t.data.toList[a]? = some b))) ∧ w.grownBy w' none := by
  have HR := Lib.hid h
  obtain ⟨c0, c1, c2, c3, c4, c5, f4, f5⟩ := h.cells
  clear h
  by_cases ha : a < t.size
  · have hq : decide (t.data.toList[a]? = some b) = (((t[a].toNat : Int)) == ((b.toNat : Int))) := by
      rw [Bool.eq_iff_iff, decide_eq_true_eq, beq_iff_eq, Lib.data_getElem? t a ha, Option.some.injEq, ← UInt8.toNat_inj]
      omega
    rw [hq]
    go_enter Tryd.func127, Tryd.ntmps127
    have i1 : (a : Int) < (t.size : Int) := by omega
    have i2 : (0 : Int) ≤ (a : Int) := by omega
    go_wp2_with fail
    go_quiet (fail)
    go_wp2_with fail
    go_ret
    exact ⟨rfl, grewDN _ _ _⟩
  · have hq : decide (t.data.toList[a]? = some b) = false := by
      rw [List.getElem?_eq_none (by have := sz_data t; omega)]; rfl
    rw [hq]
    go_enter Tryd.func127, Tryd.ntmps127
    have i1 : ¬ (a : Int) < (t.size : Int) := by omega
    go_wp2_with fail
    go_quiet (fail)
    go_wp2_with fail
    go_ret
    exact ⟨rfl, grewDN _ _ _⟩
end Go.Proofs.YtabncmckojlllaaDoor
