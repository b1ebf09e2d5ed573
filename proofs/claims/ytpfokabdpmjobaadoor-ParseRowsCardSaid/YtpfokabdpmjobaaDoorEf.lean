/- The table of how many kids a kind has, from the row's condition. -/
import Derived.Test.YtpfokabdpmjobaaDoorDj
import Derived.ProofKit
import Derived.OpenShut
import Derived.LaidMore
import Derived.Stop.Joined
import Derived.Stop.LaidErr
namespace Go.Proofs.YtpfokabdpmjobaaDoor
open Go.RowKit Go.ChangeShapes Go.WideShapes
set_option linter.unusedSimpArgs false
set_option linter.unusedVariables false
set_option maxRecDepth 100000
theorem counts_of_laid {W : World} (h : laidMetH Tryd.prog [("bonsai/tree.counts", Rows.laid_bonsai_tree_counts)] W) : CntTab W := by
  rw [MakeChecks.laidMetH_plain _ _ _ (by kernel_rfl)] at h
  obtain ⟨ps, ⟨g', t', cs, fuel, p, q, hg', ht', hvar, hd, _, _⟩, _⟩ := h
  obtain rfl := Option.some.inj ((show Tryd.prog.globalNamed "bonsai/tree.counts" = some 0 by kernel_rfl).symm.trans hg')
  obtain rfl := Option.some.inj ((show (Tryd.prog.globals[(0 : Nat)]?).map (·.type) = some 86 by kernel_rfl).symm.trans ht')
  obtain ⟨xs, m, _, hx, hcl, hxl, hel⟩ := DataW.trod_array Tryd.underlying86 hd
  have k1 : Tryd.prog.cellsOf 85 = 2 := by kernel_rfl
  rw [show Tryd.prog.cellsOf 86 = 20 by kernel_rfl] at hcl
  simp only [k1] at hel
  have hx1 : xs.map (·.1) = [Lib.tabData .i64 [0, 0], Lib.tabData .i64 [0, 0], Lib.tabData .i64 [0, 0], Lib.tabData .i64 [0, 0], Lib.tabData .i64 [2, -1], Lib.tabData .i64 [2, -1], Lib.tabData .i64 [1, 1], Lib.tabData .i64 [1, 1], Lib.tabData .i64 [1, 1], Lib.tabData .i64 [1, 1]] := by
    have h1 := congrArg Prod.fst hx
    simp only [Rows.laid_bonsai_tree_counts, DataW.agg.injEq] at h1
    rw [← h1]; rfl
  have hch : ∀ (i : Nat) (a b : Int), i < 10 → (xs.map (·.1))[i]? = some (Lib.tabData .i64 [a, b]) → (cs.toList.drop (i * 2)).take 2 = [.int .i64 a, .int .i64 b] := fun i a b hi he => by
    have h1 := hel i hi
    rw [List.getElem?_map] at he
    obtain ⟨y, hy, e⟩ := Option.map_eq_some_iff.1 he
    rw [hy] at h1
    obtain ⟨y1, y2⟩ := y
    simp only at e
    subst e
    exact Lib.cells_of_tab (zs := [a, b]) Tryd.underlying85 Tryd.underlying3 (by kernel_rfl) k1 h1
  rw [hx1] at hch
  unfold CntTab
  rw [hvar]
  obtain ⟨l⟩ := cs
  simp only at hch hcl
  match l, hcl with
  | [a0, a1, a2, a3, a4, a5, a6, a7, a8, a9, a10, a11, a12, a13, a14, a15, a16, a17, a18, a19], _ =>
    have c0 := hch 0 0 0 (by decide) rfl
    have c1 := hch 1 0 0 (by decide) rfl
    have c2 := hch 2 0 0 (by decide) rfl
    have c3 := hch 3 0 0 (by decide) rfl
    have c4 := hch 4 2 (-1) (by decide) rfl
    have c5 := hch 5 2 (-1) (by decide) rfl
    have c6 := hch 6 1 1 (by decide) rfl
    have c7 := hch 7 1 1 (by decide) rfl
    have c8 := hch 8 1 1 (by decide) rfl
    have c9 := hch 9 1 1 (by decide) rfl
    simp only [Nat.zero_mul, List.drop_zero, List.take_succ_cons, List.take_zero, List.drop_succ_cons, List.cons.injEq, and_true, Nat.reduceMul] at c0 c1 c2 c3 c4 c5 c6 c7 c8 c9
    obtain ⟨rfl, rfl⟩ := c0; obtain ⟨rfl, rfl⟩ := c1; obtain ⟨rfl, rfl⟩ := c2; obtain ⟨rfl, rfl⟩ := c3; obtain ⟨rfl, rfl⟩ := c4
    obtain ⟨rfl, rfl⟩ := c5; obtain ⟨rfl, rfl⟩ := c6; obtain ⟨rfl, rfl⟩ := c7; obtain ⟨rfl, rfl⟩ := c8; obtain ⟨rfl, rfl⟩ := c9
    rfl
end Go.Proofs.YtpfokabdpmjobaaDoor
