/- Rows of words in memory. -/
import Derived.Test.YtabncmckojlllaaDoorLz
namespace Go.Proofs.YtabncmckojlllaaDoor
open Go.RowKit Go.Shelf
set_option linter.unusedSimpArgs false
set_option linter.unusedVariables false

/-- The words l lie at A, ten cells each. -/
def WRow (w : World) (A : Option Addr) (l : List Wd) : Prop := ∀ k (hk : k < l.length), ∃ g o, A = some ⟨g, o, none⟩ ∧ g < w.heap.size ∧
  w.cell? ⟨g, o + k * 10, none⟩ = some (.int .u8 (l[k].kind : Int)) ∧ w.cell? ⟨g, o + k * 10 + 1, none⟩ = some (.int .i64 (l[k].frm : Int)) ∧ w.cell? ⟨g, o + k * 10 + 2, none⟩ = some (.int .i64 (l[k].til : Int)) ∧ w.cell? ⟨g, o + k * 10 + 3, none⟩ = some (.string ⟨l[k].text.toArray⟩) ∧
  w.cell? ⟨g, o + k * 10 + 4, none⟩ = some (.int .u64 (l[k].s0 : Int)) ∧ w.cell? ⟨g, o + k * 10 + 5, none⟩ = some (.int .u64 (l[k].s1 : Int)) ∧ w.cell? ⟨g, o + k * 10 + 6, none⟩ = some (.int .u64 (l[k].s2 : Int)) ∧ w.cell? ⟨g, o + k * 10 + 7, none⟩ = some (.int .u64 (l[k].s3 : Int)) ∧
  w.cell? ⟨g, o + k * 10 + 8, none⟩ = some (.int .i64 l[k].low) ∧ w.cell? ⟨g, o + k * 10 + 9, none⟩ = some (.int .i64 l[k].high)
theorem WRow.below {w w' : World} {A : Option Addr} {l : List Wd} (h : WRow w A l) (hb : Below w.heap.size w w') : WRow w' A l := fun k hk => by
  obtain ⟨g, o, e, hg, h0, h1, h2, h3, h4, h5, h6, h7, h8, h9⟩ := h k hk
  exact ⟨g, o, e, Nat.lt_of_lt_of_le hg hb.size, (hb.cell hg).trans h0, (hb.cell hg).trans h1, (hb.cell hg).trans h2, (hb.cell hg).trans h3, (hb.cell hg).trans h4, (hb.cell hg).trans h5, (hb.cell hg).trans h6, (hb.cell hg).trans h7, (hb.cell hg).trans h8, (hb.cell hg).trans h9⟩
/-- A part of a row. -/
theorem WRow.part {w : World} {g o : Nat} {l : List Wd} (h : WRow w (some ⟨g, o, none⟩) l) (i n : Nat) : WRow w (some ⟨g, o + i * 10, none⟩) ((l.drop i).take n) := fun k hk => by
  rw [List.length_take, List.length_drop] at hk
  have e : ((l.drop i).take n)[k]'(by rw [List.length_take, List.length_drop]; exact hk) = l[i + k]'(by omega) := by rw [List.getElem_take, List.getElem_drop]
  obtain ⟨g', o', e', hg, h0, h1, h2, h3, h4, h5, h6, h7, h8, h9⟩ := h (i + k) (by omega)
  cases e'
  have ea : o + (i + k) * 10 = o + i * 10 + k * 10 := by omega
  rw [ea] at h0 h1 h2 h3 h4 h5 h6 h7 h8 h9
  rw [e]
  exact ⟨g, o + i * 10, rfl, hg, h0, h1, h2, h3, h4, h5, h6, h7, h8, h9⟩
/-- The words l lie at A, ten cells each, with the places f, t. -/
def WRowZ (w : World) (A : Option Addr) (l : List Wd) (f t : Nat → Int) : Prop := ∀ k (hk : k < l.length), ∃ g o, A = some ⟨g, o, none⟩ ∧ g < w.heap.size ∧
  w.cell? ⟨g, o + k * 10, none⟩ = some (.int .u8 (l[k].kind : Int)) ∧ w.cell? ⟨g, o + k * 10 + 1, none⟩ = some (.int .i64 (f k)) ∧ w.cell? ⟨g, o + k * 10 + 2, none⟩ = some (.int .i64 (t k)) ∧ w.cell? ⟨g, o + k * 10 + 3, none⟩ = some (.string ⟨l[k].text.toArray⟩) ∧
  w.cell? ⟨g, o + k * 10 + 4, none⟩ = some (.int .u64 (l[k].s0 : Int)) ∧ w.cell? ⟨g, o + k * 10 + 5, none⟩ = some (.int .u64 (l[k].s1 : Int)) ∧ w.cell? ⟨g, o + k * 10 + 6, none⟩ = some (.int .u64 (l[k].s2 : Int)) ∧ w.cell? ⟨g, o + k * 10 + 7, none⟩ = some (.int .u64 (l[k].s3 : Int)) ∧
  w.cell? ⟨g, o + k * 10 + 8, none⟩ = some (.int .i64 l[k].low) ∧ w.cell? ⟨g, o + k * 10 + 9, none⟩ = some (.int .i64 l[k].high)
theorem WRowZ.below {w w' : World} {A : Option Addr} {l : List Wd} {f t : Nat → Int} (h : WRowZ w A l f t) (hb : Below w.heap.size w w') : WRowZ w' A l f t := fun k hk => by
  obtain ⟨g, o, e, hg, h0, h1, h2, h3, h4, h5, h6, h7, h8, h9⟩ := h k hk
  exact ⟨g, o, e, Nat.lt_of_lt_of_le hg hb.size, (hb.cell hg).trans h0, (hb.cell hg).trans h1, (hb.cell hg).trans h2, (hb.cell hg).trans h3, (hb.cell hg).trans h4, (hb.cell hg).trans h5, (hb.cell hg).trans h6, (hb.cell hg).trans h7, (hb.cell hg).trans h8, (hb.cell hg).trans h9⟩
theorem WRow.z {w : World} {A : Option Addr} {l : List Wd} (h : WRow w A l) : WRowZ w A l (fun k => ((l[k]?.map Wd.frm).getD 0 : Nat)) (fun k => ((l[k]?.map Wd.til).getD 0 : Nat)) := fun k hk => by
  have h0 := h k hk
  have e : l[k]? = some l[k] := List.getElem?_eq_getElem hk
  simp only [e, Option.map_some, Option.getD_some]
  exact h0
end Go.Proofs.YtabncmckojlllaaDoor

