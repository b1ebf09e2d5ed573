/- PrintNames: grammars printed, at closed data. -/
import Derived.Test.YtdnochjajoiooaaDoorVt
import Derived.Test.YtdnochjajoiooaaDoorGo
namespace Go.Proofs.YtdnochjajoiooaaDoor
open Go.RowKit
set_option linter.unusedSimpArgs false
set_option linter.unusedVariables false

abbrev xL (bx : Nat) : Lt := ⟨some ⟨bx, 0, none⟩, 1, [⟨ruleLf ⟨#[120]⟩, none, 0⟩], 0⟩
/-- The row of two definitions. -/
def rowC (nm : ByteArray) (tb bx : Nat) : Array Value := #[.string nm, .slice (some ⟨tb, 0, none⟩) 1 1, .int .i64 0, .string ⟨#[98]⟩, .slice (some ⟨bx, 0, none⟩) 1 1, .int .i64 0]
theorem ds2_row {w : World} {rb tb bx : Nat} {nm : ByteArray} (hb : w.heap[rb]? = some (.cells (rowC nm tb bx) 43 (0, 0))) (ht : TreeOwn w (fun _ => True) (nlT tb)) (hx : TX w xT (xL bx)) (hn : nm.size ≤ 1000) :
    dfL.row w (fun _ => True) (some ⟨rb, 0, none⟩) [⟨nm, nlT tb⟩, ⟨⟨#[98]⟩, xL bx⟩] := by
  refine ⟨⟨rowB_blk (cs := dfL.all [⟨nm, nlT tb⟩, ⟨⟨#[98]⟩, xL bx⟩]) (T := 43) hb, fun _ _ _ => trivial⟩, ?_⟩
  intro d hd
  simp only [List.mem_cons, List.not_mem_nil, or_false] at hd
  rcases hd with rfl | rfl
  · exact ⟨Nat.le_trans hn (by decide), ht.inn⟩
  · exact ⟨by show (1 : Nat) ≤ _; decide, hx.inn⟩
theorem pg2 {w : World} {rb tb bx : Nat} {nm : ByteArray} {s : Array UInt8} (hb : w.heap[rb]? = some (.cells (rowC nm tb bx) 43 (0, 0))) (ht : TreeOwn w (fun _ => True) (nlT tb)) (hx : TX w xT (xL bx)) (hn : nm.size ≤ 1000) (hp : PTabs w)
    (hg : gramT [⟨nm, ⟨[textLf ⟨#[10]⟩], 0⟩⟩, ⟨⟨#[98]⟩, xT⟩] = s.toList) :
    Calls Tryd.prog 13 #[.agg #[.slice (some ⟨rb, 0, none⟩) 2 2]] w fun e w' => e = .returned (.string ⟨s⟩) ∧ Below w.heap.size w w' := by
  have h := pgram_any (some ⟨rb, 0, none⟩) 2 _ _ w (ds2_row hb ht hx hn) (by show (2 : Nat) ≤ _; decide) (fun d hd => by
    simp only [List.mem_cons, List.not_mem_nil, or_false] at hd
    rcases hd with rfl | rfl <;> (show (1 : Nat) ≤ _; decide)) hp
  rw [show gramT (List.map Ld.df [⟨nm, nlT tb⟩, ⟨⟨#[98]⟩, xL bx⟩]) = s.toList from hg] at h
  exact h
theorem ps2 {w : World} {rb tb bx : Nat} {nm : ByteArray} {s : Array UInt8} {n : Int} (hb : w.heap[rb]? = some (.cells (rowC nm tb bx) 43 (0, 0))) (ht : TreeOwn w (fun _ => True) (nlT tb)) (hx : TX w xT (xL bx)) (hn : nm.size ≤ 1000) (hp : PTabs w)
    (hg : gramT [⟨nm, ⟨[textLf ⟨#[10]⟩], 0⟩⟩, ⟨⟨#[98]⟩, xT⟩] = s.toList) (hs : (s.size : Int) = n) :
    Calls Tryd.prog 14 #[.agg #[.slice (some ⟨rb, 0, none⟩) 2 2]] w fun e w' => e = .returned (.int .i64 n) ∧ Below w.heap.size w w' := by
  have h := psize_any (some ⟨rb, 0, none⟩) 2 _ _ w (ds2_row hb ht hx hn) (by show (2 : Nat) ≤ _; decide) (fun d hd => by
    simp only [List.mem_cons, List.not_mem_nil, or_false] at hd
    rcases hd with rfl | rfl <;> (show (1 : Nat) ≤ _; decide)) hp
  rw [show gramT (List.map Ld.df [⟨nm, nlT tb⟩, ⟨⟨#[98]⟩, xL bx⟩]) = s.toList from hg] at h
  subst hs
  exact h
theorem pd2 {w : World} {bx : Nat} {s : Array UInt8} (hx : TX w xT (xL bx)) (hp : PTabs w) (hg : defB ⟨⟨#[98]⟩, xT⟩ = s.toList) :
    Calls Tryd.prog 15 #[.agg #[.string ⟨#[98]⟩, .slice (some ⟨bx, 0, none⟩) 1 1, .int .i64 0]] w fun e w' => e = .returned (.string ⟨s⟩) ∧ Below w.heap.size w w' := by
  have h := def_any ⟨⟨#[98]⟩, xL bx⟩ (fun _ => True) w hx.inn (by show (1 : Nat) ≤ _; decide) (by show (1 : Nat) ≤ _; decide) hp
  rw [show defB (Ld.df ⟨⟨#[98]⟩, xL bx⟩) = s.toList from hg] at h
  exact h
theorem nil_inn (w : World) (r : Int) : Lt.inn w (fun _ => True) ⟨none, 0, [], r⟩ := ⟨by show (0 : Nat) ≤ _; decide, RowIn.nil _ _ _, fun _ h => absurd h (by simp)⟩
/-- What is told of a definition without a body. -/
theorem pd0 {w : World} (hp : PTabs w) :
    Calls Tryd.prog 15 #[.agg #[.string ⟨#[97]⟩, .slice none 0 0, .int .i64 0]] w fun e w' => e = .returned (.string ⟨#[]⟩) ∧ Below w.heap.size w w' := by
  have h := def_any ⟨⟨#[97]⟩, ⟨none, 0, [], 0⟩⟩ (fun _ => True) w (nil_inn w 0) (by show (0 : Nat) ≤ _; decide) (by show (1 : Nat) ≤ _; decide) hp
  rw [show defB (Ld.df ⟨⟨#[97]⟩, ⟨none, 0, [], 0⟩⟩) = [] by kernel_rfl] at h
  exact h
theorem pt0 {w : World} (hp : PTabs w) :
    Calls Tryd.prog 11 #[.agg #[.slice none 0 0, .int .i64 5]] w fun e w' => e = .returned (.string ⟨#[]⟩) ∧ Below w.heap.size w w' := by
  have h := ptree_t ⟨none, 0, [], 5⟩ (fun _ => True) w (nil_inn w 5) (by show (0 : Nat) ≤ _; decide) hp
  rw [show treeB (Lt.tr ⟨none, 0, [], 5⟩) = [] by kernel_rfl] at h
  exact h
theorem pg0 {w : World} (hp : PTabs w) :
    Calls Tryd.prog 13 #[.agg #[.slice none 0 0]] w fun e w' => e = .returned (.string ⟨#[]⟩) ∧ Below w.heap.size w w' := by
  have h := pgram_any none 0 [] (fun _ => True) w ⟨RowIn.nil _ _ _, fun _ h => absurd h (by simp)⟩ (by decide) (fun _ h => absurd h (by simp)) hp
  rw [show gramT (List.map Ld.df []) = [] by kernel_rfl] at h
  exact h
theorem pg1 {w : World} {rb : Nat} (hb : w.heap[rb]? = some (.cells #[.string ⟨#[97]⟩, .slice none 0 0, .int .i64 0] 43 (0, 0))) (hp : PTabs w) :
    Calls Tryd.prog 13 #[.agg #[.slice (some ⟨rb, 0, none⟩) 1 1]] w fun e w' => e = .returned (.string ⟨#[]⟩) ∧ Below w.heap.size w w' := by
  have h := pgram_any (some ⟨rb, 0, none⟩) 1 [⟨⟨#[97]⟩, ⟨none, 0, [], 0⟩⟩] (fun _ => True) w ⟨⟨rowB_blk (cs := dfL.all [⟨⟨#[97]⟩, ⟨none, 0, [], 0⟩⟩]) (T := 43) hb, fun _ _ _ => trivial⟩, fun d hd => by
    simp only [List.mem_cons, List.not_mem_nil, or_false] at hd
    subst hd
    exact ⟨by show (1 : Nat) ≤ _; decide, nil_inn w 0⟩⟩ (by decide) (fun d hd => by
    simp only [List.mem_cons, List.not_mem_nil, or_false] at hd
    subst hd; show (0 : Nat) ≤ _; decide) hp
  rw [show gramT (List.map Ld.df [⟨⟨#[97]⟩, ⟨none, 0, [], 0⟩⟩]) = [] by kernel_rfl] at h
  exact h
theorem TreeOwn.setD {w : World} {t : Lt} {g o : Nat} {cs : Array Value} {u : Value} (h : TreeOwn w (fun _ => True) t) (hg : w.heap[g]? = some (.cells cs 43 (0, 0))) : TreeOwn (w.setCell ⟨g, o, none⟩ u) (fun _ => True) t := by
  have h1 : TreeOwn w (fun x => True ∧ x ≠ g) t := ⟨h.len, h.row.ne hg (by decide), fun l hl => ⟨(h.kids l hl).1, (h.kids l hl).2.ne hg (by decide)⟩⟩
  exact (h1.agree (fun x hx _ => Below.heap_setCell _ _ _ _ hx.2)).mono (fun _ _ _ => trivial)
theorem cell6 {w : World} {b : Nat} {x y z x' y' z' : Value} {T : TypeId} (h : w.heap[b]? = some (.cells #[x, y, z, x', y', z'] T (0, 0))) : w.cell? ⟨b, 0, none⟩ = some x ∧ w.cell? ⟨b, 1, none⟩ = some y ∧ w.cell? ⟨b, 2, none⟩ = some z ∧ w.cell? ⟨b, 3, none⟩ = some x' ∧ w.cell? ⟨b, 4, none⟩ = some y' ∧ w.cell? ⟨b, 5, none⟩ = some z' ∧ w.frozen? ⟨b, 0, none⟩ = false := by
  simp [World.cell?, World.frozen?, h]
theorem cell3 {w : World} {b : Nat} {x y z : Value} {T : TypeId} (h : w.heap[b]? = some (.cells #[x, y, z] T (0, 0))) : w.cell? ⟨b, 0, none⟩ = some x ∧ w.cell? ⟨b, 1, none⟩ = some y ∧ w.cell? ⟨b, 2, none⟩ = some z := by
  simp [World.cell?, h]
theorem gA : gramT [⟨⟨#[97]⟩, ⟨[textLf ⟨#[10]⟩], 0⟩⟩, ⟨⟨#[98]⟩, xT⟩] = (#[97, 32, 60, 45, 32, 34, 92, 110, 34, 10, 98, 32, 60, 45, 32, 120, 10] : Array UInt8).toList := by kernel_rfl
theorem gB : gramT [⟨⟨#[49]⟩, ⟨[textLf ⟨#[10]⟩], 0⟩⟩, ⟨⟨#[98]⟩, xT⟩] = (#[] : Array UInt8).toList := by kernel_rfl
theorem dA : defB ⟨⟨#[98]⟩, xT⟩ = (#[98, 32, 60, 45, 32, 120, 10] : Array UInt8).toList := by kernel_rfl
end Go.Proofs.YtdnochjajoiooaaDoor
