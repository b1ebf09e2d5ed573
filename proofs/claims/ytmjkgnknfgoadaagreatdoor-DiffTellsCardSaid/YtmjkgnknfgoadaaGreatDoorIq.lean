/- The contracts of gram.Find and gram.Names. -/
import Derived.Test.YtmjkgnknfgoadaaGreatDoorHg
import Derived.Test.YtmjkgnknfgoadaaGreatDoorDs
import Derived.Test.YtmjkgnknfgoadaaGreatDoorDw
namespace Go.Proofs.YtmjkgnknfgoadaaGreatDoor
open Go.RowKit
set_option linter.unusedSimpArgs false
set_option linter.unusedVariables false
theorem findG_skip : ∀ (g : List Df) (s : ByteArray) (k : Nat) (hk : k < g.length), (∀ d ∈ g.take k, d.name ≠ s) → g[k].name = s → findG g s = (k : Int)
  | d :: g, s, 0, _, _, h => by
    have h : d.name = s := h
    simp [findG, h]
  | d :: g, s, k + 1, hk, h0, h => by
    have h1 : d.name ≠ s := h0 d (by simp)
    have h2 := findG_skip g s k (by simpa using hk) (fun x hx => h0 x (by simp [hx])) h
    rw [findG, if_neg h1, if_neg (by omega), h2]
    rfl
theorem findG_none : ∀ (g : List Df) (s : ByteArray), (∀ d ∈ g, d.name ≠ s) → findG g s = -1
  | [], _, _ => rfl
  | d :: g, s, h => by
    rw [findG, if_neg (h d List.mem_cons_self), findG_none g s (fun x hx => h x (List.mem_cons_of_mem _ hx))]
    rfl
def FindRel (w : World) (H : Nat) (A : Option Addr) (c : Nat) (ds : List Ld) (s : ByteArray) (i : Value) (wr : World) : Prop :=
  ∃ k : Nat, k ≤ ds.length ∧ i = .int .i64 k ∧ Hid (∀ d ∈ (ds.map Ld.df).take k, d.name ≠ s) ∧ Hid (wr.heap[H]? = some (.cells #[.slice A ds.length c] 24 (0, 0))) ∧ Hid (Below H w wr)
end Go.Proofs.YtmjkgnknfgoadaaGreatDoor
/- The contract of gram.Names. -/
namespace Go.Proofs.YtmjkgnknfgoadaaGreatDoor
open Go.RowKit
set_option linter.unusedSimpArgs false
set_option linter.unusedVariables false
theorem infoText : (Tryz.prog.info? 9).map (fun i => (i.zero, i.size, i.bytes)) = some (some (.string ByteArray.empty), 1, 16) := by kernel_rfl
def textsV (l : List ByteArray) : List Value := l.map Value.string
end Go.Proofs.YtmjkgnknfgoadaaGreatDoor
/- The contract of bonsailaw09.large: large, or else small. -/
namespace Go.Proofs.YtmjkgnknfgoadaaGreatDoor
open Go.RowKit
set_option linter.unusedSimpArgs false
set_option linter.unusedVariables false
def Small9D (d : Ld) : Prop := d.t.ls.length ≤ 600 ∧ ∀ l ∈ d.t.ls, l.nd.kids.length ≤ 600
theorem Small9D.mod {d : Ld} (h : Small9D d) : DMod d := ⟨by have := h.1; omega, fun l hl => by have := h.2 l hl; omega⟩
end Go.Proofs.YtmjkgnknfgoadaaGreatDoor
