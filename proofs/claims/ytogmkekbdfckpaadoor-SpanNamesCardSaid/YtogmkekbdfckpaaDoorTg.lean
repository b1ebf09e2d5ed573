/- spoil turns the row of its outcome alone. -/
import Derived.Test.YtogmkekbdfckpaaDoorTe
namespace Go.Proofs.YtogmkekbdfckpaaDoor
open Go.RowKit
set_option linter.unusedSimpArgs false
set_option linter.unusedVariables false

theorem grown_refl (w : World) (r : Option Nat) : w.grownBy w r := ⟨rfl, rfl, rfl, Nat.le_refl _, fun _ _ _ => rfl⟩
theorem grown_trans {a b c : World} {r : Option Nat} (h : a.grownBy b r) (k : b.grownBy c r) : a.grownBy c r :=
  ⟨k.os.trans h.os, k.tape.trans h.tape, k.output.trans h.output, Nat.le_trans h.size k.size, fun i hi hne => (k.block i (by have := h.size; omega) hne).trans (h.block i hi hne)⟩
theorem grown_set {w : World} {g i : Nat} (u : Value) : w.grownBy (w.setCell ⟨g, i, none⟩ u) (some g) :=
  ⟨rfl, rfl, rfl, by simp [World.setCell], fun k hk hne => Below.heap_setCell _ _ _ _ (fun e => hne (by rw [e]))⟩

set_option maxRecDepth 100000 in
set_option maxHeartbeats 800000 in
theorem spoil_grown (o : Outc) (A : Option Addr) (c B : Nat) (w : World) (hown : OwnCaps w B (.slice A o.caps.length c) o.caps) (hB : B ≤ w.heap.size) (hl : o.caps.length ≤ 281474976710656) :
    Calls Tryd.prog 30 #[outV A c o] w fun e w' => e = .returned (.tuple #[]) ∧ w.grownBy w' (Value.ownBlock (.slice A o.caps.length c)) := by
  obtain ⟨ok, to, l⟩ := o
  simp only at hown hl
  go_enter Tryd.func30, Tryd.ntmps30
  have HO := Lib.hid (show (w.alloc (.cells #[.bool ok, .int .i64 to, .slice A l.length c] 24)).ownsRow B 33 3 (.slice A l.length c) l.length (cellsOf l) from World.ownsRow.alloc hown _)
  have HK := Lib.hid (heap_alloc_new w (.cells #[.bool ok, .int .i64 to, .slice A l.length c] 24))
  have HB := Lib.hid (World.grownBy_alloc w (.cells #[.bool ok, .int .i64 to, .slice A l.length c] 24) (Value.ownBlock (.slice A l.length c)))
  clear hown
  go_wp2_with fail
  go_loopw [2] (fun i wr => ∃ (k : Nat) (xs : List Value), k ≤ l.length ∧ i = .int .i64 k ∧ wr.ownsRow B 33 3 (.slice A l.length c) l.length xs ∧ wr.heap[w.heap.size]? = some (.cells #[.bool ok, .int .i64 to, .slice A l.length c] 24 (0, 0)) ∧ w.grownBy wr (Value.ownBlock (.slice A l.length c))) (fun i _ => l.length - (intOf i).toNat)
  case atStart => exact ⟨0, _, by omega, rfl, HO.out, HK.out, HB.out⟩
  case round =>
    clear HO HK HB
    obtain ⟨k, xs, hk, rfl, hown, hbox, hb⟩ := hrel
    have HO := Lib.hid hown; clear hown
    obtain ⟨b1, b2, b3, _, _, _⟩ := blk3 hbox
    have HK := Lib.hid hbox; clear hbox
    have HB := Lib.hid hb; clear hb
    by_cases hlt : k < l.length
    · have hxl := HO.out.1
      obtain ⟨g, hg1, hg2, hgne, rfl⟩ : ∃ g, B ≤ g ∧ g < wr.heap.size ∧ g ≠ w.heap.size ∧ A = some ⟨g, 0, none⟩ := by
        rcases HO.out.2 with ⟨hv, h0⟩ | ⟨g, cap, cur, hv, hg, hh, _⟩
        · omega
        · injection hv with hA
          refine ⟨g, hg, heap_lt hh, fun e => ?_, hA⟩
          subst e; rw [HK.out] at hh; injection hh with hh; injection hh with _ hT; exact absurd hT (by decide)
      have x1 := (World.ownsRow.cellAt HO.out (k * 3 + 1) (by omega)).trans (List.getElem?_eq_getElem (by rw [hxl]; omega))
      have y1 := World.ownsRow.frozenAt HO.out (k * 3 + 1)
      go_wp2_with fail
      exact ⟨⟨k + 1, _, by omega, by go_num, (World.ownsRow.stored HO.out _ _).1, (Below.heap_setCell _ _ _ _ (fun e => hgne e.symm)).trans HK.out, grown_trans HB.out (grown_set _)⟩, by simp [intOf]; omega⟩
    · go_wp2_with fail
      go_end0
      exact ⟨rfl, HB.out⟩
end Go.Proofs.YtogmkekbdfckpaaDoor
