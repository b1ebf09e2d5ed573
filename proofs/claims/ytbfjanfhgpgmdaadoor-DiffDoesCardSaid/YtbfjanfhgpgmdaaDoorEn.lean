/- The spoiling of a result: what hangs on a rule is its own; its name is written over. -/
import Derived.Test.YtbfjanfhgpgmdaaDoorEl
import Derived.Test.YtbfjanfhgpgmdaaDoorEm
namespace Go.Proofs.YtbfjanfhgpgmdaaDoor
open Go.RowKit
set_option linter.unusedSimpArgs false
set_option linter.unusedVariables false

theorem own_cells {w : World} {base : Nat} {e : TypeId} {size n c : Nat} {V : Option Addr} {xs : List Value} (h : w.ownsRow base e size (.slice V n c) n xs) {k : Nat} (hk : blkOf V = some k) : ∃ cur, w.heap[k]? = some (.cells cur e (0, 0)) := by
  rcases h.2 with ⟨hv, _⟩ | ⟨g, cap, cur, hv, hb, hh, _⟩
  · cases hv; cases hk
  · cases hv; cases hk; exact ⟨cur, hh⟩
/-- What hangs on a tree, and nothing else. -/
def Hangs (t : Lt) (x : Nat) : Prop := blkOf t.A = some x ∨ ∃ l ∈ t.ls, blkOf l.A = some x
theorem TreeOwn.tight {w : World} {S : Nat → Prop} {t : Lt} (h : TreeOwn w S t) : TreeOwn w (fun x => S x ∧ Hangs t x) t :=
  ⟨h.len, ⟨h.row.1, fun k hk => ⟨h.row.2 k hk, .inl hk⟩⟩, fun l hl => ⟨(h.kids l hl).1, (h.kids l hl).2.1, fun k hk => ⟨(h.kids l hl).2.2 k hk, .inr ⟨l, hl, hk⟩⟩⟩⟩
theorem TreeOwn.hangs {w : World} {S : Nat → Prop} {t : Lt} (h : TreeOwn w S t) {x : Nat} (hx : Hangs t x) : x < w.heap.size ∧ ∀ cur, w.heap[x]? ≠ some (.cells cur 36 (0, 0)) := by
  rcases hx with hx | ⟨l, hl, hx⟩
  · obtain ⟨cur, hc⟩ := own_cells h.row.1 hx
    exact ⟨(own_blk h.row.1 x hx).2, fun cur' h' => by rw [hc] at h'; cases h'⟩
  · obtain ⟨cur, hc⟩ := own_cells (h.kids l hl).2.1 hx
    exact ⟨(own_blk (h.kids l hl).2.1 x hx).2, fun cur' h' => by rw [hc] at h'; cases h'⟩
/-- A grammar of the call's own: what hangs on its rules lies apart, and apart from its row. -/
theorem GramOwn.tight {w : World} {B : Nat} {V : Option Addr} {c : Nat} {ds : List Ld} (h : GramOwn w (B ≤ ·) V c ds) :
    ∃ Q : Nat → Nat → Prop, (∀ i (h : i < ds.length), TreeOwn w (Q i) ds[i].t) ∧ (∀ i x, Q i x → B ≤ x ∧ x < w.heap.size ∧ blkOf V ≠ some x) ∧ ∀ i j x, i ≠ j → Q i x → ¬ Q j x := by
  obtain ⟨Q, h1, h2, h3⟩ := h.kids
  refine ⟨fun i x => Q i x ∧ ∃ h : i < ds.length, Hangs ds[i].t x, fun i hi => (h1 i hi).2.tight.mono (fun x _ hx => ⟨hx.1, hi, hx.2⟩), fun i x hx => ?_, fun i j x hij hi hj => h3 i j x hij hi.1 hj.1⟩
  obtain ⟨hq, hi, hh⟩ := hx
  have h4 := (h1 i hi).2.hangs hh
  refine ⟨h2 i x hq, h4.1, fun e => ?_⟩
  obtain ⟨cur, hc⟩ := own_cells h.row.1 e
  exact h4.2 cur hc
theorem all_set0 (l : List Ld) (k : Nat) (hk : k < l.length) (nm : ByteArray) : (dfL.all l).set (k * 3) (.string nm) = dfL.all (l.set k ⟨nm, l[k].t⟩) := by
  have hlen : ∀ m : List Ld, (dfL.all m).length = m.length * 3 := fun m => dfL.all_length m
  apply List.ext_getElem?
  intro i
  by_cases hi : i < l.length * 3
  · have hq : i / 3 < l.length := by omega
    have h1 := dfL.all_at (l.set k ⟨nm, l[k].t⟩) (i / 3) (i % 3) (by simpa using hq) (show i % 3 < 3 by omega)
    have h2 := dfL.all_at l (i / 3) (i % 3) hq (show i % 3 < 3 by omega)
    rw [show i / 3 * dfL.size + i % 3 = i by show i / 3 * 3 + i % 3 = i; omega] at h1 h2
    rw [h1, List.getElem?_set]
    by_cases e3 : k * 3 = i
    · have e1 : i / 3 = k := by omega
      have e2 : i % 3 = 0 := by omega
      rw [if_pos e3, if_pos (by rw [hlen]; omega)]
      simp only [e1, e2, List.getElem_set_self]
      rfl
    · rw [if_neg e3, h2]
      by_cases e1 : i / 3 = k
      · simp only [e1, List.getElem_set_self]
        have : i % 3 = 1 ∨ i % 3 = 2 := by omega
        rcases this with this | this <;> rw [this] <;> rfl
      · rw [List.getElem_set_ne (fun h => e1 h.symm)]
  · rw [List.getElem?_eq_none (by rw [List.length_set, hlen]; omega), List.getElem?_eq_none (by rw [hlen, List.length_set]; omega)]
/-- Where the spoiling of a result's rules stands. -/
def SpRel (wb : World) (Q : Nat → Nat → Prop) (H : Nat) (V : Option Addr) (vc : Nat) (ds : List Ld) (i : Value) (wr : World) : Prop :=
  ∃ (k : Nat) (ds' : List Ld), k ≤ ds.length ∧ i = .int .i64 k ∧ Hid (ds'.length = ds.length) ∧ Hid (∀ j (h : j < ds'.length) (h2 : j < ds.length), ds'[j].t = ds[j].t) ∧ Hid (wr.ownsRow wb.heap.size 36 3 (.slice V ds.length vc) ds.length (dfL.all ds')) ∧
    Hid (∀ j (h : j < ds.length), k ≤ j → TreeOwn wr (Q j) ds[j].t) ∧ Hid (wr.heap[H]? = some (.cells #[.slice V ds.length vc] 24 (0, 0))) ∧ Hid (Below wb.heap.size wb wr)
theorem SpRel.start {wb wa : World} {Q : Nat → Nat → Prop} {H : Nat} {V : Option Addr} {vc : Nat} {ds : List Ld} (hg : GramOwn wa (wb.heap.size ≤ ·) V vc ds) (hQ : ∀ i (h : i < ds.length), TreeOwn wa (Q i) ds[i].t) (hb : Below wb.heap.size wb wa) {w2 : World} (h2 : Below wa.heap.size wa w2) (hH : w2.heap[H]? = some (.cells #[.slice V ds.length vc] 24 (0, 0))) : SpRel wb Q H V vc ds (.int .i64 0) w2 :=
  ⟨0, ds, Nat.zero_le _, rfl, Lib.hid rfl, Lib.hid (fun _ _ _ => rfl), Lib.hid (own_belowA2 hg.row.own h2), Lib.hid (fun j h _ => (hQ j h).below h2), Lib.hid hH, Lib.hid (Below.step hb h2)⟩
theorem SpRel.step {wb wr w5 : World} {Q : Nat → Nat → Prop} {H : Nat} {g : Nat} {vc : Nat} {ds ds' : List Ld} {k : Nat} (hk : k < ds.length) (hln : ds'.length = ds.length) (hts : ∀ j (h : j < ds'.length) (h2 : j < ds.length), ds'[j].t = ds[j].t) (hown : wr.ownsRow wb.heap.size 36 3 (.slice (some ⟨g, 0, none⟩) ds.length vc) ds.length (dfL.all ds'))
    (hT : ∀ j (h : j < ds.length), k ≤ j → TreeOwn wr (Q j) ds[j].t) (hH : wr.heap[H]? = some (.cells #[.slice (some ⟨g, 0, none⟩) ds.length vc] 24 (0, 0))) (hB : Below wb.heap.size wb wr) (hs : Spoilt (Q k) wr w5)
    (hQ2 : ∀ i x, Q i x → wb.heap.size ≤ x ∧ x ≠ H ∧ g ≠ x) (hQ3 : ∀ i j x, i ≠ j → Q i x → ¬ Q j x) (hgH : g ≠ H) (nm : ByteArray) :
    SpRel wb Q H (some ⟨g, 0, none⟩) vc ds (.int .i64 ((k : Int) + 1)) (w5.setCell ⟨g, k * 3, none⟩ (.string nm)) := by
  have hgl := (own_blk hown g rfl)
  have hown5 : w5.ownsRow wb.heap.size 36 3 (.slice (some ⟨g, 0, none⟩) ds.length vc) ds.length (dfL.all ds') := own_agree hown (fun x hx => by cases hx; exact hs.block g hgl.2 (fun hq => (hQ2 k g hq).2.2 rfl))
  have hk' : k < ds'.length := by omega
  refine ⟨k + 1, ds'.set k ⟨nm, ds'[k].t⟩, by omega, by go_num, Lib.hid (by rw [List.length_set]; exact hln), Lib.hid ?_, Lib.hid ?_, Lib.hid ?_, Lib.hid ?_, Lib.hid ?_⟩
  · intro j h h2
    by_cases e : k = j
    · subst e; rw [List.getElem_set_self]; exact hts k hk' hk
    · rw [List.getElem_set_ne e]; exact hts j (by simpa using h) h2
  · have h1 := (World.ownsRow.stored hown5 (k * 3) (.string nm)).1
    rw [all_set0 ds' k hk' nm] at h1
    exact h1
  · intro j hj hjk
    refine (hT j hj (by omega)).agree (fun x hx hxl => ?_)
    exact (Below.heap_setCell _ _ _ _ (fun e => (hQ2 j x hx).2.2 (by have e : x = g := e; exact e.symm))).trans (hs.block x hxl (hQ3 j k x (by omega) hx))
  · exact (Below.heap_setCell _ _ _ _ (fun e => hgH (by have e : H = g := e; exact e.symm))).trans ((hs.block H (heap_lt' hH) (fun hq => (hQ2 k H hq).2.1 rfl)).trans hH)
  · refine Below.setCell (p := ⟨g, k * 3, none⟩) ⟨hs.os.trans hB.os, hs.tape.trans hB.tape, hs.output.trans hB.output, Nat.le_trans hB.size hs.size, fun x hx => ?_⟩ hgl.1 _
    exact (hs.block x (by have := hB.size; omega) (fun hq => by have := (hQ2 k x hq).1; omega)).trans (hB.block x hx)
end Go.Proofs.YtbfjanfhgpgmdaaDoor
