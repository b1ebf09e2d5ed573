/- The contract of the law's spoil: it writes over a rule's body, and over nothing else. -/
import Derived.Test.YtbfjanfhgpgmdaaDoorDt
namespace Go.Proofs.YtbfjanfhgpgmdaaDoor
open Go.RowKit
set_option linter.unusedSimpArgs false
set_option linter.unusedVariables false

/-- Nothing but the blocks Q has changed. -/
structure Spoilt (Q : Nat → Prop) (w w' : World) : Prop where
  os : w'.os = w.os
  tape : w'.tape = w.tape
  output : w'.output = w.output
  size : w.heap.size ≤ w'.heap.size
  block : ∀ x, x < w.heap.size → ¬ Q x → w'.heap[x]? = w.heap[x]?
theorem Spoilt.below {Q : Nat → Prop} {w w' w2 : World} (h : Spoilt Q w w') (hb : Below w'.heap.size w' w2) : Spoilt Q w w2 :=
  ⟨hb.os.trans h.os, hb.tape.trans h.tape, hb.output.trans h.output, Nat.le_trans h.size hb.size, fun x hx hq => (hb.block x (by have := h.size; omega)).trans (h.block x hx hq)⟩
theorem Spoilt.set {Q : Nat → Prop} {w w' : World} (h : Spoilt Q w w') {b o : Nat} (u : Value) (hq : Q b) : Spoilt Q w (w'.setCell ⟨b, o, none⟩ u) := by
  have hb : Below b w' (w'.setCell ⟨b, o, none⟩ u) := (Below.refl b w').setCell (p := ⟨b, o, none⟩) (Nat.le_refl _) u
  exact ⟨hb.os.trans h.os, hb.tape.trans h.tape, hb.output.trans h.output, Nat.le_trans h.size hb.size, fun x hx hn => (Below.heap_setCell _ _ _ _ (fun e => hn (by have e : x = b := e; rw [e]; exact hq))).trans (h.block x hx hn)⟩
/-- A block of integers, long enough. -/
def IntBlk (w : World) (Q : Nat → Prop) (A : Option Addr) (n : Nat) : Prop := n = 0 ∨ ∃ (g : Nat) (cur : Array Value), A = some ⟨g, 0, none⟩ ∧ Q g ∧ w.heap[g]? = some (.cells cur 3 (0, 0)) ∧ n ≤ cur.size
theorem IntBlk.set {w : World} {Q : Nat → Prop} {A : Option Addr} {n b o : Nat} {u : Value} (h : IntBlk w Q A n) : IntBlk (w.setCell ⟨b, o, none⟩ u) Q A n := by
  rcases h with h | ⟨g, cur, hA, hq, hg, hn⟩
  · exact .inl h
  · by_cases e : g = b
    · subst e
      exact .inr ⟨g, cur.setIfInBounds o u, hA, hq, heap_setCell_same w g o cur _ u hg, by simpa using hn⟩
    · exact .inr ⟨g, cur, hA, hq, (Below.heap_setCell _ _ _ _ e).trans hg, hn⟩
theorem IntBlk.below {w w' : World} {Q : Nat → Prop} {A : Option Addr} {n : Nat} (h : IntBlk w Q A n) (hb : Below w.heap.size w w') : IntBlk w' Q A n := by
  rcases h with h | ⟨g, cur, hA, hq, hg, hn⟩
  · exact .inl h
  · exact .inr ⟨g, cur, hA, hq, bx_kept hb hg, hn⟩
theorem IntBlk.of_own {w : World} {Q : Nat → Prop} {A : Option Addr} {n c : Nat} {xs : List Value} (h : OwnS w Q 3 1 A n c xs) : IntBlk w Q A n := by
  rcases h.1.2 with ⟨hv, h0⟩ | ⟨g, cap, cur, hv, hb, hh, hn, hc, hs, ht⟩
  · exact .inl h0
  · cases hv
    exact .inr ⟨g, cur, rfl, h.2 g rfl, hh, by omega⟩
theorem IntBlk.cell {w : World} {Q : Nat → Prop} {A : Option Addr} {n : Nat} (h : IntBlk w Q A n) {j : Nat} (hj : j < n) : ∃ g u, A = some ⟨g, 0, none⟩ ∧ Q g ∧ w.cell? ⟨g, j, none⟩ = some u ∧ w.frozen? ⟨g, j, none⟩ = false := by
  rcases h with h | ⟨g, cur, hA, hq, hg, hn⟩
  · omega
  · refine ⟨g, cur[j]'(by omega), hA, hq, ?_, ?_⟩
    · simp [World.cell?, hg, show j < cur.size by omega]
    · simp [World.frozen?, hg]
/-- The nodes' row, its kids' slices as they were. -/
def NodBlk (w : World) (Q : Nat → Prop) (A : Option Addr) (ls : List Ln) : Prop := ls = [] ∨ ∃ (g : Nat) (cur : Array Value), A = some ⟨g, 0, none⟩ ∧ Q g ∧ w.heap[g]? = some (.cells cur 78 (0, 0)) ∧ ls.length * 9 ≤ cur.size ∧ ∀ k (h : k < ls.length), cur[k * 9 + 8]? = some (.slice ls[k].A ls[k].nd.kids.length ls[k].c)
theorem NodBlk.below {w w' : World} {Q : Nat → Prop} {A : Option Addr} {ls : List Ln} (h : NodBlk w Q A ls) (hb : Below w.heap.size w w') : NodBlk w' Q A ls := by
  rcases h with h | ⟨g, cur, hA, hq, hg, hn⟩
  · exact .inl h
  · exact .inr ⟨g, cur, hA, hq, bx_kept hb hg, hn⟩
theorem NodBlk.of_own {w : World} {Q : Nat → Prop} {t : Lt} (h : TreeOwn w Q t) : NodBlk w Q t.A t.ls := by
  rcases h.row.1.2 with ⟨hv, h0⟩ | ⟨g, cap, cur, hv, hb, hh, hn, hc, hs, ht⟩
  · exact .inl (List.eq_nil_of_length_eq_zero h0)
  · have hA : t.A = some ⟨g, 0, none⟩ := by simp only [Value.slice.injEq] at hv; exact hv.1
    refine .inr ⟨g, cur, hA, h.row.2 g (by rw [hA]; rfl), hh, by rw [hs]; exact Nat.mul_le_mul_right _ hn, fun k hk => ?_⟩
    have e := ndL.all_at t.ls k 8 hk (by decide)
    rw [← ht] at e
    have hk8 : k * 9 + 8 < t.ls.length * 9 := by omega
    rw [show k * ndL.size + 8 = k * 9 + 8 from rfl, List.getElem?_take_of_lt hk8, Array.getElem?_toList] at e
    exact e
theorem NodBlk.set_int {w : World} {Q : Nat → Prop} {A : Option Addr} {ls : List Ln} {b o : Nat} {u : Value} {cur : Array Value} (h : NodBlk w Q A ls) (hb : w.heap[b]? = some (.cells cur 3 (0, 0))) : NodBlk (w.setCell ⟨b, o, none⟩ u) Q A ls := by
  rcases h with h | ⟨g, cg, hA, hq, hg, hn⟩
  · exact .inl h
  · have e : g ≠ b := fun e => by rw [e, hb] at hg; cases hg
    exact .inr ⟨g, cg, hA, hq, (Below.heap_setCell _ _ _ _ e).trans hg, hn⟩
def SpoilRel (w : World) (Q : Nat → Prop) (H : Nat) (box : Obj) (A : Option Addr) (ls : List Ln) (wr : World) : Prop :=
  Spoilt (fun x => Q x ∧ x < w.heap.size) w wr ∧ wr.heap[H]? = some box ∧ NodBlk wr (fun x => Q x ∧ x < w.heap.size) A ls ∧ ∀ l ∈ ls, IntBlk wr (fun x => Q x ∧ x < w.heap.size) l.A l.nd.kids.length
set_option maxRecDepth 100000 in
set_option maxHeartbeats 3200000 in
theorem spoil_any (d : Ld) (Q : Nat → Prop) (w : World) (ht : TreeOwn w Q d.t) (hm : DMod d) :
    Calls Tryd.prog 21 #[.agg #[.string d.name, .slice d.t.A d.t.ls.length d.t.c, .int .i64 d.t.root]] w fun e w' => e = .returned (.tuple #[]) ∧ Spoilt Q w w' := by
  obtain ⟨nm, ⟨A, c, ls, r⟩⟩ := d
  have hm1 : ls.length ≤ 4294967296 := hm.1
  have HM := Lib.hid hm.2
  have ht2 : TreeOwn w (fun x => Q x ∧ x < w.heap.size) ⟨A, c, ls, r⟩ := ht.mono (fun x h1 h2 => ⟨h2, h1⟩)
  have HN := Lib.hid (NodBlk.of_own ht2)
  have HI := Lib.hid (show ∀ l ∈ ls, IntBlk w (fun x => Q x ∧ x < w.heap.size) l.A l.nd.kids.length from fun l hl => IntBlk.of_own (ht2.kids l hl).2)
  clear ht ht2 hm
  simp only
  go_enter Tryd.func21, Tryd.ntmps21
  go_wp2_with fail
  go_loopw [2] (fun i wr => ∃ k : Nat, k ≤ ls.length ∧ i = .int .i64 k ∧ Hid (SpoilRel w Q w.heap.size (.cells #[.string nm, .slice A ls.length c, .int .i64 r] 36 (0, 0)) A ls wr)) (fun i _ => ls.length - (intOf i).toNat)
  case atStart =>
    exact ⟨0, Nat.zero_le _, rfl, Lib.hid ⟨Spoilt.below ⟨rfl, rfl, rfl, Nat.le_refl _, fun _ _ _ => rfl⟩ (bx1 w _), bx_new w _, HN.out.below (bx1 w _), fun l hl => (HI.out l hl).below (bx1 w _)⟩⟩
  case round =>
    obtain ⟨k, hk, rfl, HR⟩ := hrel
    obtain ⟨p0, p1, p2⟩ := blk3' HR.out.2.1
    by_cases hlt : k < ls.length
    · obtain ⟨wo, rfl⟩ : ∃ wo : World, wo = wr := ⟨_, rfl⟩
      have i1 : (k : Int) < (ls.length : Int) := by omega
      have i2 : (0 : Int) ≤ (k : Int) := by omega
      have HKL := Lib.hid (HM.out ls[k] (List.getElem_mem hlt))
      have hne : ls ≠ [] := fun e => by subst e; simp at hlt
      go_wp2_with fail
      go_loopw [3] (fun j wr => ∃ q : Nat, q ≤ ls[k].nd.kids.length ∧ j = .int .i64 q ∧ Hid (SpoilRel w Q w.heap.size (.cells #[.string nm, .slice A ls.length c, .int .i64 r] 36 (0, 0)) A ls wr)) (fun j _ => ls[k].nd.kids.length - (intOf j).toNat)
      case atStart => exact ⟨0, Nat.zero_le _, rfl, HR⟩
      case round =>
        clear HR p0 p1 p2
        obtain ⟨q, hq, rfl, HR⟩ := hrel
        obtain ⟨p0, p1, p2⟩ := blk3' HR.out.2.1
        obtain ⟨g, cur, rfl, hqg, hg, hsz, hcs⟩ := HR.out.2.2.1.resolve_left hne
        have x8 : wr.cell? ⟨g, k * 9 + 8, none⟩ = some (.slice ls[k].A ls[k].nd.kids.length ls[k].c) := by
          have h := hcs k hlt
          simp only [World.cell?, hg]
          exact h
        have hb1 := HKL.out
        by_cases hql : q < ls[k].nd.kids.length
        · have j1 : (q : Int) < (ls[k].nd.kids.length : Int) := by omega
          have j2 : (0 : Int) ≤ (q : Int) := by omega
          have HIK := Lib.hid (HR.out.2.2.2 ls[k] (List.getElem_mem hlt))
          rcases HIK.out with h0 | ⟨gi, ci, hAi, hqi, hgi, hni⟩
          · omega
          · obtain ⟨u, c1⟩ : ∃ u, wr.cell? ⟨gi, q, none⟩ = some u := ⟨ci[q]'(by omega), by simp [World.cell?, hgi, show q < ci.size by omega]⟩
            have c2 : wr.frozen? ⟨gi, q, none⟩ = false := by simp [World.frozen?, hgi]
            rw [hAi] at x8
            have HGI := Lib.hid hgi; have HQI := Lib.hid hqi
            clear hgi hni hg hcs hsz
            go_wp2_with fail
            exact ⟨⟨q + 1, by omega, by go_num, Lib.hid ⟨HR.out.1.set _ HQI.out, (Below.heap_setCell _ _ _ _ (by have := HQI.out.2; show w.heap.size ≠ gi; omega)).trans HR.out.2.1, HR.out.2.2.1.set_int HGI.out, fun l hl => (HR.out.2.2.2 l hl).set⟩⟩, by simp only [intOf]; omega⟩
        · obtain rfl : q = ls[k].nd.kids.length := by omega
          have hk9 : k * 9 < cur.size := by omega
          obtain ⟨u, c1⟩ : ∃ u, wr.cell? ⟨g, k * 9, none⟩ = some u := ⟨cur[k * 9]'hk9, by simp [World.cell?, hg, hk9]⟩
          have c2 : wr.frozen? ⟨g, k * 9, none⟩ = false := by simp [World.frozen?, hg]
          have HNS := Lib.hid (show ∀ u, NodBlk (wr.setCell ⟨g, k * 9, none⟩ u) (fun x => Q x ∧ x < w.heap.size) (some ⟨g, 0, none⟩) ls from fun u => .inr ⟨g, cur.setIfInBounds (k * 9) u, rfl, hqg, heap_setCell_same wr g (k * 9) cur _ u hg, by simpa using hsz, fun j hj => by
            rw [Array.getElem?_setIfInBounds_ne (by omega)]; exact hcs j hj⟩)
          have HQG := Lib.hid hqg
          clear hg hcs hsz hk9
          go_wp2_with fail
          exact ⟨⟨k + 1, by omega, by go_num, Lib.hid ⟨HR.out.1.set _ HQG.out, (Below.heap_setCell _ _ _ _ (by have := HQG.out.2; show w.heap.size ≠ g; omega)).trans HR.out.2.1, HNS.out _, fun l hl => (HR.out.2.2.2 l hl).set⟩⟩, by simp only [intOf]; omega⟩
    · go_wp2_with fail
      have h := HR.out.1
      exact bodyPost_end (v := .tuple #[]) (by simp [results, Tryd.results21, go_sem]) rfl ⟨rfl, ⟨h.os, h.tape, h.output, h.size, fun x hx hn => h.block x hx (fun hq => hn hq.1)⟩⟩
end Go.Proofs.YtbfjanfhgpgmdaaDoor
