/- The contract of bonsailaw09.spoil: it writes over a grammar, and over nothing else. -/
import Derived.Test.YtdcgbcdmkhleoaaDoorDw
namespace Go.Proofs.YtdcgbcdmkhleoaaDoor
open Go.RowKit
set_option linter.unusedSimpArgs false
set_option linter.unusedVariables false

/-- Nothing but the blocks Q has changed. -/
structure Spoilt (Q : Nat → Prop) (w w' : World) : Prop where
  os : w'.os = w.os
  tape : w'.tape = w.tape
  output : w'.output = w.output
  size : w.heap.size ≤ w'.heap.size
  block : ∀ x, x < w.heap.size → ¬ Q x → w'.heap[x]? = w.heap[x]?
theorem Spoilt.below {Q : Nat → Prop} {w w' w2 : World} (h : Spoilt Q w w') (hb : Below w'.heap.size w' w2) : Spoilt Q w w2 :=
  ⟨hb.os.trans h.os, hb.tape.trans h.tape, hb.output.trans h.output, Nat.le_trans h.size hb.size, fun x hx hq => (hb.block x (by have := h.size; omega)).trans (h.block x hx hq)⟩
theorem Spoilt.set {Q : Nat → Prop} {w w' : World} (h : Spoilt Q w w') {b o : Nat} (u : Value) (hq : Q b) : Spoilt Q w (w'.setCell ⟨b, o, none⟩ u) := by
  have hb : Below b w' (w'.setCell ⟨b, o, none⟩ u) := (Below.refl b w').setCell (p := ⟨b, o, none⟩) (Nat.le_refl _) u
  exact ⟨hb.os.trans h.os, hb.tape.trans h.tape, hb.output.trans h.output, Nat.le_trans h.size hb.size, fun x hx hn => (Below.heap_setCell _ _ _ _ (fun e => hn (by have e : x = b := e; rw [e]; exact hq))).trans (h.block x hx hn)⟩
/-- A block of integers, long enough. -/
def IntBlk (w : World) (Q : Nat → Prop) (A : Option Addr) (n : Nat) : Prop := n = 0 ∨ ∃ (g : Nat) (cur : Array Value), A = some ⟨g, 0, none⟩ ∧ Q g ∧ w.heap[g]? = some (.cells cur 3 (0, 0)) ∧ n ≤ cur.size
theorem IntBlk.set {w : World} {Q : Nat → Prop} {A : Option Addr} {n b o : Nat} {u : Value} (h : IntBlk w Q A n) : IntBlk (w.setCell ⟨b, o, none⟩ u) Q A n := by
  rcases h with h | ⟨g, cur, hA, hq, hg, hn⟩
  · exact .inl h
  · by_cases e : g = b
    · subst e
      exact .inr ⟨g, cur.setIfInBounds o u, hA, hq, heap_setCell_same w g o cur _ u hg, by simpa using hn⟩
    · exact .inr ⟨g, cur, hA, hq, (Below.heap_setCell _ _ _ _ e).trans hg, hn⟩
theorem IntBlk.below {w w' : World} {Q : Nat → Prop} {A : Option Addr} {n : Nat} (h : IntBlk w Q A n) (hb : Below w.heap.size w w') : IntBlk w' Q A n := by
  rcases h with h | ⟨g, cur, hA, hq, hg, hn⟩
  · exact .inl h
  · exact .inr ⟨g, cur, hA, hq, bx_kept hb hg, hn⟩
theorem IntBlk.of_own {w : World} {Q : Nat → Prop} {A : Option Addr} {n c : Nat} {xs : List Value} (h : OwnS w Q 3 1 A n c xs) : IntBlk w Q A n := by
  rcases h.1.2 with ⟨hv, h0⟩ | ⟨g, cap, cur, hv, hb, hh, hn, hc, hs, ht⟩
  · exact .inl h0
  · cases hv
    exact .inr ⟨g, cur, rfl, h.2 g rfl, hh, by omega⟩
theorem IntBlk.cell {w : World} {Q : Nat → Prop} {A : Option Addr} {n : Nat} (h : IntBlk w Q A n) {j : Nat} (hj : j < n) : ∃ g u, A = some ⟨g, 0, none⟩ ∧ Q g ∧ w.cell? ⟨g, j, none⟩ = some u ∧ w.frozen? ⟨g, j, none⟩ = false := by
  rcases h with h | ⟨g, cur, hA, hq, hg, hn⟩
  · omega
  · refine ⟨g, cur[j]'(by omega), hA, hq, ?_, ?_⟩
    · simp [World.cell?, hg, show j < cur.size by omega]
    · simp [World.frozen?, hg]
/-- The nodes' row, its kids' slices as they were. -/
def NodBlk (w : World) (Q : Nat → Prop) (A : Option Addr) (ls : List Ln) : Prop := ls = [] ∨ ∃ (g : Nat) (cur : Array Value), A = some ⟨g, 0, none⟩ ∧ Q g ∧ w.heap[g]? = some (.cells cur 41 (0, 0)) ∧ ls.length * 9 ≤ cur.size ∧ ∀ k (h : k < ls.length), cur[k * 9 + 8]? = some (.slice ls[k].A ls[k].nd.kids.length ls[k].c)
theorem NodBlk.below {w w' : World} {Q : Nat → Prop} {A : Option Addr} {ls : List Ln} (h : NodBlk w Q A ls) (hb : Below w.heap.size w w') : NodBlk w' Q A ls := by
  rcases h with h | ⟨g, cur, hA, hq, hg, hn⟩
  · exact .inl h
  · exact .inr ⟨g, cur, hA, hq, bx_kept hb hg, hn⟩
theorem NodBlk.of_own {w : World} {Q : Nat → Prop} {t : Lt} (h : TreeOwn w Q t) : NodBlk w Q t.A t.ls := by
  rcases h.row.1.2 with ⟨hv, h0⟩ | ⟨g, cap, cur, hv, hb, hh, hn, hc, hs, ht⟩
  · exact .inl (List.eq_nil_of_length_eq_zero h0)
  · have hA : t.A = some ⟨g, 0, none⟩ := by simp only [Value.slice.injEq] at hv; exact hv.1
    refine .inr ⟨g, cur, hA, h.row.2 g (by rw [hA]; rfl), hh, by rw [hs]; exact Nat.mul_le_mul_right _ hn, fun k hk => ?_⟩
    have e := ndL.all_at t.ls k 8 hk (by decide)
    rw [← ht] at e
    have hk8 : k * 9 + 8 < t.ls.length * 9 := by omega
    rw [show k * ndL.size + 8 = k * 9 + 8 from rfl, List.getElem?_take_of_lt hk8, Array.getElem?_toList] at e
    exact e
theorem NodBlk.set_int {w : World} {Q : Nat → Prop} {A : Option Addr} {ls : List Ln} {b o : Nat} {u : Value} {cur : Array Value} (h : NodBlk w Q A ls) (hb : w.heap[b]? = some (.cells cur 3 (0, 0))) : NodBlk (w.setCell ⟨b, o, none⟩ u) Q A ls := by
  rcases h with h | ⟨g, cg, hA, hq, hg, hn⟩
  · exact .inl h
  · have e : g ≠ b := fun e => by rw [e, hb] at hg; cases hg
    exact .inr ⟨g, cg, hA, hq, (Below.heap_setCell _ _ _ _ e).trans hg, hn⟩
theorem IntBlk.mono {w : World} {Q R : Nat → Prop} {A : Option Addr} {n : Nat} (h : IntBlk w Q A n) (hq : ∀ x, Q x → R x) : IntBlk w R A n := by
  rcases h with h | ⟨g, cur, hA, h1, hg, hn⟩
  · exact .inl h
  · exact .inr ⟨g, cur, hA, hq _ h1, hg, hn⟩
theorem NodBlk.set_at {w : World} {Q : Nat → Prop} {A : Option Addr} {ls : List Ln} {b o : Nat} {u : Value} (h : NodBlk w Q A ls) (ho : ∀ k, k * 9 + 8 ≠ o) : NodBlk (w.setCell ⟨b, o, none⟩ u) Q A ls := by
  rcases h with h | ⟨g, cg, hA, hq, hg, hn, hc⟩
  · exact .inl h
  · by_cases e : g = b
    · subst e
      exact .inr ⟨g, cg.setIfInBounds o u, hA, hq, heap_setCell_same w g o cg _ u hg, by simpa using hn, fun k hk => by rw [Array.getElem?_setIfInBounds_ne (fun e => ho k e.symm)]; exact hc k hk⟩
    · exact .inr ⟨g, cg, hA, hq, (Below.heap_setCell _ _ _ _ e).trans hg, hn, hc⟩
theorem NodBlk.set_ty {w : World} {Q : Nat → Prop} {A : Option Addr} {ls : List Ln} {b o : Nat} {u : Value} {cur : Array Value} {T : TypeId} (h : NodBlk w Q A ls) (hb : w.heap[b]? = some (.cells cur T (0, 0))) (hT : T ≠ 41) : NodBlk (w.setCell ⟨b, o, none⟩ u) Q A ls := by
  rcases h with h | ⟨g, cg, hA, hq, hg, hn⟩
  · exact .inl h
  · have e : g ≠ b := fun e => by
      rw [e, hb] at hg
      injection hg with hg
      injection hg with _ hg
      exact hT hg
    exact .inr ⟨g, cg, hA, hq, (Below.heap_setCell _ _ _ _ e).trans hg, hn⟩
/-- The rules' row, its bodies' slices as they were. -/
def DefBlk (w : World) (Q : Nat → Prop) (A : Option Addr) (ds : List Ld) : Prop := ds = [] ∨ ∃ (g : Nat) (cur : Array Value), A = some ⟨g, 0, none⟩ ∧ Q g ∧ w.heap[g]? = some (.cells cur 47 (0, 0)) ∧ ds.length * 3 ≤ cur.size ∧ ∀ k (h : k < ds.length), cur[k * 3 + 1]? = some (.slice ds[k].t.A ds[k].t.ls.length ds[k].t.c) ∧ cur[k * 3 + 2]? = some (.int .i64 ds[k].t.root)
theorem DefBlk.below {w w' : World} {Q : Nat → Prop} {A : Option Addr} {ds : List Ld} (h : DefBlk w Q A ds) (hb : Below w.heap.size w w') : DefBlk w' Q A ds := by
  rcases h with h | ⟨g, cur, hA, hq, hg, hn⟩
  · exact .inl h
  · exact .inr ⟨g, cur, hA, hq, bx_kept hb hg, hn⟩
theorem DefBlk.of_own {w : World} {Q : Nat → Prop} {A : Option Addr} {c : Nat} {ds : List Ld} (h : OwnS w Q 47 3 A ds.length c (dfL.all ds)) : DefBlk w Q A ds := by
  rcases h.1.2 with ⟨hv, h0⟩ | ⟨g, cap, cur, hv, hb, hh, hn, hc, hs, ht⟩
  · exact .inl (List.eq_nil_of_length_eq_zero h0)
  · have hA : A = some ⟨g, 0, none⟩ := by simp only [Value.slice.injEq] at hv; exact hv.1
    refine .inr ⟨g, cur, hA, h.2 g (by rw [hA]; rfl), hh, by rw [hs]; exact Nat.mul_le_mul_right _ hn, fun k hk => ?_⟩
    have h1 := dfL.all_at ds k 1 hk (by decide)
    have h2 := dfL.all_at ds k 2 hk (by decide)
    rw [← ht] at h1 h2
    rw [show k * dfL.size + 1 = k * 3 + 1 from rfl, List.getElem?_take_of_lt (by omega), Array.getElem?_toList] at h1
    rw [show k * dfL.size + 2 = k * 3 + 2 from rfl, List.getElem?_take_of_lt (by omega), Array.getElem?_toList] at h2
    exact ⟨h1, h2⟩
theorem DefBlk.set_at {w : World} {Q : Nat → Prop} {A : Option Addr} {ds : List Ld} {b k : Nat} {u : Value} (h : DefBlk w Q A ds) : DefBlk (w.setCell ⟨b, k * 3, none⟩ u) Q A ds := by
  rcases h with h | ⟨g, cg, hA, hq, hg, hn, hc⟩
  · exact .inl h
  · by_cases e : g = b
    · subst e
      exact .inr ⟨g, cg.setIfInBounds (k * 3) u, hA, hq, heap_setCell_same w g (k * 3) cg _ u hg, by simpa using hn, fun j hj => by
        rw [Array.getElem?_setIfInBounds_ne (by omega), Array.getElem?_setIfInBounds_ne (by omega)]; exact hc j hj⟩
    · exact .inr ⟨g, cg, hA, hq, (Below.heap_setCell _ _ _ _ e).trans hg, hn, hc⟩
theorem DefBlk.set_ty {w : World} {Q : Nat → Prop} {A : Option Addr} {ds : List Ld} {b o : Nat} {u : Value} {cur : Array Value} {T : TypeId} (h : DefBlk w Q A ds) (hb : w.heap[b]? = some (.cells cur T (0, 0))) (hT : T ≠ 47) : DefBlk (w.setCell ⟨b, o, none⟩ u) Q A ds := by
  rcases h with h | ⟨g, cg, hA, hq, hg, hn⟩
  · exact .inl h
  · have e : g ≠ b := fun e => by
      rw [e, hb] at hg
      injection hg with hg
      injection hg with _ hg
      exact hT hg
    exact .inr ⟨g, cg, hA, hq, (Below.heap_setCell _ _ _ _ e).trans hg, hn⟩
structure SpoilG (w : World) (Q : Nat → Prop) (box : Obj) (A : Option Addr) (ds : List Ld) (wr : World) : Prop where
  sp : Spoilt (fun x => Q x ∧ x < w.heap.size) w wr
  bx : wr.heap[w.heap.size]? = some box
  df : DefBlk wr (fun x => Q x ∧ x < w.heap.size) A ds
  nd : ∀ d ∈ ds, NodBlk wr (fun x => Q x ∧ x < w.heap.size) d.t.A d.t.ls
  it : ∀ d ∈ ds, ∀ l ∈ d.t.ls, IntBlk wr (fun x => Q x ∧ x < w.heap.size) l.A l.nd.kids.length
theorem SpoilG.set {w : World} {Q : Nat → Prop} {box : Obj} {A : Option Addr} {ds : List Ld} {wr : World} {b o : Nat} {u : Value} (h : SpoilG w Q box A ds wr) (hq : Q b ∧ b < w.heap.size) (h1 : DefBlk (wr.setCell ⟨b, o, none⟩ u) (fun x => Q x ∧ x < w.heap.size) A ds) (h2 : ∀ d ∈ ds, NodBlk (wr.setCell ⟨b, o, none⟩ u) (fun x => Q x ∧ x < w.heap.size) d.t.A d.t.ls) : SpoilG w Q box A ds (wr.setCell ⟨b, o, none⟩ u) :=
  ⟨h.sp.set u hq, (Below.heap_setCell _ _ _ _ (by show w.heap.size ≠ b; omega)).trans h.bx, h1, h2, fun d hd l hl => (h.it d hd l hl).set⟩
theorem SpoilG.below {w : World} {Q : Nat → Prop} {box : Obj} {A : Option Addr} {ds : List Ld} {wr w' : World} (h : SpoilG w Q box A ds wr) (hb : Below wr.heap.size wr w') : SpoilG w Q box A ds w' :=
  ⟨h.sp.below hb, bx_kept hb h.bx, h.df.below hb, fun d hd => (h.nd d hd).below hb, fun d hd l hl => (h.it d hd l hl).below hb⟩

set_option maxRecDepth 100000 in
set_option maxHeartbeats 6400000 in
theorem spoil9_any (A : Option Addr) (c : Nat) (ds : List Ld) (Q : Nat → Prop) (w : World) (hg : GramOwn w Q A c ds) (hl : ds.length ≤ 4294967296) (hm : ∀ d ∈ ds, DMod d) :
    Calls Tryd.prog 47 #[.agg #[.slice A ds.length c]] w fun e w' => e = .returned (.tuple #[]) ∧ Spoilt Q w w' := by
  have HM := Lib.hid hm
  obtain ⟨R, r1, r2, _⟩ := hg.kids
  have HG := Lib.hid (show DefBlk w (fun x => Q x ∧ x < w.heap.size) A ds from DefBlk.of_own (hg.row.mono (fun x h1 h2 => ⟨h2, h1⟩)))
  have HN := Lib.hid (show ∀ d ∈ ds, TreeOwn w (fun x => Q x ∧ x < w.heap.size) d.t from fun d hd => by
    obtain ⟨i, hi, rfl⟩ := List.mem_iff_getElem.1 hd
    exact (r1 i hi).2.mono (fun x h1 h2 => ⟨r2 i x h2, h1⟩))
  clear hg hm r1 r2
  go_enter Tryd.func47, Tryd.ntmps47
  go_wp2_with fail
  go_loopw [2] (fun i wr => ∃ k : Nat, k ≤ ds.length ∧ i = .int .i64 k ∧ Hid (SpoilG w Q (.cells #[.slice A ds.length c] 50 (0, 0)) A ds wr)) (fun i _ => ds.length - (intOf i).toNat)
  case atStart =>
    exact ⟨0, Nat.zero_le _, rfl, Lib.hid ⟨Spoilt.below ⟨rfl, rfl, rfl, Nat.le_refl _, fun _ _ _ => rfl⟩ (bx1 w _), bx_new w _, HG.out.below (bx1 w _), fun d hd => (NodBlk.of_own (HN.out d hd)).below (bx1 w _), fun d hd l hl => (IntBlk.of_own ((HN.out d hd).kids l hl).2).below (bx1 w _)⟩⟩
  case round =>
    clear HG HN
    obtain ⟨k, hk, rfl, HR⟩ := hrel
    obtain ⟨p0, _⟩ := blk1 HR.out.bx
    by_cases hlt : k < ds.length
    · obtain ⟨wo, rfl⟩ : ∃ wo : World, wo = wr := ⟨_, rfl⟩
      have i1 : (k : Int) < (ds.length : Int) := by omega
      have i2 : (0 : Int) ≤ (k : Int) := by omega
      have HD := Lib.hid (List.getElem_mem hlt)
      have HMK := Lib.hid (show ds[k].t.ls.length ≤ 4294967296 ∧ ∀ l ∈ ds[k].t.ls, l.nd.kids.length ≤ 4294967296 from HM.out ds[k] HD.out)
      have hne : ds ≠ [] := fun e => by subst e; simp at hlt
      obtain ⟨g, cur, rfl, hqg, hgg, hsz, hcs⟩ := HR.out.df.resolve_left hne
      have x1 : wo.cell? ⟨g, k * 3 + 1, none⟩ = some (.slice ds[k].t.A ds[k].t.ls.length ds[k].t.c) := by
        simp only [World.cell?, hgg]; exact (hcs k hlt).1
      have x2 : wo.cell? ⟨g, k * 3 + 2, none⟩ = some (.int .i64 ds[k].t.root) := by
        simp only [World.cell?, hgg]; exact (hcs k hlt).2
      have HSK := Lib.hid (show ∀ w', SpoilG w Q (.cells #[.slice (some ⟨g, 0, none⟩) ds.length c] 50 (0, 0)) (some ⟨g, 0, none⟩) ds w' → NodBlk w' (fun x => Q x ∧ x < w.heap.size) ds[k].t.A ds[k].t.ls ∧ ∀ l ∈ ds[k].t.ls, IntBlk w' (fun x => Q x ∧ x < w.heap.size) l.A l.nd.kids.length from fun w' h => ⟨h.nd _ HD.out, h.it _ HD.out⟩)
      have hz : w.heap.size < wo.heap.size := heap_lt' HR.out.bx
      clear hcs hsz hgg hqg hne
      generalize ds[k].t = t at *
      obtain ⟨tA, tc, ls, tr⟩ := t
      simp only at x1 x2 HSK
      have HNB := Lib.hid (bx_new wo (.cells #[.slice tA ls.length tc, .int .i64 tr] 24))
      have HR2 := Lib.hid (HR.out.below (bx1 wo (.cells #[.slice tA ls.length tc, .int .i64 tr] 24)))
      have hnb : wo.heap.size < (wo.alloc (.cells #[.slice tA ls.length tc, .int .i64 tr] 24)).heap.size := by simp
      go_wp2_with fail
      clear p0 x1 x2
      generalize wo.alloc (.cells #[.slice tA ls.length tc, .int .i64 tr] 24) = W at *
      generalize wo.heap.size = nb at *
      have hml : ls.length ≤ 4294967296 := HMK.out.1
      have HML := Lib.hid HMK.out.2
      go_loopw [4] (fun j wr => ∃ q : Nat, q ≤ ls.length ∧ j = .int .i64 q ∧ Hid (SpoilG w Q (.cells #[.slice (some ⟨g, 0, none⟩) ds.length c] 50 (0, 0)) (some ⟨g, 0, none⟩) ds wr) ∧ Hid (wr.heap[nb]? = some (.cells #[.slice tA ls.length tc, .int .i64 tr] 24 (0, 0)))) (fun j _ => ls.length - (intOf j).toNat)
      case atStart => exact ⟨0, Nat.zero_le _, rfl, HR2, HNB⟩
      case round =>
        clear HR HR2 HNB hnb
        obtain ⟨q, hq, rfl, HR, HNB⟩ := hrel
        obtain ⟨t0, _, _, _⟩ := blk2 HNB.out
        by_cases hql : q < ls.length
        · have j1 : (q : Int) < (ls.length : Int) := by omega
          have j2 : (0 : Int) ≤ (q : Int) := by omega
          have HKL := Lib.hid (HML.out ls[q] (List.getElem_mem hql))
          have hne : ls ≠ [] := fun e => by subst e; simp at hql
          go_wp2_with fail
          go_loopw [5] (fun j wr => ∃ m : Nat, m ≤ ls[q].nd.kids.length ∧ j = .int .i64 m ∧ Hid (SpoilG w Q (.cells #[.slice (some ⟨g, 0, none⟩) ds.length c] 50 (0, 0)) (some ⟨g, 0, none⟩) ds wr) ∧ Hid (wr.heap[nb]? = some (.cells #[.slice tA ls.length tc, .int .i64 tr] 24 (0, 0)))) (fun j _ => ls[q].nd.kids.length - (intOf j).toNat)
          case atStart => exact ⟨0, Nat.zero_le _, rfl, HR, HNB⟩
          case round =>
            clear HR HNB t0
            obtain ⟨m, hm, rfl, HR, HNB⟩ := hrel
            obtain ⟨t0, _, _, _⟩ := blk2 HNB.out
            obtain ⟨gn, cur, hA, hqg, hgg, hsz, hcs⟩ := (HSK.out _ HR.out).1.resolve_left hne
            subst hA
            have x8 : wr.cell? ⟨gn, q * 9 + 8, none⟩ = some (.slice ls[q].A ls[q].nd.kids.length ls[q].c) := by
              have h := hcs q hql
              simp only [World.cell?, hgg]
              exact h
            have hb1 := HKL.out
            by_cases hmm : m < ls[q].nd.kids.length
            · have k1 : (m : Int) < (ls[q].nd.kids.length : Int) := by omega
              have k2 : (0 : Int) ≤ (m : Int) := by omega
              have HIK := Lib.hid ((HSK.out _ HR.out).2 ls[q] (List.getElem_mem hql))
              rcases HIK.out with h0 | ⟨gi, ci, hAi, hqi, hgi, hni⟩
              · omega
              · obtain ⟨u, c1⟩ : ∃ u, wr.cell? ⟨gi, m, none⟩ = some u := ⟨ci[m]'(by omega), by simp [World.cell?, hgi, show m < ci.size by omega]⟩
                have c2 : wr.frozen? ⟨gi, m, none⟩ = false := by simp [World.frozen?, hgi]
                rw [hAi] at x8
                have HGI := Lib.hid hgi; have HQI := Lib.hid hqi
                clear hgi hni hgg hcs hsz
                as_aux_lemma =>
                  go_wp2_with fail
                  exact ⟨⟨m + 1, by omega, by go_num, Lib.hid (HR.out.set HQI.out (HR.out.df.set_ty HGI.out (by decide)) (fun d hd => (HR.out.nd d hd).set_ty HGI.out (by decide))), Lib.hid ((Below.heap_setCell _ _ _ _ (by have := HQI.out.2; show nb ≠ gi; omega)).trans HNB.out)⟩, by simp only [intOf]; omega⟩
            · obtain rfl : m = ls[q].nd.kids.length := by omega
              have hk9 : q * 9 + 5 < cur.size := by omega
              obtain ⟨u, c1⟩ : ∃ u, wr.cell? ⟨gn, q * 9 + 5, none⟩ = some u := ⟨cur[q * 9 + 5]'hk9, by simp [World.cell?, hgg, hk9]⟩
              have c2 : wr.frozen? ⟨gn, q * 9 + 5, none⟩ = false := by simp [World.frozen?, hgg]
              have HGG := Lib.hid hgg; have HQG := Lib.hid hqg
              clear hgg hcs hsz hk9
              as_aux_lemma =>
                go_wp2_with fail
                exact ⟨⟨q + 1, by omega, by go_num, Lib.hid (HR.out.set HQG.out (HR.out.df.set_ty HGG.out (by decide)) (fun d hd => (HR.out.nd d hd).set_at (fun k => by omega))), Lib.hid ((Below.heap_setCell _ _ _ _ (by have := HQG.out.2; show nb ≠ gn; omega)).trans HNB.out)⟩, by simp only [intOf]; omega⟩
        · have hne : ds ≠ [] := fun e => by subst e; simp at hlt
          obtain ⟨p0, _⟩ := blk1 HR.out.bx
          obtain ⟨g', cur, hA, hqg, hgg, hsz, hcs⟩ := HR.out.df.resolve_left hne
          cases hA
          have hk3 : k * 3 < cur.size := by omega
          obtain ⟨u, c1⟩ : ∃ u, wr.cell? ⟨g, k * 3, none⟩ = some u := ⟨cur[k * 3]'hk3, by simp [World.cell?, hgg, hk3]⟩
          have c2 : wr.frozen? ⟨g, k * 3, none⟩ = false := by simp [World.frozen?, hgg]
          have HGG := Lib.hid hgg; have HQG := Lib.hid hqg
          clear hgg hcs hsz hk3
          as_aux_lemma =>
            go_wp2_with fail
            exact ⟨⟨k + 1, by omega, by go_num, Lib.hid (HR.out.set HQG.out HR.out.df.set_at (fun d hd => (HR.out.nd d hd).set_ty HGG.out (by decide)))⟩, by simp only [intOf]; omega⟩
    · go_wp2_with fail
      have h := HR.out.sp
      exact bodyPost_end (v := .tuple #[]) (by simp [results, Tryd.results47, go_sem]) rfl ⟨rfl, ⟨h.os, h.tape, h.output, h.size, fun x hx hn => h.block x hx (fun hq => hn hq.1)⟩⟩
end Go.Proofs.YtdcgbcdmkhleoaaDoor
