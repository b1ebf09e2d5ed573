/- The contract of the law's large: what is not large is small. The contract of the law's spoil: it writes over a rule's body, and over nothing else. -/
import Derived.Test.YtmjkgnknfgoadaaGreatDoorDv
import Derived.BigQuiet
import Derived.Deep.RegionHeld3
namespace Go.Proofs.YtmjkgnknfgoadaaGreatDoor
open Go.RowKit
set_option linter.unusedSimpArgs false
set_option linter.unusedVariables false
def SmallD (d : Ld) : Prop := d.t.ls.length ≤ 500 ∧ ∀ l ∈ d.t.ls, l.nd.kids.length ≤ 500
def SmallG (ds : List Ld) : Prop := ds.length ≤ 500 ∧ ∀ d ∈ ds, SmallD d
theorem SmallD.mod {d : Ld} (h : SmallD d) : DMod d := ⟨by have := h.1; omega, fun l hl => by have := h.2 l hl; omega⟩
def LargePost (gs : List Lg) (w : World) (e : Ending) (w' : World) : Prop := ∃ r, e = .returned (.bool r) ∧ (r = false → ∀ g ∈ gs, SmallG g.ds) ∧ Below w.heap.size w w'
def OutRel (w : World) (gs : List Lg) (i n : Value) (wr : World) : Prop := ∃ p nn : Nat, p ≤ gs.length ∧ i = .int .i64 p ∧ n = .int .i64 nn ∧ nn ≤ 5000 ∧ Hid (nn < 500 → ∀ g ∈ gs.take p, SmallG g.ds) ∧ Hid (Below w.heap.size w wr)
def MidRel (w : World) (gs : List Lg) (p : Nat) (ds : List Ld) (i n : Value) (wr : World) : Prop := ∃ q nn : Nat, q ≤ ds.length ∧ i = .int .i64 q ∧ n = .int .i64 nn ∧ nn ≤ 5000 ∧ Hid (nn < 500 → q ≤ nn ∧ (∀ g ∈ gs.take p, SmallG g.ds) ∧ ∀ d ∈ ds.take q, SmallD d) ∧ Hid (Below w.heap.size w wr)
def InRel (w wq : World) (gs : List Lg) (p : Nat) (ds : List Ld) (q : Nat) (ls : List Ln) (i n : Value) (wr : World) : Prop := ∃ m nn : Nat, m ≤ ls.length ∧ i = .int .i64 m ∧ n = .int .i64 nn ∧ nn ≤ 5000 ∧ Hid (nn < 500 → q + 1 ≤ nn ∧ (∀ g ∈ gs.take p, SmallG g.ds) ∧ (∀ d ∈ ds.take q, SmallD d) ∧ ls.length ≤ 500 ∧ ∀ l ∈ ls.take m, l.nd.kids.length ≤ 500) ∧ Hid (Below wq.heap.size wq wr)
set_option maxRecDepth 100000 in
set_option maxHeartbeats 12800000 in
theorem large_any (gs : List Lg) (G : Option Addr) (gc : Nat) (S : Nat → Prop) (w : World) (hG : grL.row w S G gs) (hl : gs.length ≤ 1000) :
    Calls Tryz.prog 20 #[.slice G gs.length gc] w (LargePost gs w) := by
  have HG := Lib.hid hG; clear hG
  go_enter Tryz.func20, Tryz.ntmps20
  go_wp2_with fail
  go_loopw [4, 3] (fun i n wr => OutRel w gs i n wr) (fun i _ _ => gs.length - (intOf i).toNat)
  case atStart => exact ⟨0, 0, Nat.zero_le _, rfl, rfl, by omega, Lib.hid (by simp), Lib.hid (Below.refl _ _)⟩
  case round =>
    obtain ⟨p, nn, hp, rfl, rfl, hn, HS, HB⟩ := hrel
    by_cases hp1 : p < gs.length
    · obtain ⟨wo, rfl⟩ : ∃ wo : World, wo = wr := ⟨_, rfl⟩
      have i1 : (p : Int) < (gs.length : Int) := by omega
      have i2 : (0 : Int) ≤ (p : Int) := by omega
      have HGR := Lib.hid (show ∀ wq, Below w.heap.size w wq → ∃ b o, G = some ⟨b, o, none⟩ ∧ S b ∧ b < wq.heap.size ∧ wq.cell? ⟨b, o + p, none⟩ = some (.slice gs[p].A gs[p].ds.length gs[p].c) from fun wq hb => grRow (HG.out.below hb) p hp1)
      have HIN := Lib.hid (HG.out.sub p hp1)
      have HTK := Lib.hid (show gs.take (p + 1) = gs.take p ++ [gs[p]] from List.take_succ_eq_append_getElem hp1)
      obtain ⟨gb, go, hgb, _, _, _⟩ := HGR.out _ HB.out
      subst hgb
      generalize gs[p] = g at *
      obtain ⟨A, c, ds⟩ := g
      simp only at HGR HIN
      have HGC := Lib.hid (show ∀ wq, Below w.heap.size w wq → wq.cell? ⟨gb, go + p, none⟩ = some (.slice A ds.length c) from fun wq hb => by
        obtain ⟨b, o, e, _, _, h⟩ := HGR.out wq hb
        cases e; exact h)
      clear HGR
      have hdl : ds.length ≤ 281474976710656 := HIN.out.1
      go_wp2_with fail
      go_loopw [5, 3] (fun i n wr => MidRel w gs p ds i n wr) (fun i _ _ => ds.length - (intOf i).toNat)
      case atStart => exact ⟨0, nn, Nat.zero_le _, rfl, rfl, hn, Lib.hid (fun h => ⟨Nat.zero_le _, HS.out h, by simp⟩), HB⟩
      case round =>
        clear HS HB hn
        obtain ⟨q, nn, hq, rfl, rfl, hn, HS, HB⟩ := hrel
        have x0 := HGC.out wr HB.out
        by_cases hgo : q < ds.length ∧ nn < 500
        · obtain ⟨hq1, hn1⟩ := hgo
          have i3 : (q : Int) < (ds.length : Int) := by omega
          have i4 : (0 : Int) ≤ (q : Int) := by omega
          have i5 : (nn : Int) < 500 := by omega
          obtain ⟨b, o, rfl, _, _, y0, y1, y2⟩ := dfRow (HIN.out.2.below HB.out) q hq1
          obtain ⟨wq, rfl⟩ : ∃ wq : World, wq = wr := ⟨_, rfl⟩
          have HSD := Lib.hid (dfSub HIN.out.2 q hq1)
          have HTD := Lib.hid (show ds.take (q + 1) = ds.take q ++ [ds[q]] from List.take_succ_eq_append_getElem hq1)
          have hnz := (HIN.out.2.sub q hq1).1
          generalize ds[q] = dd at *
          have z1 := cellLt x0
          have z2 := cellLt y0
          go_wp2_with fail
          have hw1 : IntKind.i64.wrap ((nn : Int) + 1) = (nn : Int) + 1 := IntWalk.i64_in _ (by omega)
          have hw2 : IntKind.i64.wrap ((nn : Int) + 1 + min 500 (dd.t.ls.length : Int)) = (nn : Int) + 1 + min 500 (dd.t.ls.length : Int) := IntWalk.i64_in _ (by omega)
          go_quiet (fail)
          clear hw1 hw2
          have HWN := Lib.hid (drewN_below' (bx1 wq (.cells #[.slice dd.t.A dd.t.ls.length dd.t.c, .int .i64 dd.t.root] 48)) nq)
          have HBX := Lib.hid (show ((wq.alloc (.cells #[.slice dd.t.A dd.t.ls.length dd.t.c, .int .i64 dd.t.root] 48)).drewN nq).heap[wq.heap.size]? = some (.cells #[.slice dd.t.A dd.t.ls.length dd.t.c, .int .i64 dd.t.root] 48 (0, 0)) from bx_new wq _)
          generalize (wq.alloc (.cells #[.slice dd.t.A dd.t.ls.length dd.t.c, .int .i64 dd.t.root] 48)).drewN nq = Wn at *
          have HBn := Lib.hid (show Below w.heap.size w Wn from Below.step HB.out HWN.out)
          have HSN := Lib.hid (show ndL.row Wn S dd.t.A dd.t.ls from HSD.out.2.below HBn.out)
          obtain ⟨n1, hn1'⟩ : ∃ n1 : Nat, (n1 : Int) = (nn : Int) + 1 + min 500 (dd.t.ls.length : Int) + min 500 ((dd.name.size : Int) / 20) := ⟨nn + 1 + min 500 dd.t.ls.length + min 500 (dd.name.size / 20), by omega⟩
          have hb1 : n1 ≤ 5000 := by omega
          rw [← hn1']
          have HFR := Lib.hid (show n1 < 500 → q + 1 ≤ n1 ∧ (∀ g ∈ gs.take p, SmallG g.ds) ∧ (∀ d ∈ ds.take q, SmallD d) ∧ dd.t.ls.length ≤ 500 from fun h => by
            have := HS.out hn1
            exact ⟨by omega, this.2.1, this.2.2, by omega⟩)
          clear hn1' HS
          go_wp2_with fail
          go_loopw [7, 3] (fun i n wr => InRel w Wn gs p ds q dd.t.ls i n wr) (fun i _ _ => dd.t.ls.length - (intOf i).toNat)
          case atStart => exact ⟨0, n1, Nat.zero_le _, rfl, rfl, hb1, Lib.hid (fun h => by have := HFR.out h; exact ⟨this.1, this.2.1, this.2.2.1, this.2.2.2, by simp⟩), Lib.hid (Below.refl _ _)⟩
          case round =>
            clear HFR hb1
            obtain ⟨m, n2, hm, rfl, rfl, hn2, HS2, HB2⟩ := hrel
            obtain ⟨r1, r2, _, _⟩ := blk2 (bx_kept HB2.out HBX.out)
            by_cases hgo2 : m < dd.t.ls.length ∧ n2 < 500
            · obtain ⟨hm1, hn3⟩ := hgo2
              have hll : dd.t.ls.length ≤ 281474976710656 := HSD.out.1
              have j1 : (m : Int) < (dd.t.ls.length : Int) := by omega
              have j2 : (0 : Int) ≤ (m : Int) := by omega
              have j3 : (n2 : Int) < 500 := by omega
              obtain ⟨nb, no, hnb, _, _, v0, v1, v2, v3, v4, v5, v6, v7, v8⟩ := ndRow (HSN.out.below HB2.out) m hm1
              have hts := (HSN.out.sub m hm1).1.2.1
              have hkl := (HSN.out.sub m hm1).1.2.2.1
              have HTN := Lib.hid (show dd.t.ls.take (m + 1) = dd.t.ls.take m ++ [dd.t.ls[m]] from List.take_succ_eq_append_getElem hm1)
              generalize dd.t.ls[m] = nd at *
              rw [hnb] at r1
              have hw1 : IntKind.i64.wrap ((n2 : Int) + min 500 (nd.nd.kids.length : Int)) = (n2 : Int) + min 500 (nd.nd.kids.length : Int) := IntWalk.i64_in _ (by omega)
              obtain ⟨n3, hn3'⟩ : ∃ n3 : Nat, (n3 : Int) = (n2 : Int) + min 500 (nd.nd.kids.length : Int) + min 500 ((nd.nd.text.size : Int) / 20) := ⟨n2 + min 500 nd.nd.kids.length + min 500 (nd.nd.text.size / 20), by omega⟩
              have hb3 : n3 ≤ 5000 := by omega
              have HFX := Lib.hid (show n3 < 500 → n2 < 500 ∧ n2 ≤ n3 ∧ nd.nd.kids.length ≤ 500 from fun h => by omega)
              have HN3 := Lib.hid hn3'
              clear hn3'
              as_aux_lemma =>
                go_wp2_with fail
                go_quiet (fail)
                clear hw1
                rw [← HN3.out]
                go_wp2_with fail
                refine ⟨⟨m + 1, n3, by omega, by go_num, rfl, hb3, Lib.hid (fun h => ?_), Lib.hid (HB2.out.trans (drewN_below' (Below.refl _ _) _))⟩, by simp only [intOf]; omega⟩
                have h3 := HFX.out h
                have h2 := HS2.out h3.1
                refine ⟨by omega, h2.2.1, h2.2.2.1, h2.2.2.2.1, fun l hl => ?_⟩
                rw [HTN.out] at hl
                rcases List.mem_append.1 hl with hl | hl
                · exact h2.2.2.2.2 l hl
                · simp only [List.mem_singleton] at hl; subst hl; exact h3.2.2
            · have HNX := Lib.hid (show n2 < 500 → q + 1 ≤ n2 ∧ (∀ g ∈ gs.take p, SmallG g.ds) ∧ ∀ d ∈ ds.take (q + 1), SmallD d from fun h => by
                have h2 := HS2.out h
                refine ⟨by omega, h2.2.1, fun d hd => ?_⟩
                rw [HTD.out] at hd
                rcases List.mem_append.1 hd with hd | hd
                · exact h2.2.2.1 d hd
                · simp only [List.mem_singleton] at hd; subst hd
                  have hmm : m = d.t.ls.length := by omega
                  exact ⟨h2.2.2.2.1, fun l hl => h2.2.2.2.2 l (by rw [hmm, List.take_length]; exact hl)⟩)
              by_cases hm1 : m < dd.t.ls.length
              · have j1 : (m : Int) < (dd.t.ls.length : Int) := by omega
                have j3 : ¬ (n2 : Int) < 500 := by omega
                as_aux_lemma =>
                  go_wp2_with fail
                  exact ⟨⟨q + 1, n2, by omega, by go_num, rfl, hn2, HNX, Lib.hid (Below.step HBn.out HB2.out)⟩, by simp only [intOf]; omega⟩
              · have j1 : ¬ (m : Int) < (dd.t.ls.length : Int) := by omega
                as_aux_lemma =>
                  go_wp2_with fail
                  exact ⟨⟨q + 1, n2, by omega, by go_num, rfl, hn2, HNX, Lib.hid (Below.step HBn.out HB2.out)⟩, by simp only [intOf]; omega⟩
        · have HNX := Lib.hid (show nn < 500 → ∀ g ∈ gs.take (p + 1), SmallG g.ds from fun h => by
            have h2 := HS.out h
            intro g hg
            rw [HTK.out] at hg
            rcases List.mem_append.1 hg with hg | hg
            · exact h2.2.1 g hg
            · simp only [List.mem_singleton] at hg; subst hg
              have hqq : q = ds.length := by omega
              exact ⟨by show ds.length ≤ 500; omega, fun d hd => h2.2.2 d (by rw [hqq, List.take_length]; exact hd)⟩)
          have z1 := cellLt x0
          by_cases hq1 : q < ds.length
          · have j1 : (q : Int) < (ds.length : Int) := by omega
            have j3 : ¬ (nn : Int) < 500 := by omega
            as_aux_lemma =>
              go_wp2_with fail
              exact ⟨⟨p + 1, nn, by omega, by go_num, rfl, hn, HNX, HB⟩, by simp only [intOf]; omega⟩
          · have j1 : ¬ (q : Int) < (ds.length : Int) := by omega
            as_aux_lemma =>
              go_wp2_with fail
              exact ⟨⟨p + 1, nn, by omega, by go_num, rfl, hn, HNX, HB⟩, by simp only [intOf]; omega⟩
    · obtain rfl : p = gs.length := by omega
      have HE := Lib.hid (show nn < 500 → ∀ g ∈ gs, SmallG g.ds from fun h g hg => HS.out h g (by rw [List.take_length]; exact hg))
      by_cases h5 : nn < 500
      · have j3 : ¬ (500 : Int) ≤ (nn : Int) := by omega
        go_wp2_with fail
        go_ret
        exact ⟨false, by first | rfl | (simp; omega), fun _ => HE.out h5, HB.out⟩
      · have j3 : (500 : Int) ≤ (nn : Int) := by omega
        go_wp2_with fail
        go_ret
        exact ⟨true, by first | rfl | (simp; omega), (fun h => by cases h), HB.out⟩
end Go.Proofs.YtmjkgnknfgoadaaGreatDoor
namespace Go.Proofs.YtmjkgnknfgoadaaGreatDoor
open Go.RowKit
set_option linter.unusedSimpArgs false
set_option linter.unusedVariables false
structure Spoilt (Q : Nat → Prop) (w w' : World) : Prop where
  os : w'.os = w.os
  tape : w'.tape = w.tape
  output : w'.output = w.output
  size : w.heap.size ≤ w'.heap.size
  block : ∀ x, x < w.heap.size → ¬ Q x → w'.heap[x]? = w.heap[x]?
theorem Spoilt.below {Q : Nat → Prop} {w w' w2 : World} (h : Spoilt Q w w') (hb : Below w'.heap.size w' w2) : Spoilt Q w w2 :=
  ⟨hb.os.trans h.os, hb.tape.trans h.tape, hb.output.trans h.output, Nat.le_trans h.size hb.size, fun x hx hq => (hb.block x (by have := h.size; omega)).trans (h.block x hx hq)⟩
theorem Spoilt.set {Q : Nat → Prop} {w w' : World} (h : Spoilt Q w w') {b o : Nat} (u : Value) (hq : Q b) : Spoilt Q w (w'.setCell ⟨b, o, none⟩ u) := by
  have hb : Below b w' (w'.setCell ⟨b, o, none⟩ u) := (Below.refl b w').setCell (p := ⟨b, o, none⟩) (Nat.le_refl _) u
  exact ⟨hb.os.trans h.os, hb.tape.trans h.tape, hb.output.trans h.output, Nat.le_trans h.size hb.size, fun x hx hn => (Below.heap_setCell _ _ _ _ (fun e => hn (by have e : x = b := e; rw [e]; exact hq))).trans (h.block x hx hn)⟩
def IntBlk (w : World) (Q : Nat → Prop) (A : Option Addr) (n : Nat) : Prop := n = 0 ∨ ∃ (g : Nat) (cur : Array Value), A = some ⟨g, 0, none⟩ ∧ Q g ∧ w.heap[g]? = some (.cells cur 3 (0, 0)) ∧ n ≤ cur.size
theorem IntBlk.set {w : World} {Q : Nat → Prop} {A : Option Addr} {n b o : Nat} {u : Value} (h : IntBlk w Q A n) : IntBlk (w.setCell ⟨b, o, none⟩ u) Q A n := by
  rcases h with h | ⟨g, cur, hA, hq, hg, hn⟩
  · exact .inl h
  · by_cases e : g = b
    · subst e
      exact .inr ⟨g, cur.setIfInBounds o u, hA, hq, heap_setCell_same w g o cur _ u hg, by simpa using hn⟩
    · exact .inr ⟨g, cur, hA, hq, (Below.heap_setCell _ _ _ _ e).trans hg, hn⟩
theorem IntBlk.below {w w' : World} {Q : Nat → Prop} {A : Option Addr} {n : Nat} (h : IntBlk w Q A n) (hb : Below w.heap.size w w') : IntBlk w' Q A n := by
  rcases h with h | ⟨g, cur, hA, hq, hg, hn⟩
  · exact .inl h
  · exact .inr ⟨g, cur, hA, hq, bx_kept hb hg, hn⟩
theorem IntBlk.of_own {w : World} {Q : Nat → Prop} {A : Option Addr} {n c : Nat} {xs : List Value} (h : OwnS w Q 3 1 A n c xs) : IntBlk w Q A n := by
  rcases h.1.2 with ⟨hv, h0⟩ | ⟨g, cap, cur, hv, hb, hh, hn, hc, hs, ht⟩
  · exact .inl h0
  · cases hv
    exact .inr ⟨g, cur, rfl, h.2 g rfl, hh, by omega⟩
theorem IntBlk.cell {w : World} {Q : Nat → Prop} {A : Option Addr} {n : Nat} (h : IntBlk w Q A n) {j : Nat} (hj : j < n) : ∃ g u, A = some ⟨g, 0, none⟩ ∧ Q g ∧ w.cell? ⟨g, j, none⟩ = some u ∧ w.frozen? ⟨g, j, none⟩ = false := by
  rcases h with h | ⟨g, cur, hA, hq, hg, hn⟩
  · omega
  · refine ⟨g, cur[j]'(by omega), hA, hq, ?_, ?_⟩
    · simp [World.cell?, hg, show j < cur.size by omega]
    · simp [World.frozen?, hg]
def NodBlk (w : World) (Q : Nat → Prop) (A : Option Addr) (ls : List Ln) : Prop := ls = [] ∨ ∃ (g : Nat) (cur : Array Value), A = some ⟨g, 0, none⟩ ∧ Q g ∧ w.heap[g]? = some (.cells cur 71 (0, 0)) ∧ ls.length * 9 ≤ cur.size ∧ ∀ k (h : k < ls.length), cur[k * 9 + 8]? = some (.slice ls[k].A ls[k].nd.kids.length ls[k].c)
theorem NodBlk.below {w w' : World} {Q : Nat → Prop} {A : Option Addr} {ls : List Ln} (h : NodBlk w Q A ls) (hb : Below w.heap.size w w') : NodBlk w' Q A ls := by
  rcases h with h | ⟨g, cur, hA, hq, hg, hn⟩
  · exact .inl h
  · exact .inr ⟨g, cur, hA, hq, bx_kept hb hg, hn⟩
theorem NodBlk.of_own {w : World} {Q : Nat → Prop} {t : Lt} (h : TreeOwn w Q t) : NodBlk w Q t.A t.ls := by
  rcases h.row.1.2 with ⟨hv, h0⟩ | ⟨g, cap, cur, hv, hb, hh, hn, hc, hs, ht⟩
  · exact .inl (List.eq_nil_of_length_eq_zero h0)
  · have hA : t.A = some ⟨g, 0, none⟩ := by simp only [Value.slice.injEq] at hv; exact hv.1
    refine .inr ⟨g, cur, hA, h.row.2 g (by rw [hA]; rfl), hh, by rw [hs]; exact Nat.mul_le_mul_right _ hn, fun k hk => ?_⟩
    have e := ndL.all_at t.ls k 8 hk (by decide)
    rw [← ht] at e
    have hk8 : k * 9 + 8 < t.ls.length * 9 := by omega
    rw [show k * ndL.size + 8 = k * 9 + 8 from rfl, List.getElem?_take_of_lt hk8, Array.getElem?_toList] at e
    exact e
theorem NodBlk.set_int {w : World} {Q : Nat → Prop} {A : Option Addr} {ls : List Ln} {b o : Nat} {u : Value} {cur : Array Value} (h : NodBlk w Q A ls) (hb : w.heap[b]? = some (.cells cur 3 (0, 0))) : NodBlk (w.setCell ⟨b, o, none⟩ u) Q A ls := by
  rcases h with h | ⟨g, cg, hA, hq, hg, hn⟩
  · exact .inl h
  · have e : g ≠ b := fun e => by rw [e, hb] at hg; cases hg
    exact .inr ⟨g, cg, hA, hq, (Below.heap_setCell _ _ _ _ e).trans hg, hn⟩
def SpoilRel (w : World) (Q : Nat → Prop) (H : Nat) (box : Obj) (A : Option Addr) (ls : List Ln) (wr : World) : Prop :=
  Spoilt (fun x => Q x ∧ x < w.heap.size) w wr ∧ wr.heap[H]? = some box ∧ NodBlk wr (fun x => Q x ∧ x < w.heap.size) A ls ∧ ∀ l ∈ ls, IntBlk wr (fun x => Q x ∧ x < w.heap.size) l.A l.nd.kids.length
set_option maxRecDepth 100000 in
set_option maxHeartbeats 3200000 in
theorem spoil_any (d : Ld) (Q : Nat → Prop) (w : World) (ht : TreeOwn w Q d.t) (hm : DMod d) :
    Calls Tryz.prog 29 #[.agg #[.string d.name, .slice d.t.A d.t.ls.length d.t.c, .int .i64 d.t.root]] w fun e w' => e = .returned (.tuple #[]) ∧ Spoilt Q w w' := by
  obtain ⟨nm, ⟨A, c, ls, r⟩⟩ := d
  have hm1 : ls.length ≤ 4294967296 := hm.1
  have HM := Lib.hid hm.2
  have ht2 : TreeOwn w (fun x => Q x ∧ x < w.heap.size) ⟨A, c, ls, r⟩ := ht.mono (fun x h1 h2 => ⟨h2, h1⟩)
  have HN := Lib.hid (NodBlk.of_own ht2)
  have HI := Lib.hid (show ∀ l ∈ ls, IntBlk w (fun x => Q x ∧ x < w.heap.size) l.A l.nd.kids.length from fun l hl => IntBlk.of_own (ht2.kids l hl).2)
  clear ht ht2 hm
  simp only
  go_enter Tryz.func29, Tryz.ntmps29
  go_wp2_with fail
  go_loopw [2] (fun i wr => ∃ k : Nat, k ≤ ls.length ∧ i = .int .i64 k ∧ Hid (SpoilRel w Q w.heap.size (.cells #[.string nm, .slice A ls.length c, .int .i64 r] 50 (0, 0)) A ls wr)) (fun i _ => ls.length - (intOf i).toNat)
  case atStart =>
    exact ⟨0, Nat.zero_le _, rfl, Lib.hid ⟨Spoilt.below ⟨rfl, rfl, rfl, Nat.le_refl _, fun _ _ _ => rfl⟩ (bx1 w _), bx_new w _, HN.out.below (bx1 w _), fun l hl => (HI.out l hl).below (bx1 w _)⟩⟩
  case round =>
    obtain ⟨k, hk, rfl, HR⟩ := hrel
    obtain ⟨p0, p1, p2⟩ := blk3' HR.out.2.1
    by_cases hlt : k < ls.length
    · obtain ⟨wo, rfl⟩ : ∃ wo : World, wo = wr := ⟨_, rfl⟩
      have i1 : (k : Int) < (ls.length : Int) := by omega
      have i2 : (0 : Int) ≤ (k : Int) := by omega
      have HKL := Lib.hid (HM.out ls[k] (List.getElem_mem hlt))
      have hne : ls ≠ [] := fun e => by subst e; simp at hlt
      go_wp2_with fail
      go_loopw [3] (fun j wr => ∃ q : Nat, q ≤ ls[k].nd.kids.length ∧ j = .int .i64 q ∧ Hid (SpoilRel w Q w.heap.size (.cells #[.string nm, .slice A ls.length c, .int .i64 r] 50 (0, 0)) A ls wr)) (fun j _ => ls[k].nd.kids.length - (intOf j).toNat)
      case atStart => exact ⟨0, Nat.zero_le _, rfl, HR⟩
      case round =>
        clear HR p0 p1 p2
        obtain ⟨q, hq, rfl, HR⟩ := hrel
        obtain ⟨p0, p1, p2⟩ := blk3' HR.out.2.1
        obtain ⟨g, cur, rfl, hqg, hg, hsz, hcs⟩ := HR.out.2.2.1.resolve_left hne
        have x8 : wr.cell? ⟨g, k * 9 + 8, none⟩ = some (.slice ls[k].A ls[k].nd.kids.length ls[k].c) := by
          have h := hcs k hlt
          simp only [World.cell?, hg]
          exact h
        have hb1 := HKL.out
        by_cases hql : q < ls[k].nd.kids.length
        · have j1 : (q : Int) < (ls[k].nd.kids.length : Int) := by omega
          have j2 : (0 : Int) ≤ (q : Int) := by omega
          have HIK := Lib.hid (HR.out.2.2.2 ls[k] (List.getElem_mem hlt))
          rcases HIK.out with h0 | ⟨gi, ci, hAi, hqi, hgi, hni⟩
          · omega
          · obtain ⟨u, c1⟩ : ∃ u, wr.cell? ⟨gi, q, none⟩ = some u := ⟨ci[q]'(by omega), by simp [World.cell?, hgi, show q < ci.size by omega]⟩
            have c2 : wr.frozen? ⟨gi, q, none⟩ = false := by simp [World.frozen?, hgi]
            rw [hAi] at x8
            have HGI := Lib.hid hgi; have HQI := Lib.hid hqi
            clear hgi hni hg hcs hsz
            go_wp2_with fail
            exact ⟨⟨q + 1, by omega, by go_num, Lib.hid ⟨HR.out.1.set _ HQI.out, (Below.heap_setCell _ _ _ _ (by have := HQI.out.2; show w.heap.size ≠ gi; omega)).trans HR.out.2.1, HR.out.2.2.1.set_int HGI.out, fun l hl => (HR.out.2.2.2 l hl).set⟩⟩, by simp only [intOf]; omega⟩
        · obtain rfl : q = ls[k].nd.kids.length := by omega
          have hk9 : k * 9 < cur.size := by omega
          obtain ⟨u, c1⟩ : ∃ u, wr.cell? ⟨g, k * 9, none⟩ = some u := ⟨cur[k * 9]'hk9, by simp [World.cell?, hg, hk9]⟩
          have c2 : wr.frozen? ⟨g, k * 9, none⟩ = false := by simp [World.frozen?, hg]
          have HNS := Lib.hid (show ∀ u, NodBlk (wr.setCell ⟨g, k * 9, none⟩ u) (fun x => Q x ∧ x < w.heap.size) (some ⟨g, 0, none⟩) ls from fun u => .inr ⟨g, cur.setIfInBounds (k * 9) u, rfl, hqg, heap_setCell_same wr g (k * 9) cur _ u hg, by simpa using hsz, fun j hj => by
            rw [Array.getElem?_setIfInBounds_ne (by omega)]; exact hcs j hj⟩)
          have HQG := Lib.hid hqg
          clear hg hcs hsz hk9
          go_wp2_with fail
          exact ⟨⟨k + 1, by omega, by go_num, Lib.hid ⟨HR.out.1.set _ HQG.out, (Below.heap_setCell _ _ _ _ (by have := HQG.out.2; show w.heap.size ≠ g; omega)).trans HR.out.2.1, HNS.out _, fun l hl => (HR.out.2.2.2 l hl).set⟩⟩, by simp only [intOf]; omega⟩
    · go_wp2_with fail
      have h := HR.out.1
      exact bodyPost_end (v := .tuple #[]) (by simp [results, Tryz.results29, go_sem]) rfl ⟨rfl, ⟨h.os, h.tape, h.output, h.size, fun x hx hn => h.block x hx (fun hq => hn hq.1)⟩⟩
end Go.Proofs.YtmjkgnknfgoadaaGreatDoor
