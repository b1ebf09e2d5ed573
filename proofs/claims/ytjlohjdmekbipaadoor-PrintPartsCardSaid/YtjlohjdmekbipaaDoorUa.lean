/- The walk of PrintParts. -/
import Derived.Test.YtjlohjdmekbipaaDoorRe
import Derived.Test.YtjlohjdmekbipaaDoorRl
import Derived.Test.YtjlohjdmekbipaaDoorRx
import Derived.Test.YtjlohjdmekbipaaDoorRy
import Derived.Test.YtjlohjdmekbipaaDoorRz
import Derived.Deep.RegionHeld3
import Derived.Deep.MidRow
import Derived.Deep.CutBlock
import Derived.Deep.DeepCutAuto
import Derived.Deep.Cut
import Derived.Deep.CutRange
namespace Go.Proofs.YtjlohjdmekbipaaDoor
open Go.RowKit
set_option linter.unusedSimpArgs false
set_option linter.unusedVariables false

/-- v points to a node's box, from block B on; where U, the box holds n. -/
def BoxN (w : World) (B : Nat) (v : Value) (U : Prop) (src : Value) : Prop :=
  ∃ (p : Nat) (x0 x1 x2 x3 x4 x5 x6 x7 x8 : Value), v = .pointer (some ⟨p, 0, none⟩) ∧ B ≤ p ∧ w.heap[p]? = some (.cells #[x0, x1, x2, x3, x4, x5, x6, x7, x8] 51 (0, 0)) ∧ (U → src = .agg #[x0, x1, x2, x3, x4, x5, x6, x7, x8])
theorem BoxN.below {w w' : World} {B : Nat} {v : Value} {U U' : Prop} {src : Value} (h : BoxN w B v U src) (hU : U' → U) (hb : Below w.heap.size w w') : BoxN w' B v U' src := by
  obtain ⟨p, x0, x1, x2, x3, x4, x5, x6, x7, x8, he, hB, hh, hs⟩ := h
  exact ⟨p, x0, x1, x2, x3, x4, x5, x6, x7, x8, he, hB, bx_kept hb hh, fun u => hs (hU u)⟩
theorem BoxN.new {w : World} {B : Nat} (hB : B ≤ w.heap.size) {U : Prop} (hU : ¬ U) (src x0 x1 x2 x3 x4 x5 x6 x7 x8 : Value) : BoxN (w.alloc (.cells #[x0, x1, x2, x3, x4, x5, x6, x7, x8] 51)) B (.pointer (some ⟨w.heap.size, 0, none⟩)) U src :=
  ⟨w.heap.size, x0, x1, x2, x3, x4, x5, x6, x7, x8, rfl, hB, heap_alloc_new _ _, fun u => absurd u hU⟩
/-- v is the row of the kids' trees; it does not lie in the box v5. -/
def KidsV (w : World) (v5 : Value) (al : Prop) (ks : List Tr) (v : Value) : Prop :=
  ∃ (V : Option Addr) (vc : Nat) (l : List Lt) (S : Nat → Prop), v = .slice V l.length vc ∧ l.map Lt.tr = ks ∧ ttL.row w S V l ∧ (al → ∀ p, v5 = .pointer (some ⟨p, 0, none⟩) → ¬ S p)
theorem KidsV.below {w w' : World} {v5 : Value} {al al' : Prop} {ks : List Tr} {v : Value} (h : KidsV w v5 al ks v) (hU : al' → al) (hb : Below w.heap.size w w') : KidsV w' v5 al' ks v := by
  obtain ⟨V, vc, l, S, he, hk, hr, hn⟩ := h
  exact ⟨V, vc, l, S, he, hk, hr.below hb, fun a => hn (hU a)⟩
theorem KidsV.alloc {w : World} {v5 : Value} {al al' : Prop} {ks : List Tr} {v : Value} (o : Obj) (h : KidsV w v5 al ks v) : KidsV (w.alloc o) (.pointer (some ⟨w.heap.size, 0, none⟩)) al' ks v := by
  obtain ⟨V, vc, l, S, he, hk, hr, hn⟩ := h
  have h1 : ttL.row w (· < w.heap.size) V l := hr.mono (fun x hx _ => hx)
  refine ⟨V, vc, l, _, he, hk, h1.below (bx1 w o), fun _ p hp hlt => ?_⟩
  injection hp with e; injection e with e; injection e with e
  have hlt : p < w.heap.size := hlt
  omega
theorem KidsV.but {w w' : World} {v5 : Value} {p : Nat} {al al' : Prop} {ks : List Tr} {v : Value} (h : KidsV w v5 al ks v) (ha : al) (he : v5 = .pointer (some ⟨p, 0, none⟩)) (hb : ∀ k, k ≠ p → w'.heap[k]? = w.heap[k]?) : KidsV w' v5 al' ks v := by
  obtain ⟨V, vc, l, S, hv, hk, hr, hn⟩ := h
  exact ⟨V, vc, l, S, hv, hk, hr.agree (fun x hx _ => hb x (fun e => hn ha p he (e ▸ hx))), fun _ => hn ha⟩
theorem set9h {W : World} {B p : Nat} {x0 x1 x2 x3 x4 x5 x6 x7 x8 : Value} (y0 y1 y2 y3 y4 y5 y6 y7 y8 : Value) (hB : B ≤ p) (hh : W.heap[p]? = some (.cells #[x0, x1, x2, x3, x4, x5, x6, x7, x8] 51 (0, 0))) :
    ((((((((((W.setCell ⟨p, 0, none⟩ y0).setCell ⟨p, 1, none⟩ y1).setCell ⟨p, 2, none⟩ y2).setCell ⟨p, 3, none⟩ y3).setCell ⟨p, 4, none⟩ y4).setCell ⟨p, 5, none⟩ y5).setCell ⟨p, 6, none⟩ y6).setCell ⟨p, 7, none⟩ y7).setCell ⟨p, 8, none⟩ y8).heap[p]? = some (.cells #[y0, y1, y2, y3, y4, y5, y6, y7, y8] 51 (0, 0))) ∧
    (∀ k, k ≠ p → (((((((((W.setCell ⟨p, 0, none⟩ y0).setCell ⟨p, 1, none⟩ y1).setCell ⟨p, 2, none⟩ y2).setCell ⟨p, 3, none⟩ y3).setCell ⟨p, 4, none⟩ y4).setCell ⟨p, 5, none⟩ y5).setCell ⟨p, 6, none⟩ y6).setCell ⟨p, 7, none⟩ y7).setCell ⟨p, 8, none⟩ y8).heap[k]? = W.heap[k]?) ∧
    Below B W (((((((((W.setCell ⟨p, 0, none⟩ y0).setCell ⟨p, 1, none⟩ y1).setCell ⟨p, 2, none⟩ y2).setCell ⟨p, 3, none⟩ y3).setCell ⟨p, 4, none⟩ y4).setCell ⟨p, 5, none⟩ y5).setCell ⟨p, 6, none⟩ y6).setCell ⟨p, 7, none⟩ y7).setCell ⟨p, 8, none⟩ y8) := by
  refine ⟨?_, fun k hk => ?_, ?_⟩
  · have h0 : (W.setCell ⟨p, 0, none⟩ y0).heap[p]? = some (.cells #[y0, x1, x2, x3, x4, x5, x6, x7, x8] 51 (0, 0)) := heap_setCell_same W p 0 _ 51 y0 hh
    have h1 : ((W.setCell ⟨p, 0, none⟩ y0).setCell ⟨p, 1, none⟩ y1).heap[p]? = some (.cells #[y0, y1, x2, x3, x4, x5, x6, x7, x8] 51 (0, 0)) := heap_setCell_same (W.setCell ⟨p, 0, none⟩ y0) p 1 _ 51 y1 h0
    have h2 : (((W.setCell ⟨p, 0, none⟩ y0).setCell ⟨p, 1, none⟩ y1).setCell ⟨p, 2, none⟩ y2).heap[p]? = some (.cells #[y0, y1, y2, x3, x4, x5, x6, x7, x8] 51 (0, 0)) := heap_setCell_same ((W.setCell ⟨p, 0, none⟩ y0).setCell ⟨p, 1, none⟩ y1) p 2 _ 51 y2 h1
    have h3 : ((((W.setCell ⟨p, 0, none⟩ y0).setCell ⟨p, 1, none⟩ y1).setCell ⟨p, 2, none⟩ y2).setCell ⟨p, 3, none⟩ y3).heap[p]? = some (.cells #[y0, y1, y2, y3, x4, x5, x6, x7, x8] 51 (0, 0)) := heap_setCell_same (((W.setCell ⟨p, 0, none⟩ y0).setCell ⟨p, 1, none⟩ y1).setCell ⟨p, 2, none⟩ y2) p 3 _ 51 y3 h2
    have h4 : (((((W.setCell ⟨p, 0, none⟩ y0).setCell ⟨p, 1, none⟩ y1).setCell ⟨p, 2, none⟩ y2).setCell ⟨p, 3, none⟩ y3).setCell ⟨p, 4, none⟩ y4).heap[p]? = some (.cells #[y0, y1, y2, y3, y4, x5, x6, x7, x8] 51 (0, 0)) := heap_setCell_same ((((W.setCell ⟨p, 0, none⟩ y0).setCell ⟨p, 1, none⟩ y1).setCell ⟨p, 2, none⟩ y2).setCell ⟨p, 3, none⟩ y3) p 4 _ 51 y4 h3
    have h5 : ((((((W.setCell ⟨p, 0, none⟩ y0).setCell ⟨p, 1, none⟩ y1).setCell ⟨p, 2, none⟩ y2).setCell ⟨p, 3, none⟩ y3).setCell ⟨p, 4, none⟩ y4).setCell ⟨p, 5, none⟩ y5).heap[p]? = some (.cells #[y0, y1, y2, y3, y4, y5, x6, x7, x8] 51 (0, 0)) := heap_setCell_same (((((W.setCell ⟨p, 0, none⟩ y0).setCell ⟨p, 1, none⟩ y1).setCell ⟨p, 2, none⟩ y2).setCell ⟨p, 3, none⟩ y3).setCell ⟨p, 4, none⟩ y4) p 5 _ 51 y5 h4
    have h6 : (((((((W.setCell ⟨p, 0, none⟩ y0).setCell ⟨p, 1, none⟩ y1).setCell ⟨p, 2, none⟩ y2).setCell ⟨p, 3, none⟩ y3).setCell ⟨p, 4, none⟩ y4).setCell ⟨p, 5, none⟩ y5).setCell ⟨p, 6, none⟩ y6).heap[p]? = some (.cells #[y0, y1, y2, y3, y4, y5, y6, x7, x8] 51 (0, 0)) := heap_setCell_same ((((((W.setCell ⟨p, 0, none⟩ y0).setCell ⟨p, 1, none⟩ y1).setCell ⟨p, 2, none⟩ y2).setCell ⟨p, 3, none⟩ y3).setCell ⟨p, 4, none⟩ y4).setCell ⟨p, 5, none⟩ y5) p 6 _ 51 y6 h5
    have h7 : ((((((((W.setCell ⟨p, 0, none⟩ y0).setCell ⟨p, 1, none⟩ y1).setCell ⟨p, 2, none⟩ y2).setCell ⟨p, 3, none⟩ y3).setCell ⟨p, 4, none⟩ y4).setCell ⟨p, 5, none⟩ y5).setCell ⟨p, 6, none⟩ y6).setCell ⟨p, 7, none⟩ y7).heap[p]? = some (.cells #[y0, y1, y2, y3, y4, y5, y6, y7, x8] 51 (0, 0)) := heap_setCell_same (((((((W.setCell ⟨p, 0, none⟩ y0).setCell ⟨p, 1, none⟩ y1).setCell ⟨p, 2, none⟩ y2).setCell ⟨p, 3, none⟩ y3).setCell ⟨p, 4, none⟩ y4).setCell ⟨p, 5, none⟩ y5).setCell ⟨p, 6, none⟩ y6) p 7 _ 51 y7 h6
    have h8 : (((((((((W.setCell ⟨p, 0, none⟩ y0).setCell ⟨p, 1, none⟩ y1).setCell ⟨p, 2, none⟩ y2).setCell ⟨p, 3, none⟩ y3).setCell ⟨p, 4, none⟩ y4).setCell ⟨p, 5, none⟩ y5).setCell ⟨p, 6, none⟩ y6).setCell ⟨p, 7, none⟩ y7).setCell ⟨p, 8, none⟩ y8).heap[p]? = some (.cells #[y0, y1, y2, y3, y4, y5, y6, y7, y8] 51 (0, 0)) := heap_setCell_same ((((((((W.setCell ⟨p, 0, none⟩ y0).setCell ⟨p, 1, none⟩ y1).setCell ⟨p, 2, none⟩ y2).setCell ⟨p, 3, none⟩ y3).setCell ⟨p, 4, none⟩ y4).setCell ⟨p, 5, none⟩ y5).setCell ⟨p, 6, none⟩ y6).setCell ⟨p, 7, none⟩ y7) p 8 _ 51 y8 h7
    exact h8
  · exact (Below.heap_setCell _ _ _ _ hk).trans ((Below.heap_setCell _ _ _ _ hk).trans ((Below.heap_setCell _ _ _ _ hk).trans ((Below.heap_setCell _ _ _ _ hk).trans ((Below.heap_setCell _ _ _ _ hk).trans ((Below.heap_setCell _ _ _ _ hk).trans ((Below.heap_setCell _ _ _ _ hk).trans ((Below.heap_setCell _ _ _ _ hk).trans (Below.heap_setCell _ _ _ _ hk))))))))
  · have hb9 : ∀ (u : World) (k : Nat) (v : Value), Below B W u → Below B W (u.setCell ⟨p, k, none⟩ v) := fun u k v h => h.setCell (p := ⟨p, k, none⟩) hB v
    exact hb9 _ 8 _ (hb9 _ 7 _ (hb9 _ 6 _ (hb9 _ 5 _ (hb9 _ 4 _ (hb9 _ 3 _ (hb9 _ 2 _ (hb9 _ 1 _ (hb9 _ 0 _ (Below.refl _ _)))))))))
theorem set9c {W : World} {B p : Nat} {x0 x1 x2 x3 x4 x5 x6 x7 x8 : Value} (y0 y1 y2 y3 y4 y5 y6 y7 y8 : Value) (hB : B ≤ p) (hh : W.heap[p]? = some (.cells #[x0, x1, x2, x3, x4, x5, x6, x7, x8] 51 (0, 0))) :
    (W.setCells p 0 [y0, y1, y2, y3, y4, y5, y6, y7, y8]).heap[p]? = some (.cells #[y0, y1, y2, y3, y4, y5, y6, y7, y8] 51 (0, 0)) ∧ (∀ k, k ≠ p → (W.setCells p 0 [y0, y1, y2, y3, y4, y5, y6, y7, y8]).heap[k]? = W.heap[k]?) ∧ Below B W (W.setCells p 0 [y0, y1, y2, y3, y4, y5, y6, y7, y8]) :=
  set9h y0 y1 y2 y3 y4 y5 y6 y7 y8 hB hh
theorem there9 {W : World} {p : Nat} {x0 x1 x2 x3 x4 x5 x6 x7 x8 : Value} (hh : W.heap[p]? = some (.cells #[x0, x1, x2, x3, x4, x5, x6, x7, x8] 51 (0, 0))) : W.there p 0 9 := fun j hj => by
  obtain ⟨m0, m1, m2, m3, m4, m5, m6, m7, m8, f0, f1, f2, f3, f4, f5, f6, f7, f8⟩ := blk9 hh
  have hc : j = 0 ∨ j = 1 ∨ j = 2 ∨ j = 3 ∨ j = 4 ∨ j = 5 ∨ j = 6 ∨ j = 7 ∨ j = 8 := by omega
  rcases hc with rfl | rfl | rfl | rfl | rfl | rfl | rfl | rfl | rfl
  · exact ⟨by rw [Nat.zero_add, m0]; rfl, by rw [Nat.zero_add]; exact f0⟩
  · exact ⟨by rw [Nat.zero_add, m1]; rfl, by rw [Nat.zero_add]; exact f1⟩
  · exact ⟨by rw [Nat.zero_add, m2]; rfl, by rw [Nat.zero_add]; exact f2⟩
  · exact ⟨by rw [Nat.zero_add, m3]; rfl, by rw [Nat.zero_add]; exact f3⟩
  · exact ⟨by rw [Nat.zero_add, m4]; rfl, by rw [Nat.zero_add]; exact f4⟩
  · exact ⟨by rw [Nat.zero_add, m5]; rfl, by rw [Nat.zero_add]; exact f5⟩
  · exact ⟨by rw [Nat.zero_add, m6]; rfl, by rw [Nat.zero_add]; exact f6⟩
  · exact ⟨by rw [Nat.zero_add, m7]; rfl, by rw [Nat.zero_add]; exact f7⟩
  · exact ⟨by rw [Nat.zero_add, m8]; rfl, by rw [Nat.zero_add]; exact f8⟩
def PartInv (TV NV : Value) (KS : List Tr) (B : Nat) (V : World) (A0 : Act) (listed : Array Bool) (a : Act) (w' : World) : Prop :=
  listed.size = 7 ∧ Below B V w' ∧ B ≤ w'.heap.size ∧ ∃ v41 v42 v43 v44 v5 v6 : Value,
    a = ((((((A0.put (some 41) v41).put (some 42) v42).put (some 43) v43).put (some 44) v44).put (some 5) v5).put (some 6) v6) ∧
    (listed.getD 0 false = true → v41 = TV) ∧
    (listed.getD 1 false = true → v42 = NV) ∧
    (listed.getD 2 false = true → v43 = TV) ∧
    (listed.getD 3 false = true → KidsV w' v5 (listed.getD 4 false = true) KS v44) ∧
    (listed.getD 4 false = true → BoxN w' B v5 (listed.getD 5 false = true) NV) ∧
    (listed.getD 6 false = true → v6 = v44) ∧
    (listed.getD 5 false = true → listed.getD 1 false = true ∧ listed.getD 3 false = true ∧ listed.getD 4 false = true) ∧
    (listed.getD 6 false = true → listed.getD 3 false = true ∧ listed.getD 4 false = true)

theorem within_at (s u : ByteArray) (z : Int) (k : Nat) (hz : z = (k : Int)) (w : World) (hk : k ≤ s.size) (hs : s.size ≤ 281474976710656) :
    Calls Tryd.prog 36 #[.string s, .string u, .int .i64 z] w fun e w' => w = w' ∧ e = .returned (.bool (withinB s.data.toList u.data.toList k)) := by
  subst hz; exact within_any s u k w hk hs
def ahead0 (n : Nd) : Nat := if n.kind = 7 ∨ n.kind = 8 then 1 else if n.kind = 9 then n.text.size + 3 else 0
def PartRel (V : World) (T : List Nat) (f : Nat → Nat) (v7 v8 : Value) (wr : World) : Prop :=
  ∃ j q : Nat, j ≤ T.length ∧ v8 = .int .i64 j ∧ v7 = .int .i64 q ∧ Hid (0 < T.length → q = f j) ∧ Hid (Below V.heap.size V wr)

set_option maxRecDepth 100000 in
set_option maxHeartbeats 12800000 in
theorem parts_walk (t : Lt) (S : Nat → Prop) (w : World) (hA : t.inn w S) (hp : PTabs w) :
    Calls Tryd.prog 8 #[.agg #[.slice t.A t.ls.length t.c, .int .i64 t.root]] w fun e w' => e = .returned (.bool true) ∧ Below w.heap.size w w' := by
  have HA := Lib.hid hA; have HP := Lib.hid hp
  clear hA hp
  have HB0 := Lib.hid (bx1 w (.cells #[.slice t.A t.ls.length t.c, .int .i64 t.root] 24))
  have HK0 := Lib.hid (bx_new w (.cells #[.slice t.A t.ls.length t.c, .int .i64 t.root] 24))
  go_enter Tryd.func8, Tryd.ntmps8
  go_wp2_with fail
  refine (works_any _ (HP.out.below HB0.out)).mono ?_
  rintro e w1 ⟨rfl, hb⟩
  have HK1 := Lib.hid (bx_kept hb HK0.out); have HB1 := Lib.hid (Below.step HB0.out hb)
  clear hb HB0 HK0
  obtain ⟨p1, p2, _, _⟩ := blk2 HK1.out
  go_wp2_with fail
  have HRW := Lib.hid (show ttL.row (w1.alloc (.cells #[.slice t.A t.ls.length t.c, .int .i64 t.root] 24)) (fun _ => True) (some ⟨w1.heap.size, 0, none⟩) [t] from by
    refine ⟨⟨row_blk (cs := [.slice t.A t.ls.length t.c, .int .i64 t.root]) (bx_new w1 _), fun _ _ _ => trivial⟩, fun x hx => ?_⟩
    obtain rfl := List.mem_singleton.1 hx
    exact ((HA.out.below HB1.out).below (bx1 w1 _)).mono (fun _ _ _ => trivial))
  refine (long_any [t] (some ⟨w1.heap.size, 0, none⟩) 1 (fun _ => True) _ HRW.out (by simp)).mono ?_
  rintro e w2 ⟨r, rfl, hr, hb⟩
  have HB2 := Lib.hid (Below.step HB1.out (Below.step (bx1 w1 _) hb))
  have HK2 := Lib.hid (bx_kept hb (bx_old HK1.out))
  clear hb HRW p1 p2 HK1 HB1
  cases r
  · have HS := Lib.hid (hr rfl t (by simp))
    clear hr
    obtain ⟨p1, p2, _, _⟩ := blk2 HK2.out
    go_wp2_with fail
    refine (ptree_t t S w2 (HA.out.below HB2.out) (by have := HS.out.1; omega) (HP.out.below HB2.out)).mono ?_
    rintro e w3 ⟨rfl, hb⟩
    have HB3 := Lib.hid (Below.step HB2.out hb); have HK3 := Lib.hid (bx_kept hb HK2.out)
    clear hb HB2 HK2 p1 p2
    obtain ⟨p1, p2, _, _⟩ := blk2 HK3.out
    have HRI := Lib.hid (right_any t.A t.c t.ls t.root S w3 (HA.out.below HB3.out).2 HA.out.1 (HP.out.below HB3.out).cn)
    have HRT := Lib.hid (show rightT ⟨t.ls.map Ln.nd, t.root⟩ = rightT t.tr from rfl)
    rw [HRT.out] at HRI
    clear HRT
    cases hra : rightT t.tr
    · rw [hra] at HRI
      rw [str_nil _ (treeB_no hra)]
      clear hra
      go_wp2_with fail
      go_loop [4] (fun v4 => v4 = .int .i64 0) (fun _ => 0)
      case atStart => rfl
      case round =>
        obtain rfl := hrel
        go_wp2_with (go_at_call 32; refine HRI.out.mono ?_; rintro e w4 ⟨rfl, hb4⟩; have HB4 := Lib.hid (Below.step HB3.out hb4); clear hb4)
        go_ret
        exact ⟨rfl, HB4.out⟩
    · clear HRI
      have hrp := (rightT_iff _).1 hra
      obtain ⟨b1, b2⟩ := bytes_ne ⟨(treeB t.tr).toArray⟩ (by rw [size_mk]; exact List.length_pos_iff.2 (treeB_ne hra))
      have HLE := Lib.hid (show (⟨(treeB t.tr).toArray⟩ : ByteArray).size ≤ 7200000 from by
        have h1 := treeB_len t.tr
        have h2 : t.tr.nodes.length = t.ls.length := by simp [Lt.tr]
        have := HS.out.1
        rw [size_mk]; omega)
      have HDT := Lib.hid (show (⟨(treeB t.tr).toArray⟩ : ByteArray).data.toList = textN t.tr.nodes t.root.toNat from by
        show treeB t.tr = _
        unfold treeB; rw [if_pos hra]; rfl)
      have HVI := Lib.hid (show ∀ i (h : i < (⟨(treeB t.tr).toArray⟩ : ByteArray).size), 32 ≤ (⟨(treeB t.tr).toArray⟩ : ByteArray)[i].toNat ∧ (⟨(treeB t.tr).toArray⟩ : ByteArray)[i].toNat ≤ 126 from fun i h => vis_treeB t.tr _ (by
        have h2 : i < (treeB t.tr).length := h
        show (treeB t.tr)[i] ∈ _
        exact List.getElem_mem h2))
      generalize (⟨(treeB t.tr).toArray⟩ : ByteArray) = s at *
      have hsl : s.size ≤ 7200000 := HLE.out
      go_wp2_with fail
      go_loop [4] (fun v4 => ∃ i : Nat, i ≤ s.size ∧ v4 = .int .i64 i) (fun v4 => s.size - (intOf v4).toNat)
      case atStart => exact ⟨0, Nat.zero_le _, rfl⟩
      case round =>
        obtain ⟨i, hi, rfl⟩ := hrel
        by_cases hil : i < s.size
        · have i1 : (i : Int) < (s.size : Int) := by omega
          have i2 : (0 : Int) ≤ (i : Int) := by omega
          have hv := HVI.out i hil
          have c1 : ¬ (s[i].toNat : Int) < 32 := by omega
          have c2 : ¬ 126 < (s[i].toNat : Int) := by omega
          as_aux_lemma =>
            go_wp2_with fail
            exact ⟨⟨i + 1, hil, by go_num⟩, by simp [intOf]; omega⟩
        · obtain rfl : i = s.size := by omega
          clear hil hi HVI
          have HRP := Lib.hid hrp
          obtain ⟨A, c, ls, root⟩ := t
          obtain ⟨rn, rfl⟩ : ∃ rn : Nat, root = (rn : Int) := ⟨root.toNat, by have h0 := hrp.1.1; simp only [Lt.tr] at h0; omega⟩
          have hrn : rn < ls.length := by have h0 := hrp.1.2; simp only [Lt.tr, List.length_map] at h0; omega
          clear hrp hra
          simp only [Lt.tr, Int.toNat_natCast] at HDT HRP
          simp only at HK3 p1 p2 HA HS
          have HSB := Lib.hid (show ∀ w', Below w3.heap.size w3 w' → w'.cell? ⟨w.heap.size, 0, none⟩ = some (.slice A ls.length c) ∧ w'.cell? ⟨w.heap.size, 1, none⟩ = some (.int .i64 rn) from fun w' h => by
            obtain ⟨a1, a2, _⟩ := blk2 (bx_kept h HK3.out)
            exact ⟨a1, a2⟩)
          have HRO := Lib.hid (show ∀ w', Below w3.heap.size w3 w' → Calls Tryd.prog 34 #[.agg #[.slice A ls.length c, .int .i64 rn]] w' fun e w'' => e = .returned (ndV ls[rn].nd (.slice none 0 0)) ∧ Below w'.heap.size w' w'' from fun w' h => root_any A c ls rn S w' (HA.out.below (Below.step HB3.out h)).2 (by have := HS.out.1; simp only at this; omega) (HP.out.below (Below.step HB3.out h)).cn HRP.out hrn)
          have HKD := Lib.hid (show ∀ w', Below w3.heap.size w3 w' → Calls Tryd.prog 35 #[.agg #[.slice A ls.length c, .int .i64 rn]] w' (KidsPost ((kidsAt (ls.map Ln.nd) rn).map (takenT ⟨ls.map Ln.nd, (rn : Int)⟩)) w') from fun w' h => kids_any A c ls rn S w' (HA.out.below (Below.step HB3.out h)).2 (by have := HS.out.1; simp only at this; omega) (HP.out.below (Below.step HB3.out h)).cn HRP.out)
          have HND := Lib.hid (show ls[rn].nd = ndAt (ls.map Ln.nd) rn from by simp [ndAt, hrn])
          rw [HND.out] at HRO
          clear HND
          obtain ⟨n, hnn⟩ : ∃ n, n = ndAt (ls.map Ln.nd) rn := ⟨_, rfl⟩
          rw [← hnn] at HRO
          have HNN := Lib.hid hnn
          clear hnn
          have HKT := Lib.hid (show ∀ k ∈ kidsAt (ls.map Ln.nd) rn, treeB (takenT ⟨ls.map Ln.nd, (rn : Int)⟩ k) = textN (ls.map Ln.nd) k ∧ (takenT ⟨ls.map Ln.nd, (rn : Int)⟩ k).nodes.length ≤ 3000 from fun k hk => by
            have h1 := rightP_ahead HRP.out rn k hk
            have h2 : k < (ls.map Ln.nd).length := by rw [List.length_map]; omega
            refine ⟨treeB_taken HRP.out h2, ?_⟩
            have h3 := post_length HRP.out k h2
            have h4 := HS.out.1
            simp only [takenT, taken_length]
            simp only [List.length_map] at h3 h4
            omega)
          have HFI := Lib.hid (rightP_fine HRP.out)
          go_wp2_with fail
          go_cut [5, 6] (fun v5 v6 wx => ∃ (p : Nat) (V : Option Addr) (vc : Nat) (l : List Lt) (R : Nat → Prop), v5 = .pointer (some ⟨p, 0, none⟩) ∧ v6 = .slice V l.length vc ∧ Hid (wx.heap[p]? = some (.cells #[.int .u8 n.kind, .int .u64 n.s0, .int .u64 n.s1, .int .u64 n.s2, .int .u64 n.s3, .string n.text, .int .i64 n.mn, .int .i64 n.mx, .slice none 0 0] 51 (0, 0))) ∧ Hid (l.map Lt.tr = (kidsAt (ls.map Ln.nd) rn).map (takenT ⟨ls.map Ln.nd, (rn : Int)⟩)) ∧ Hid (ttL.row wx R V l) ∧ Hid (Below w3.heap.size w3 wx))
          case first =>
            refine wp_region_inv0 (PartInv (.agg #[.slice A ls.length c, .int .i64 rn]) (ndV n (.slice none 0 0)) ((kidsAt (ls.map Ln.nd) rn).map (takenT ⟨ls.map Ln.nd, (rn : Int)⟩)) w3.heap.size w3) (by kernel_rfl) ?_ ?_ ?_
            · exact ⟨rfl, (Below.refl _ _).drew, Nat.le_refl _, _, _, _, _, _, _, (self_puts _ [41, 42, 43, 44, 5, 6] rfl).symm, fun h => absurd h (by decide), fun h => absurd h (by decide), fun h => absurd h (by decide), fun h => absurd h (by decide), fun h => absurd h (by decide), fun h => absurd h (by decide), fun h => absurd h (by decide), fun h => absurd h (by decide)⟩
            · as_aux_lemma =>
                intro listed a' w' hI i hi
                obtain ⟨hsz, hb, hB, v41, v42, v43, v44, v5, v6, rfl, c0, c1, c2, c3, c4, c5, c6, c7⟩ := hI
                have hun := (ready_mem hi).2.1
                have hlt : i < 7 := (ready_mem hi).1
                have hcs : i = 0 ∨ i = 1 ∨ i = 2 ∨ i = 3 ∨ i = 4 ∨ i = 5 ∨ i = 6 := by omega
                clear hlt
                rcases hcs with rfl | rfl | rfl | rfl | rfl | rfl | rfl
                · have hp := ready_after (o := { dst := some 41, op := Go.Op.load 24 (Go.Operand.tmp 1), type := 24, pos := "outright.go:122", after := #[], guard := none }) hi rfl
                  simp [Region.binds] at hp
                  have hbk : Below w'.heap.size w' w' := Below.refl _ _
                  obtain ⟨u1, u2⟩ := HSB.out w' hb
                  refine wpOp_shut (o := { dst := some 41, op := Go.Op.load 24 (Go.Operand.tmp 1), type := 24, pos := "outright.go:122", after := #[], guard := none }) rfl (fun K hK => ?_)
                  simp only [Act.put, List.setIfInBounds_toArray, List.set_cons_zero, List.set_cons_succ]
                  go_simp
                  exact hK.out _ _ ⟨by simp [hsz], hb, hB, _, _, _, _, _, _, (by simp only [Act.put, List.setIfInBounds_toArray, List.set_cons_zero, List.set_cons_succ]; try rfl),
                      fun _ => rfl,
                      fun h => c1 (flag_of (by decide) h),
                      fun h => c2 (flag_of (by decide) h),
                      fun h => (c3 (flag_of (by decide) h)).below (flag_of (by decide)) hbk,
                      fun h => (c4 (flag_of (by decide) h)).below (flag_of (by decide)) hbk,
                      fun h => c5 (flag_of (by decide) h),
                      fun h => ⟨flag_old (c6 (flag_of (by decide) h)).1, flag_old (c6 (flag_of (by decide) h)).2.1, flag_old (c6 (flag_of (by decide) h)).2.2⟩,
                      fun h => ⟨flag_old (c7 (flag_of (by decide) h)).1, flag_old (c7 (flag_of (by decide) h)).2⟩⟩
                · have hp := ready_after (o := { dst := some 42, op := Go.Op.call { callee := Go.Callee.value (Go.Operand.func 34), args := #[Go.Operand.tmp 41], argTypes := #[24] }, type := 51, pos := "outright.go:122", after := #[{ on := 0, ground := Go.Ground.data }], guard := none }) hi rfl
                  simp [Region.binds] at hp
                  obtain rfl := c0 (by first | exact hp | exact hp.1 | exact hp.2 | simp [hp])
                  refine wpOp_shut (o := { dst := some 42, op := Go.Op.call { callee := Go.Callee.value (Go.Operand.func 34), args := #[Go.Operand.tmp 41], argTypes := #[24] }, type := 51, pos := "outright.go:122", after := #[{ on := 0, ground := Go.Ground.data }], guard := none }) rfl (fun K hK => ?_)
                  simp only [Act.put, List.setIfInBounds_toArray, List.set_cons_zero, List.set_cons_succ]
                  go_simp
                  refine (HRO.out w' hb).mono ?_
                  rintro e w1 ⟨rfl, hbk⟩
                  go_wp2_with fail
                  exact hK.out _ _ ⟨by simp [hsz], (hb.trans (hbk.mono hB)), (Nat.le_trans hB hbk.size), _, _, _, _, _, _, (by simp only [Act.put, List.setIfInBounds_toArray, List.set_cons_zero, List.set_cons_succ]; try rfl),
                      fun _ => rfl,
                      fun _ => rfl,
                      fun h => c2 (flag_of (by decide) h),
                      fun h => (c3 (flag_of (by decide) h)).below (flag_of (by decide)) hbk,
                      fun h => (c4 (flag_of (by decide) h)).below (flag_of (by decide)) hbk,
                      fun h => c5 (flag_of (by decide) h),
                      fun h => ⟨flag_old (c6 (flag_of (by decide) h)).1, flag_old (c6 (flag_of (by decide) h)).2.1, flag_old (c6 (flag_of (by decide) h)).2.2⟩,
                      fun h => ⟨flag_old (c7 (flag_of (by decide) h)).1, flag_old (c7 (flag_of (by decide) h)).2⟩⟩
                · have hp := ready_after (o := { dst := some 43, op := Go.Op.load 24 (Go.Operand.tmp 1), type := 24, pos := "outright.go:122", after := #[], guard := none }) hi rfl
                  simp [Region.binds] at hp
                  have hbk : Below w'.heap.size w' w' := Below.refl _ _
                  obtain ⟨u1, u2⟩ := HSB.out w' hb
                  refine wpOp_shut (o := { dst := some 43, op := Go.Op.load 24 (Go.Operand.tmp 1), type := 24, pos := "outright.go:122", after := #[], guard := none }) rfl (fun K hK => ?_)
                  simp only [Act.put, List.setIfInBounds_toArray, List.set_cons_zero, List.set_cons_succ]
                  go_simp
                  exact hK.out _ _ ⟨by simp [hsz], hb, hB, _, _, _, _, _, _, (by simp only [Act.put, List.setIfInBounds_toArray, List.set_cons_zero, List.set_cons_succ]; try rfl),
                      fun h => c0 (flag_of (by decide) h),
                      fun h => c1 (flag_of (by decide) h),
                      fun _ => rfl,
                      fun h => (c3 (flag_of (by decide) h)).below (flag_of (by decide)) hbk,
                      fun h => (c4 (flag_of (by decide) h)).below (flag_of (by decide)) hbk,
                      fun h => c5 (flag_of (by decide) h),
                      fun h => ⟨flag_old (c6 (flag_of (by decide) h)).1, flag_old (c6 (flag_of (by decide) h)).2.1, flag_old (c6 (flag_of (by decide) h)).2.2⟩,
                      fun h => ⟨flag_old (c7 (flag_of (by decide) h)).1, flag_old (c7 (flag_of (by decide) h)).2⟩⟩
                · have hp := ready_after (o := { dst := some 44, op := Go.Op.call { callee := Go.Callee.value (Go.Operand.func 35), args := #[Go.Operand.tmp 43], argTypes := #[24] }, type := 35, pos := "outright.go:122", after := #[{ on := 2, ground := Go.Ground.data }, { on := 1, ground := Go.Ground.chain }], guard := none }) hi rfl
                  simp [Region.binds] at hp
                  obtain rfl := c2 (by first | exact hp | exact hp.1 | exact hp.2 | simp [hp])
                  refine wpOp_shut (o := { dst := some 44, op := Go.Op.call { callee := Go.Callee.value (Go.Operand.func 35), args := #[Go.Operand.tmp 43], argTypes := #[24] }, type := 35, pos := "outright.go:122", after := #[{ on := 2, ground := Go.Ground.data }, { on := 1, ground := Go.Ground.chain }], guard := none }) rfl (fun K hK => ?_)
                  simp only [Act.put, List.setIfInBounds_toArray, List.set_cons_zero, List.set_cons_succ]
                  go_simp
                  refine (HKD.out w' hb).mono ?_
                  rintro e w1 ⟨V, vc, l, rfl, hkt, hrow, hbk⟩
                  go_wp2_with fail
                  exact hK.out _ _ ⟨by simp [hsz], (hb.trans (hbk.mono hB)), (Nat.le_trans hB hbk.size), _, _, _, _, _, _, (by simp only [Act.put, List.setIfInBounds_toArray, List.set_cons_zero, List.set_cons_succ]; try rfl),
                      fun h => c0 (flag_of (by decide) h),
                      fun h => c1 (flag_of (by decide) h),
                      fun _ => rfl,
                      fun _ => ⟨V, vc, l, _, rfl, hkt, hrow, fun u p hpp hle => by
                        obtain ⟨p', _, _, _, _, _, _, _, _, _, hpp', _, hh, _⟩ := c4 (flag_of (by decide) u)
                        rw [hpp'] at hpp; injection hpp with e; injection e with e; injection e with e
                        have := heap_lt' hh; have hle : w'.heap.size ≤ p := hle; omega⟩,
                      fun h => (c4 (flag_of (by decide) h)).below (flag_of (by decide)) hbk,
                      fun h => (flag_not hun (c7 (flag_of (by decide) h)).1).elim,
                      fun h => ⟨flag_old (c6 (flag_of (by decide) h)).1, flag_old (c6 (flag_of (by decide) h)).2.1, flag_old (c6 (flag_of (by decide) h)).2.2⟩,
                      fun h => ⟨flag_old (c7 (flag_of (by decide) h)).1, flag_old (c7 (flag_of (by decide) h)).2⟩⟩
                · have hp := ready_after (o := { dst := some 5, op := Go.Op.alloc 51, type := 0, pos := "outright.go:122", after := #[], guard := none }) hi rfl
                  simp [Region.binds] at hp
                  refine wpOp_shut (o := { dst := some 5, op := Go.Op.alloc 51, type := 0, pos := "outright.go:122", after := #[], guard := none }) rfl (fun K hK => ?_)
                  simp only [Act.put, List.setIfInBounds_toArray, List.set_cons_zero, List.set_cons_succ]
                  go_simp
                  have hbk := bx1 w' (.cells #[.int .u8 0, .int .u64 0, .int .u64 0, .int .u64 0, .int .u64 0, .string ByteArray.empty, .int .i64 0, .int .i64 0, .slice none 0 0] 51)
                  exact hK.out _ _ ⟨by simp [hsz], (hb.alloc hB _), (by simp; omega), _, _, _, _, _, _, (by simp only [Act.put, List.setIfInBounds_toArray, List.set_cons_zero, List.set_cons_succ]; try rfl),
                      fun h => c0 (flag_of (by decide) h),
                      fun h => c1 (flag_of (by decide) h),
                      fun h => c2 (flag_of (by decide) h),
                      fun h => (c3 (flag_of (by decide) h)).alloc _,
                      fun _ => BoxN.new hB (fun u => flag_not hun (c6 (flag_of (by decide) u)).2.2) _ _ _ _ _ _ _ _ _ _,
                      fun h => c5 (flag_of (by decide) h),
                      fun h => ⟨flag_old (c6 (flag_of (by decide) h)).1, flag_old (c6 (flag_of (by decide) h)).2.1, flag_old (c6 (flag_of (by decide) h)).2.2⟩,
                      fun h => ⟨flag_old (c7 (flag_of (by decide) h)).1, flag_old (c7 (flag_of (by decide) h)).2⟩⟩
                · have hp := ready_after (o := { dst := none, op := Go.Op.store 51 (Go.Operand.tmp 5) (Go.Operand.tmp 42), type := 0, pos := "outright.go:122", after := #[{ on := 4, ground := Go.Ground.data }, { on := 1, ground := Go.Ground.data }, { on := 3, ground := Go.Ground.chain }, { on := 0, ground := Go.Ground.phase }, { on := 1, ground := Go.Ground.phase }, { on := 2, ground := Go.Ground.textOnly Go.Departure.lateStores }, { on := 3, ground := Go.Ground.textOnly Go.Departure.lateStoresUnsure }, { on := 4, ground := Go.Ground.phase }], guard := none }) hi rfl
                  simp [Region.binds] at hp
                  have hf1 : listed.getD 1 false = true := by first | exact hp | exact hp.1 | exact hp.2 | simp [hp]
                  have hf3 : listed.getD 3 false = true := by first | exact hp | exact hp.1 | exact hp.2 | simp [hp]
                  have hf4 : listed.getD 4 false = true := by first | exact hp | exact hp.1 | exact hp.2 | simp [hp]
                  obtain rfl := c1 hf1
                  obtain ⟨p, x0, x1, x2, x3, x4, x5, x6, x7, x8, rfl, hBp, hh, _⟩ := c4 hf4
                  refine wpOp_shut (o := { dst := none, op := Go.Op.store 51 (Go.Operand.tmp 5) (Go.Operand.tmp 42), type := 0, pos := "outright.go:122", after := #[{ on := 4, ground := Go.Ground.data }, { on := 1, ground := Go.Ground.data }, { on := 3, ground := Go.Ground.chain }, { on := 0, ground := Go.Ground.phase }, { on := 1, ground := Go.Ground.phase }, { on := 2, ground := Go.Ground.textOnly Go.Departure.lateStores }, { on := 3, ground := Go.Ground.textOnly Go.Departure.lateStoresUnsure }, { on := 4, ground := Go.Ground.phase }], guard := none }) rfl (fun K hK => ?_)
                  simp only [Act.put, List.setIfInBounds_toArray, List.set_cons_zero, List.set_cons_succ]
                  rw [if_pos (show Region.wanted _ _ = true from rfl)]
                  refine wp_store_mid 51 (.tmp 5) (.tmp 42) rfl p 0 #[.int .u8 n.kind, .int .u64 n.s0, .int .u64 n.s1, .int .u64 n.s2, .int .u64 n.s3, .string n.text, .int .i64 n.mn, .int .i64 n.mx, .slice none 0 0] (by rfl) (by rfl) (there9 hh) (by kernel_rfl) (by simp [Value.oneCell']) ?_
                  have hs9 := set9c (W := w') (.int .u8 n.kind) (.int .u64 n.s0) (.int .u64 n.s1) (.int .u64 n.s2) (.int .u64 n.s3) (.string n.text) (.int .i64 n.mn) (.int .i64 n.mx) (.slice none 0 0) hBp hh
                  exact hK.out _ _ ⟨by simp [hsz], (hb.trans hs9.2.2), (Nat.le_trans hB hs9.2.2.size), _, _, _, _, _, _, (by simp only [Act.put, List.setIfInBounds_toArray, List.set_cons_zero, List.set_cons_succ]; try rfl),
                      fun h => c0 (flag_of (by decide) h),
                      fun _ => rfl,
                      fun h => c2 (flag_of (by decide) h),
                      fun h => (c3 hf3).but hf4 rfl hs9.2.1,
                      fun _ => ⟨p, _, _, _, _, _, _, _, _, _, rfl, hBp, hs9.1, fun _ => rfl⟩,
                      fun h => c5 (flag_of (by decide) h),
                      fun _ => ⟨flag_old hf1, flag_old hf3, flag_old hf4⟩,
                      fun h => ⟨flag_old (c7 (flag_of (by decide) h)).1, flag_old (c7 (flag_of (by decide) h)).2⟩⟩
                · have hp := ready_after (o := { dst := some 6, op := Go.Op.assign (Go.Operand.tmp 44), type := 35, pos := "outright.go:122", after := #[{ on := 3, ground := Go.Ground.data }, { on := 5, ground := Go.Ground.chain }, { on := 0, ground := Go.Ground.phase }, { on := 1, ground := Go.Ground.phase }, { on := 2, ground := Go.Ground.phase }, { on := 3, ground := Go.Ground.phase }, { on := 4, ground := Go.Ground.phase }, { on := 5, ground := Go.Ground.phase }], guard := none }) hi rfl
                  simp [Region.binds] at hp
                  have hbk : Below w'.heap.size w' w' := Below.refl _ _
                  have hf1 : listed.getD 1 false = true := by first | exact hp | exact hp.1 | exact hp.2 | simp [hp]
                  obtain rfl := c1 hf1
                  have hf3 : listed.getD 3 false = true := by first | exact hp | exact hp.1 | exact hp.2 | simp [hp]
                  have hf4 : listed.getD 4 false = true := by first | exact hp | exact hp.1 | exact hp.2 | simp [hp]
                  refine wpOp_shut (o := { dst := some 6, op := Go.Op.assign (Go.Operand.tmp 44), type := 35, pos := "outright.go:122", after := #[{ on := 3, ground := Go.Ground.data }, { on := 5, ground := Go.Ground.chain }, { on := 0, ground := Go.Ground.phase }, { on := 1, ground := Go.Ground.phase }, { on := 2, ground := Go.Ground.phase }, { on := 3, ground := Go.Ground.phase }, { on := 4, ground := Go.Ground.phase }, { on := 5, ground := Go.Ground.phase }], guard := none }) rfl (fun K hK => ?_)
                  simp only [Act.put, List.setIfInBounds_toArray, List.set_cons_zero, List.set_cons_succ]
                  go_simp
                  exact hK.out _ _ ⟨by simp [hsz], hb, hB, _, _, _, _, _, v44, (by simp only [Act.put, List.setIfInBounds_toArray, List.set_cons_zero, List.set_cons_succ]; try rfl),
                      fun h => c0 (flag_of (by decide) h),
                      fun _ => rfl,
                      fun h => c2 (flag_of (by decide) h),
                      fun h => (c3 (flag_of (by decide) h)).below (flag_of (by decide)) hbk,
                      fun h => (c4 (flag_of (by decide) h)).below (flag_of (by decide)) hbk,
                      fun _ => rfl,
                      fun h => ⟨flag_old (c6 (flag_of (by decide) h)).1, flag_old (c6 (flag_of (by decide) h)).2.1, flag_old (c6 (flag_of (by decide) h)).2.2⟩,
                      fun _ => ⟨flag_old hf3, flag_old hf4⟩⟩
            · intro listed a' wz hI hr
              obtain ⟨hsz, hb, hB, v41, v42, v43, v44, v5, v6, rfl, c0, c1, c2, c3, c4, c5, c6, c7⟩ := hI
              have hall := all_listed hsz (by kernel_rfl) hr
              obtain ⟨V, vc, l, R, rfl, hlt, hrow, _⟩ := c3 (hall 3 (by decide))
              obtain ⟨p, x0, x1, x2, x3, x4, x5, x6, x7, x8, rfl, _, hh, hps⟩ := c4 (hall 4 (by decide))
              have e1 := hps (hall 5 (by decide))
              obtain rfl := c5 (hall 6 (by decide))
              have e2 := congrArg (fun v => match v with | Value.agg a => a | _ => #[]) e1
              simp only at e2
              rw [← e2] at hh
              simp only [Act.put, List.setIfInBounds_toArray, List.set_cons_zero, List.set_cons_succ]
              have HF1 := Lib.hid hh; have HF2 := Lib.hid hlt; have HF3 := Lib.hid hrow
              have HF5 := Lib.hid hb
              clear hsz hb hB c0 c1 c2 c3 c4 c5 c6 c7 hall hlt hrow hh hps hr e1 e2
              go_wp2_with fail
              go_meet
              exact ⟨p, V, vc, l, R, rfl, rfl, HF1, HF2, HF3, HF5⟩
          case rest =>
            obtain ⟨p, V, vc, l, R, rfl, rfl, HPN, HLT, HRW, HBC⟩ := hcut
            have HFC := Lib.hid (fit_cases (HFI.out.fit rn))
            rw [← HNN.out] at HFC
            have HTL := Lib.hid (show l.length = (kidsAt (ls.map Ln.nd) rn).length from by have := congrArg List.length HLT.out; simpa using this)
            have HPE := Lib.hid (part_end (rightP_ahead HRP.out) rn)
            have HBT := Lib.hid (show ∀ j, j < (kidsAt (ls.map Ln.nd) rn).length → (if 0 < j then (betweenB n).length else 0) = (if 0 < j then (betweenB (ndAt (ls.map Ln.nd) rn)).length else 0) from fun j _ => by rw [HNN.out])
            have H00 := Lib.hid (show 0 < (kidsAt (ls.map Ln.nd) rn).length → ahead0 n = partAt (ls.map Ln.nd) rn 0 from fun h0 => by
              unfold partAt
              rw [← HNN.out, List.take_zero]
              show ahead0 n = (aheadB n).length + 0
              rcases HFC.out with h | h | h | h | h | h | h | h | h | h <;> first | omega | (simp [ahead0, aheadB, h.1]; try rfl))
            have HKN := Lib.hid (show ∀ j (h : j < l.length) (h2 : j < (kidsAt (ls.map Ln.nd) rn).length), treeB l[j].tr = textN (ls.map Ln.nd) (kidsAt (ls.map Ln.nd) rn)[j] ∧ l[j].ls.length ≤ 3000 from fun j h h2 => by
              have h3 : (l.map Lt.tr)[j]? = some l[j].tr := by rw [List.getElem?_map, List.getElem?_eq_getElem h]; rfl
              rw [HLT.out, List.getElem?_map, List.getElem?_eq_getElem h2] at h3
              have h4 := Option.some.inj h3
              have h5 := HKT.out _ (List.getElem_mem h2)
              rw [h4] at h5
              exact ⟨h5.1, by simpa [Lt.tr] using h5.2⟩)
            have HPS := Lib.hid (show ∀ j (h2 : j < (kidsAt (ls.map Ln.nd) rn).length), (∃ r, s.data.toList.drop (partAt (ls.map Ln.nd) rn j + (if 0 < j then (betweenB n).length else 0)) = wrapB (wrapsK n.kind (ndAt (ls.map Ln.nd) (kidsAt (ls.map Ln.nd) rn)[j]).kind) (textN (ls.map Ln.nd) (kidsAt (ls.map Ln.nd) rn)[j]) ++ r) ∧
              partAt (ls.map Ln.nd) rn (j + 1) = partAt (ls.map Ln.nd) rn j + (if 0 < j then (betweenB n).length else 0) + (wrapB (wrapsK n.kind (ndAt (ls.map Ln.nd) (kidsAt (ls.map Ln.nd) rn)[j]).kind) (textN (ls.map Ln.nd) (kidsAt (ls.map Ln.nd) rn)[j])).length ∧
              partAt (ls.map Ln.nd) rn (j + 1) ≤ s.size ∧ ∃ c ∈ textN (ls.map Ln.nd) (kidsAt (ls.map Ln.nd) rn)[j], c ≠ 40 from fun j h2 => by
              have hA := rightP_ahead HRP.out
              have h3 := part_here hA rn j h2
              have h4 := part_next (l := ls.map Ln.nd) rn j h2
              have h5 := part_le hA rn j h2
              rw [← HNN.out] at h3 h4 h5
              rw [← HDT.out] at h3 h5
              exact ⟨h3, h4, by rw [h4]; exact h5, text_no40 HFI.out _⟩)
            rw [← HDT.out, ← HNN.out] at HPE
            have hk9 : 0 ≤ n.kind ∧ n.kind ≤ 9 := by rcases HFC.out with h | h | h | h | h | h | h | h | h | h <;> omega
            have hts : n.text.size ≤ 255 := by
              have h1 := fit_text (HFI.out.fit rn)
              rw [← HNN.out] at h1
              exact h1.1
            have hkl : (kidsAt (ls.map Ln.nd) rn).length ≤ 3000 := by
              have h1 := HS.out.2 _ (List.getElem_mem hrn)
              simpa [kidsAt, hrn] using h1
            generalize partAt (ls.map Ln.nd) rn = f at *
            generalize hTT : kidsAt (ls.map Ln.nd) rn = T at *
            generalize hLL : ls.map Ln.nd = L at *
            clear hLL hTT HRO HKD HKT HFI HLT HRP HSB b1 b2 HDT HNN
            obtain ⟨m0, m1, m2, m3, m4, m5, m6, m7, m8, _⟩ := blk9 HPN.out
            go_upto_block 2 with (fail)
            go_cut [7] from 47 to 55 (fun v7 wx => v7 = .int .i64 (ahead0 n : Nat) ∧ wx = wc)
            case first =>
              by_cases h7 : n.kind = 7
              · have e7 : (n.kind == 7) = true := by simp [h7]
                have e0 : ahead0 n = 1 := by simp [ahead0, h7]
                go_wp2_with fail
                all_goals go_meet
                exact ⟨by rw [e0]; rfl, rfl⟩
              · have e7 : (n.kind == 7) = false := by simp [h7]
                by_cases h8 : n.kind = 8
                · have e8 : (n.kind == 8) = true := by simp [h8]
                  have e0 : ahead0 n = 1 := by simp [ahead0, h8]
                  go_wp2_with fail
                  all_goals go_meet
                  exact ⟨by rw [e0]; rfl, rfl⟩
                · have e8 : (n.kind == 8) = false := by simp [h8]
                  by_cases h9 : n.kind = 9
                  · have e9 : (n.kind == 9) = true := by simp [h9]
                    have e0 : ahead0 n = n.text.size + 3 := by simp [ahead0, h9]
                    go_wp2_with fail
                    all_goals go_meet
                    exact ⟨by rw [e0]; go_num, rfl⟩
                  · have e9 : (n.kind == 9) = false := by simp [h9]
                    have e0 : ahead0 n = 0 := by simp [ahead0, h7, h8, h9]
                    go_wp2_with fail
                    all_goals go_meet
                    exact ⟨by rw [e0]; rfl, rfl⟩
            case rest =>
              obtain ⟨rfl, rfl⟩ := hcut
              have HMM := Lib.hid (show ∀ w', Below wc.heap.size wc w' → _ from fun w' h => blk9 (bx_kept h HPN.out))
              have HBR := Lib.hid (Below.refl wc.heap.size wc)
              go_wp2_with fail
              go_loopw [7, 8] (fun v7 v8 wr => PartRel wc T f v7 v8 wr) (fun _ v8 _ => T.length - (intOf v8).toNat)
              case atStart => exact ⟨0, ahead0 n, Nat.zero_le _, rfl, rfl, H00, HBR⟩
              case round =>
                obtain ⟨j, q, hj, rfl, rfl, HQ, HB⟩ := hrel
                clear m0 m1 m2 m3 m4 m5 m6 m7 m8
                obtain ⟨m0, m1, m2, m3, m4, m5, m6, m7, m8, _⟩ := HMM.out wr HB.out
                by_cases hlt : j < T.length
                · have hjl : j < l.length := by rw [HTL.out]; exact hlt
                  have hqj : q = f j := HQ.out (by omega)
                  have i3 : (j : Int) < (l.length : Int) := by omega
                  have i4 : (0 : Int) ≤ (j : Int) := by omega
                  obtain ⟨r, hr⟩ := (HPS.out j hlt).1
                  have hf1 := (HPS.out j hlt).2.1
                  have hf2 := (HPS.out j hlt).2.2.1
                  have hno := (HPS.out j hlt).2.2.2
                  obtain ⟨hkt, hks⟩ := HKN.out j hjl hlt
                  obtain ⟨lb, lo, hV, _, _, x0, x1⟩ := ttRow (HRW.out.below HB.out) j hjl
                  subst hV
                  have HPT := Lib.hid (ptree_t l[j] R wr ((HRW.out.below HB.out).sub j hjl) (by omega) (HP.out.below (Below.step HB3.out (Below.step HBC.out HB.out))))
                  rw [hkt] at HPT
                  unfold TextPost at HPT
                  have huu : (⟨(textN L T[j]).toArray⟩ : ByteArray).data.toList = textN L T[j] := rfl
                  have hus : (⟨(textN L T[j]).toArray⟩ : ByteArray).size = (textN L T[j]).length := rfl
                  generalize (⟨(textN L T[j]).toArray⟩ : ByteArray) = u at *
                  rw [← huu] at hr hf1 hno
                  rw [← hqj] at hr hf1
                  have htl : T.length ≤ 1 ∨ n.kind = 4 ∨ n.kind = 5 := by rcases HFC.out with h | h | h | h | h | h | h | h | h | h <;> omega
                  have HCS := Lib.hid (show (j = 0 ∧ (if 0 < j then (betweenB n).length else 0) = 0) ∨ (0 < j ∧ n.kind = 4 ∧ (if 0 < j then (betweenB n).length else 0) = 1) ∨ (0 < j ∧ n.kind = 5 ∧ (if 0 < j then (betweenB n).length else 0) = 3) from by
                    rcases Nat.eq_zero_or_pos j with h0 | h0
                    · exact Or.inl ⟨h0, by rw [h0]; rfl⟩
                    · rcases htl with h | h | h
                      · omega
                      · exact Or.inr (Or.inl ⟨h0, h, by rw [if_pos h0]; simp [betweenB, h]⟩)
                      · exact Or.inr (Or.inr ⟨h0, h, by rw [if_pos h0]; simp [betweenB, h]⟩))
                  generalize (if 0 < j then (betweenB n).length else 0) = sp at hr hf1 HCS
                  generalize wrapsK n.kind (ndAt L T[j]).kind = wk at hr hf1
                  have HWD := Lib.hid (show (⟨#[40]⟩ ++ u ++ ⟨#[41]⟩ : ByteArray).data.toList = [40] ++ u.data.toList ++ [41] from by simp)
                  generalize hw2 : (⟨#[40]⟩ ++ u ++ ⟨#[41]⟩ : ByteArray) = u2 at *
                  have HW := Lib.hid (show (withinB s.data.toList u2.data.toList (q + sp) = true ∧ f (j + 1) = q + sp + u.size + 2) ∨ (withinB s.data.toList u2.data.toList (q + sp) = false ∧ withinB s.data.toList u.data.toList (q + sp) = true ∧ f (j + 1) = q + sp + u.size) from by
                    have hul : u.data.toList.length = u.size := rfl
                    cases wk
                    · simp only [wrapB, Bool.false_eq_true, if_false] at hr hf1
                      refine Or.inr ⟨?_, ?_, by omega⟩
                      · rw [withinB, HWD.out, hr, decide_eq_false_iff_not]
                        exact bare_prefix hno
                      · rw [withinB, hr, decide_eq_true_iff]
                        exact List.prefix_append _ _
                    · simp only [wrapB, if_true] at hr hf1
                      refine Or.inl ⟨?_, ?_⟩
                      · rw [withinB, HWD.out, hr, decide_eq_true_iff]
                        exact List.prefix_append _ _
                      · simp only [List.length_append, List.length_singleton] at hf1
                        omega)
                  generalize hfj : f (j + 1) = fj at *
                  have HFJ := Lib.hid hfj
                  have hus2 : u.size ≤ 7200000 := by rcases HW.out with ⟨_, h⟩ | ⟨_, _, h⟩ <;> omega
                  have hss : s.size ≤ 281474976710656 := by omega
                  have HIN := Lib.hid (show ∀ z7 z8 : Int, z8 = (j : Int) + 1 → z7 = (fj : Int) → ∀ w', Below wr.heap.size wr w' → PartRel wc T f (.int .i64 z7) (.int .i64 z8) w' from fun z7 z8 h8 h7 w' hb => ⟨j + 1, fj, hlt, by rw [h8]; rfl, by rw [h7], Lib.hid (fun _ => HFJ.out.symm), Lib.hid (Below.step HB.out hb)⟩)
                  have HHU := Lib.hid hw2
                  clear hr hf1 hno huu hus HQ hqj hfj HFC HTL HRW HPN HBC HPE HKN HPS HBT H00 hkt hks htl hw2
                  have HHM := Lib.hid (show ∀ w', Below wr.heap.size wr w' → _ from fun w' h => HMM.out w' (Below.step HB.out h))
                  have HWA := Lib.hid (show ∀ B : Bool, withinB s.data.toList u2.data.toList (q + sp) = B → ∀ (z : Int) (w' : World), z = ((q + sp : Nat) : Int) → Calls Tryd.prog 36 #[.string s, .string (⟨#[40]⟩ ++ u ++ ⟨#[41]⟩), .int .i64 z] w' fun e w'' => w' = w'' ∧ e = .returned (.bool B) from fun B hB z w' hz => by
                    rw [HHU.out, ← hB]
                    exact within_at s u2 z (q + sp) hz w' (by rcases HW.out with ⟨_, h⟩ | ⟨_, _, h⟩ <;> omega) hss)
                  have HWB := Lib.hid (show withinB s.data.toList u.data.toList (q + sp) = true → ∀ (z : Int) (w' : World), z = ((q + sp : Nat) : Int) → Calls Tryd.prog 36 #[.string s, .string u, .int .i64 z] w' fun e w'' => w' = w'' ∧ e = .returned (.bool true) from fun hB z w' hz => by
                    rw [← hB]
                    exact within_at s u z (q + sp) hz w' (by rcases HW.out with ⟨_, h⟩ | ⟨_, _, h⟩ <;> omega) hss)
                  have hbd : ¬ 9223372036854775807 < u.size + 2 := by omega
                  have hbd1 : ¬ 9223372036854775807 < 1 + u.size := by omega
                  have hbd2 : ¬ 9223372036854775807 < 1 + u.size + 1 := by omega
                  rcases HCS.out with ⟨h0, hsp⟩ | ⟨h0, h4, hsp⟩ | ⟨h0, h5, hsp⟩
                  · obtain rfl := hsp
                    have i5 : ¬ (0 : Int) < (j : Int) := by omega
                    clear h0 HCS
                    rcases HW.out with ⟨b1, b2⟩ | ⟨b1, b3, b2⟩
                    · as_aux_lemma =>
                        go_wp2_with fail
                        (go_at_call 16; refine HPT.out.mono ?_; rintro e w5 ⟨rfl, hb5⟩; have HB5 := Lib.hid hb5; clear hb5; clear m0 m1 m2 m3 m4 m5 m6 m7 m8; obtain ⟨m0, m1, m2, m3, m4, m5, m6, m7, m8, _⟩ := HHM.out w5 HB5.out)
                        go_wp2_with (first | (go_at_call 36; (with_reducible refine (HWA.out true b1 _ _ ?hz).mono ?_); (case hz => omega); rintro e w6 ⟨rfl, rfl⟩))
                        exact ⟨HIN.out _ _ (by omega) (by omega) _ HB5.out, by simp [intOf]; omega⟩
                    · as_aux_lemma =>
                        go_wp2_with fail
                        (go_at_call 16; refine HPT.out.mono ?_; rintro e w5 ⟨rfl, hb5⟩; have HB5 := Lib.hid hb5; clear hb5; clear m0 m1 m2 m3 m4 m5 m6 m7 m8; obtain ⟨m0, m1, m2, m3, m4, m5, m6, m7, m8, _⟩ := HHM.out w5 HB5.out)
                        go_wp2_with (first | (go_at_call 36; (with_reducible refine (HWA.out false b1 _ _ ?hz).mono ?_); (case hz => omega); rintro e w6 ⟨rfl, rfl⟩) | (go_at_call 36; (with_reducible refine (HWB.out b3 _ _ ?hz).mono ?_); (case hz => omega); rintro e w6 ⟨rfl, rfl⟩))
                        exact ⟨HIN.out _ _ (by omega) (by omega) _ HB5.out, by simp [intOf]; omega⟩
                  · obtain rfl := hsp
                    have i5 : (0 : Int) < (j : Int) := by omega
                    have e4 : (n.kind == 4) = true := by simp [h4]
                    have e5 : (n.kind == 5) = false := by simp [h4]
                    clear h0 HCS h4
                    rcases HW.out with ⟨b1, b2⟩ | ⟨b1, b3, b2⟩
                    · as_aux_lemma =>
                        go_wp2_with fail
                        (go_at_call 16; refine HPT.out.mono ?_; rintro e w5 ⟨rfl, hb5⟩; have HB5 := Lib.hid hb5; clear hb5; clear m0 m1 m2 m3 m4 m5 m6 m7 m8; obtain ⟨m0, m1, m2, m3, m4, m5, m6, m7, m8, _⟩ := HHM.out w5 HB5.out)
                        obtain ⟨q1, hq1⟩ : ∃ q1 : Nat, q1 = q + 1 := ⟨_, rfl⟩
                        rw [show (q : Int) + 1 = (q1 : Int) from by omega]
                        have HZ := Lib.hid hq1
                        have HBB := Lib.hid b2
                        have hz0 : q1 ≤ 7200000 := by omega
                        clear hq1 e4 e5 i5 b2
                        go_wp2_with (first | (go_at_call 36; (with_reducible refine (HWA.out true b1 _ _ ?hz).mono ?_); (case hz => (have := HZ.out; have := HBB.out; omega)); rintro e w6 ⟨rfl, rfl⟩))
                        exact ⟨HIN.out _ _ (by omega) (by (have := HZ.out; have := HBB.out; omega)) _ HB5.out, by simp [intOf]; omega⟩
                    · as_aux_lemma =>
                        go_wp2_with fail
                        (go_at_call 16; refine HPT.out.mono ?_; rintro e w5 ⟨rfl, hb5⟩; have HB5 := Lib.hid hb5; clear hb5; clear m0 m1 m2 m3 m4 m5 m6 m7 m8; obtain ⟨m0, m1, m2, m3, m4, m5, m6, m7, m8, _⟩ := HHM.out w5 HB5.out)
                        obtain ⟨q1, hq1⟩ : ∃ q1 : Nat, q1 = q + 1 := ⟨_, rfl⟩
                        rw [show (q : Int) + 1 = (q1 : Int) from by omega]
                        have HZ := Lib.hid hq1
                        have HBB := Lib.hid b2
                        have hz0 : q1 ≤ 7200000 := by omega
                        clear hq1 e4 e5 i5 b2
                        go_wp2_with (first | (go_at_call 36; (with_reducible refine (HWA.out false b1 _ _ ?hz).mono ?_); (case hz => (have := HZ.out; have := HBB.out; omega)); rintro e w6 ⟨rfl, rfl⟩) | (go_at_call 36; (with_reducible refine (HWB.out b3 _ _ ?hz).mono ?_); (case hz => (have := HZ.out; have := HBB.out; omega)); rintro e w6 ⟨rfl, rfl⟩))
                        exact ⟨HIN.out _ _ (by omega) (by (have := HZ.out; have := HBB.out; omega)) _ HB5.out, by simp [intOf]; omega⟩
                  · obtain rfl := hsp
                    have i5 : (0 : Int) < (j : Int) := by omega
                    have e4 : (n.kind == 4) = false := by simp [h5]
                    have e5 : (n.kind == 5) = true := by simp [h5]
                    clear h0 HCS h5
                    rcases HW.out with ⟨b1, b2⟩ | ⟨b1, b3, b2⟩
                    · as_aux_lemma =>
                        go_wp2_with fail
                        (go_at_call 16; refine HPT.out.mono ?_; rintro e w5 ⟨rfl, hb5⟩; have HB5 := Lib.hid hb5; clear hb5; clear m0 m1 m2 m3 m4 m5 m6 m7 m8; obtain ⟨m0, m1, m2, m3, m4, m5, m6, m7, m8, _⟩ := HHM.out w5 HB5.out)
                        obtain ⟨q1, hq1⟩ : ∃ q1 : Nat, q1 = q + 3 := ⟨_, rfl⟩
                        rw [show (q : Int) + 3 = (q1 : Int) from by omega]
                        have HZ := Lib.hid hq1
                        have HBB := Lib.hid b2
                        have hz0 : q1 ≤ 7200000 := by omega
                        clear hq1 e4 e5 i5 b2
                        go_wp2_with (first | (go_at_call 36; (with_reducible refine (HWA.out true b1 _ _ ?hz).mono ?_); (case hz => (have := HZ.out; have := HBB.out; omega)); rintro e w6 ⟨rfl, rfl⟩))
                        exact ⟨HIN.out _ _ (by omega) (by (have := HZ.out; have := HBB.out; omega)) _ HB5.out, by simp [intOf]; omega⟩
                    · as_aux_lemma =>
                        go_wp2_with fail
                        (go_at_call 16; refine HPT.out.mono ?_; rintro e w5 ⟨rfl, hb5⟩; have HB5 := Lib.hid hb5; clear hb5; clear m0 m1 m2 m3 m4 m5 m6 m7 m8; obtain ⟨m0, m1, m2, m3, m4, m5, m6, m7, m8, _⟩ := HHM.out w5 HB5.out)
                        obtain ⟨q1, hq1⟩ : ∃ q1 : Nat, q1 = q + 3 := ⟨_, rfl⟩
                        rw [show (q : Int) + 3 = (q1 : Int) from by omega]
                        have HZ := Lib.hid hq1
                        have HBB := Lib.hid b2
                        have hz0 : q1 ≤ 7200000 := by omega
                        clear hq1 e4 e5 i5 b2
                        go_wp2_with (first | (go_at_call 36; (with_reducible refine (HWA.out false b1 _ _ ?hz).mono ?_); (case hz => (have := HZ.out; have := HBB.out; omega)); rintro e w6 ⟨rfl, rfl⟩) | (go_at_call 36; (with_reducible refine (HWB.out b3 _ _ ?hz).mono ?_); (case hz => (have := HZ.out; have := HBB.out; omega)); rintro e w6 ⟨rfl, rfl⟩))
                        exact ⟨HIN.out _ _ (by omega) (by (have := HZ.out; have := HBB.out; omega)) _ HB5.out, by simp [intOf]; omega⟩
                · obtain rfl : j = T.length := by omega
                  have HPE2 := Lib.hid (show 0 < T.length → q + (behindB n).length = s.size from fun h => by
                    have h1 : s.data.toList.length = s.size := rfl
                    rw [← h1, HPE.out, HQ.out h])
                  have HBF := Lib.hid (Below.step HB3.out (Below.step HBC.out HB.out))
                  have i3 : ¬ ((T.length : Int) < (l.length : Int)) := by have := HTL.out; omega
                  have HPW := Lib.hid (HP.out.below HBF.out)
                  have hll : l.length = T.length := HTL.out
                  clear HQ HPE HKN HPS HBT H00 HRW HPN HTL hlt
                  by_cases hT : T.length = 0
                  · have el : ((l.length : Int) == 0) = true := by rw [beq_iff_eq]; omega
                    have e6 : (n.kind == 6) = false := beq_eq_false_iff_ne.2 (by rcases HFC.out with h | h | h | h | h | h | h | h | h | h <;> omega)
                    have e9 : (n.kind == 9) = false := beq_eq_false_iff_ne.2 (by rcases HFC.out with h | h | h | h | h | h | h | h | h | h <;> omega)
                    clear hll hT
                    as_aux_lemma =>
                      go_wp2_with fail
                      go_ret
                      exact ⟨rfl, HBF.out⟩
                  · have hq := HPE2.out (by omega)
                    have el : ((l.length : Int) == 0) = false := by rw [beq_eq_false_iff_ne]; omega
                    by_cases h6 : n.kind = 6
                    · have e6 : (n.kind == 6) = true := by simp [h6]
                      have e9 : (n.kind == 9) = false := by simp [h6]
                      have HCT := Lib.hid (count_any n.mn n.mx wr HPW.out.ta HPW.out.pw HPW.out.co HPW.out.cn)
                      unfold TextPost at HCT
                      have hus : (⟨(countB n.mn n.mx).toArray⟩ : ByteArray).size = (behindB n).length := by unfold behindB; rw [if_pos h6]; rfl
                      generalize (⟨(countB n.mn n.mx).toArray⟩ : ByteArray) = u at *
                      have eq : ((q : Int) + (u.size : Int) == (s.size : Int)) = true := by rw [beq_iff_eq]; omega
                      have hub : u.size ≤ 7200000 := by omega
                      have hqb : q ≤ 7200000 := by omega
                      clear hll hT hus hq h6
                      as_aux_lemma =>
                        go_wp2_with (go_at_call 18; refine HCT.out.mono ?_; rintro e w5 ⟨rfl, hb5⟩; have HB5 := Lib.hid hb5; clear hb5)
                        go_ret
                        exact ⟨rfl, Below.step HBF.out HB5.out⟩
                    · have e6 : (n.kind == 6) = false := beq_eq_false_iff_ne.2 h6
                      by_cases h9 : n.kind = 9
                      · have e9 : (n.kind == 9) = true := by simp [h9]
                        have hbl : (behindB n).length = 1 := by simp [behindB, h9]
                        have eq : ((q : Int) + 1 == (s.size : Int)) = true := by rw [beq_iff_eq]; omega
                        have hqb : q ≤ 7200000 := by omega
                        clear hll hT hq h6 h9 hbl
                        as_aux_lemma =>
                          go_wp2_with fail
                          go_ret
                          exact ⟨rfl, HBF.out⟩
                      · have e9 : (n.kind == 9) = false := beq_eq_false_iff_ne.2 h9
                        have hbl : (behindB n).length = 0 := by simp [behindB, h6, h9]
                        obtain rfl : q = s.size := by omega
                        clear hll hT hq h6 h9 hbl
                        as_aux_lemma =>
                          go_wp2_with fail
                          go_ret
                          exact ⟨rfl, HBF.out⟩
  · as_aux_lemma =>
      go_wp2_with (go_at_call 14; refine (works_any _ (HP.out.below HB2.out)).mono ?_; rintro e w3 ⟨rfl, hb3⟩; have HB3 := Lib.hid (Below.step HB2.out hb3); clear hb3)
      go_ret
      exact ⟨rfl, HB3.out⟩
end Go.Proofs.YtjlohjdmekbipaaDoor
