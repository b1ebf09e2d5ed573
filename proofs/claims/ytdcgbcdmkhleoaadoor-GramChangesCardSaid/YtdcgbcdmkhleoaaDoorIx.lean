/- The examples of layer 9. -/
import Derived.Test.YtdcgbcdmkhleoaaDoorIp
import Derived.Test.YtdcgbcdmkhleoaaDoorIq
import Derived.Test.YtdcgbcdmkhleoaaDoorIv
import Derived.Test.YtdcgbcdmkhleoaaDoorIe
import Derived.Deep.RegionHeld3
import Derived.Deep.DeepCutAuto
import Derived.Deep.Cut
import Derived.Deep.CutRange
namespace Go.Proofs.YtdcgbcdmkhleoaaDoor
open Go.RowKit
set_option linter.unusedSimpArgs false
set_option linter.unusedVariables false

def one9 : List Df := some9.eraseIdx 1
def two9 : List Df := some9.set 1 ⟨⟨#[97]⟩, ⟨[emptyLf], 0⟩⟩
def bodyB9 : Tr := ofT seqN [⟨[emptyLf], 0⟩, ⟨[textLf ⟨#[120]⟩], 0⟩]
def odd9 : List Df := some9.set 1 ⟨⟨#[98]⟩, bodyB9⟩
theorem okB9 : okT seqN [⟨[emptyLf], 0⟩, ⟨[textLf ⟨#[120]⟩], 0⟩] = true := by kernel_rfl
theorem may90 : mayG [] = 4 := by kernel_rfl
theorem may91 : mayG one9 = 41 := by kernel_rfl
theorem may92 : mayG two9 = 6 := by kernel_rfl
theorem may93 : mayG odd9 = 4 := by kernel_rfl
theorem same90 : sameG some9 some9 = true := by kernel_rfl
theorem same91 : sameG some9 one9 = false := by kernel_rfl
theorem find9b : findG some9 ⟨#[98]⟩ = 1 := by kernel_rfl
theorem find9c : findG some9 ⟨#[99]⟩ = -1 := by kernel_rfl
def smallEx (G : List Df) : Bool := decide (G.length ≤ 1000) && G.all fun d => decide (d.body.nodes.length ≤ 1000) && d.body.nodes.all fun n => decide (n.kids.length ≤ 1000)
theorem small_of {e : List Ld} {G : List Df} (h : e.map Ld.df = G) (hG : smallEx G = true) : e.length ≤ 1000 ∧ (∀ d ∈ e, d.t.ls.length ≤ 1000) ∧ ∀ d ∈ e, DMod d := by
  simp only [smallEx, Bool.and_eq_true, List.all_eq_true, decide_eq_true_eq] at hG
  have h1 : ∀ d ∈ e, d.df.body.nodes.length ≤ 1000 ∧ ∀ n ∈ d.df.body.nodes, n.kids.length ≤ 1000 := fun d hd => hG.2 d.df (by rw [← h]; exact List.mem_map.2 ⟨d, hd, rfl⟩)
  refine ⟨by have := congrArg List.length h; rw [List.length_map] at this; omega, fun d hd => ?_, fun d hd => dmod_of (h1 d hd)⟩
  have h2 : (d.t.ls.map Ln.nd).length ≤ 1000 := (h1 d hd).1
  rwa [List.length_map] at h2
/-- An example in memory: rows of these rules. -/
structure Ex (w : World) (G : List Df) (A : Option Addr) (n : Nat) (e : List Ld) : Prop where
  row : dfL.row w (fun _ => True) A e
  df : e.map Ld.df = G
  len : e.length = n
  small : smallEx G = true
theorem Ex.below {w w' : World} {G : List Df} {A : Option Addr} {n : Nat} {e : List Ld} (h : Ex w G A n e) (hb : Below w.heap.size w w') : Ex w' G A n e := ⟨h.row.below hb, h.df, h.len, h.small⟩
theorem Ex.may {w : World} {G : List Df} {A : Option Addr} {n c : Nat} {e : List Ld} (h : Ex w G A n e) (hp : PTabs w) {r : Int} (hr : mayG G = r) :
    Calls Tryd.prog 32 #[.agg #[.slice A n c]] w fun e' w' => e' = .returned (.int .i64 r) ∧ Below w.heap.size w w' := by
  obtain ⟨h1, h2, h3⟩ := small_of h.df h.small
  have h4 := gmay_any A c e _ w h.row (by omega) (fun d hd => by have := h2 d hd; omega) hp
  rw [h.df, hr, h.len] at h4
  exact h4
theorem Ex.nodes {w : World} {G : List Df} {A : Option Addr} {n c : Nat} {e : List Ld} (h : Ex w G A n e) (hp : PTabs w) {r : Nat} (hr : nodesG G = r) :
    Calls Tryd.prog 37 #[.agg #[.slice A n c]] w fun e' w' => e' = .returned (.int .i64 (r : Int)) ∧ Below w.heap.size w w' := by
  obtain ⟨h1, h2, h3⟩ := small_of h.df h.small
  have h4 := gnodes_any A c e _ w h.row (by omega) (fun d hd => by have := h2 d hd; omega) hp.cn
  rw [h.df, hr, h.len] at h4
  exact h4
theorem Ex.find {w : World} {G : List Df} {A : Option Addr} {n c : Nat} {e : List Ld} (h : Ex w G A n e) (s : ByteArray) {r : Int} (hr : findG G s = r) :
    Calls Tryd.prog 40 #[.agg #[.slice A n c], .string s] w fun e' w' => e' = .returned (.int .i64 r) ∧ Below w.heap.size w w' := by
  obtain ⟨h1, h2, h3⟩ := small_of h.df h.small
  have h4 := find_any A c e s _ w h.row (by omega)
  rw [h.df, hr, h.len] at h4
  exact h4
theorem Ex.names {w : World} {G : List Df} {A : Option Addr} {n c : Nat} {e : List Ld} (h : Ex w G A n e) :
    Calls Tryd.prog 64 #[.agg #[.slice A n c]] w fun e' w' => (∃ V vc, e' = .returned (.slice V n vc)) ∧ Below w.heap.size w w' := by
  obtain ⟨h1, h2, h3⟩ := small_of h.df h.small
  have h4 := gnames_any A c e _ w h.row (by omega)
  rw [h.len] at h4
  refine h4.mono ?_
  rintro e' w' ⟨V, vc, rfl, _, hb⟩
  refine ⟨⟨V, vc, ?_⟩, hb⟩
  rw [List.length_map, h.len]
theorem Ex.same {w : World} {G H : List Df} {A B : Option Addr} {n m c d : Nat} {e f : List Ld} (h : Ex w G A n e) (k : Ex w H B m f) (hp : PTabs w) {r : Bool} (hr : sameG G H = r) :
    Calls Tryd.prog 39 #[.agg #[.slice A n c], .agg #[.slice B m d]] w fun e' w' => e' = .returned (.bool r) ∧ Below w.heap.size w w' := by
  obtain ⟨h1, h2, h3⟩ := small_of h.df h.small
  obtain ⟨k1, k2, k3⟩ := small_of k.df k.small
  have h4 := gsame_any e f A B c d _ _ w h.row k.row (by omega) (by omega) (fun x hx => by have := h2 x hx; omega) (fun x hx => by have := k2 x hx; omega) hp.cn
  rw [h.df, k.df, hr, h.len, k.len] at h4
  exact h4
theorem Ex.drop {w : World} {G : List Df} {A : Option Addr} {n c : Nat} {e : List Ld} (h : Ex w G A n e) (r : Nat) (hr : r < n) (hs : smallEx (G.eraseIdx r) = true) :
    Calls Tryd.prog 36 #[.agg #[.slice A n c], .int .i64 r] w fun e' w' => ∃ V vc f, e' = .returned (.tuple #[.agg #[.slice V (n - 1) vc], .bool true]) ∧ Ex w' (G.eraseIdx r) V (n - 1) f ∧ Below w.heap.size w w' := by
  obtain ⟨h1, h2, h3⟩ := small_of h.df h.small
  have h4 := drop_any A c e r _ w h.row (by omega) h3 (by rw [h.len]; exact hr)
  rw [h.df, h.len] at h4
  refine h4.mono ?_
  rintro e' w' ⟨V, vc, f, rfl, hf, ho, hb⟩
  have hl : f.length = n - 1 := by
    have h5 := congrArg List.length hf
    rw [List.length_map, List.length_eraseIdx, ← h.df, List.length_map, h.len, if_pos hr] at h5
    exact h5
  exact ⟨V, vc, f, by rw [hl], ⟨ho.inn.mono (fun _ _ _ => trivial), hf, hl, hs⟩, hb⟩
theorem Ex.with {w : World} {G : List Df} {A : Option Addr} {n c : Nat} {e : List Ld} (h : Ex w G A n e) (r : Nat) (hr : r < n) (t : Lt) (T : Nat → Prop) (ht : t.inn w T) (htl : t.ls.length ≤ 4294967296) (htk : ∀ l ∈ t.ls, l.nd.kids.length ≤ 4294967296) {G' : List Df} (hG : G.set r ⟨(G[r]?.map Df.name).getD ⟨#[]⟩, t.tr⟩ = G') (hs : smallEx G' = true) :
    Calls Tryd.prog 35 #[.agg #[.slice A n c], .int .i64 r, .agg #[.slice t.A t.ls.length t.c, .int .i64 t.root]] w fun e' w' => ∃ V vc f, e' = .returned (.tuple #[.agg #[.slice V n vc], .bool true]) ∧ Ex w' G' V n f ∧ dfL.row w' (fun x => w.heap.size ≤ x) V f ∧ Below w.heap.size w w' := by
  obtain ⟨h1, h2, h3⟩ := small_of h.df h.small
  have h4 := with_any A c e r t _ T w h.row ht (by omega) h3 (by rw [h.len]; exact hr) htl htk
  rw [h.df, h.len] at h4
  refine h4.mono ?_
  rintro e' w' ⟨V, vc, f, rfl, hf, ho, hb⟩
  have hl : f.length = n := by
    have h5 := congrArg List.length hf
    rw [List.length_map, List.length_set, ← h.df, List.length_map, h.len] at h5
    exact h5
  exact ⟨V, vc, f, by rw [hl], ⟨ho.inn.mono (fun _ _ _ => trivial), hf.trans hG, hl, hs⟩, ho.inn, hb⟩
theorem some_ex (w : World) (ht : CntTab w) :
    Calls Tryd.prog 34 #[] w fun e w' => ∃ (g : Nat) (d1 d2 : Ld), e = .returned (.agg #[.slice (some ⟨g, 0, none⟩) 2 2]) ∧ Ex w' some9 (some ⟨g, 0, none⟩) 2 [d1, d2] ∧ w.heap.size ≤ g ∧ w'.heap[g]? = some (.cells (dfL.all [d1, d2]).toArray 47 (0, 0)) ∧ (∀ d ∈ [d1, d2], dfL.inn w' (fun x => w.heap.size ≤ x ∧ x ≠ g) d) ∧ Below w.heap.size w w' := by
  refine (some_any w ht).mono ?_
  rintro e w' ⟨g, d1, d2, rfl, hd, hg, hh, hi, hb⟩
  exact ⟨g, d1, d2, rfl, ⟨⟨⟨row_blk hh, fun _ _ _ => trivial⟩, fun d hd => dfL.mono (hi d hd) (fun _ _ _ => trivial)⟩, hd, rfl, by kernel_rfl⟩, hg, hh, hi, hb⟩

theorem below_al {w w' : World} (h : Below w.heap.size w w') (o : Obj) : Below w.heap.size w (w'.alloc o) := h.alloc h.size o
theorem bx_new2 (w : World) (o p : Obj) : ((w.alloc o).alloc p).heap[w.heap.size + 1]? = some p := by
  have h := bx_new (w.alloc o) p
  rw [World.size_alloc] at h; exact h

set_option maxRecDepth 100000 in
set_option maxHeartbeats 12800000 in
theorem awake9_any (w : World) (hp : PTabs w) :
    Calls Tryd.prog 27 #[] w fun e w' => e = .returned (.bool true) ∧ Below w.heap.size w w' := by
  have HP := Lib.hid hp; clear hp
  go_enter Tryd.func27, Tryd.ntmps27
  go_wp2_with fail
  refine (some_ex w HP.out.cn).mono ?_
  rintro e w1 ⟨g, d1, d2, rfl, hx, -, -, -, hb⟩
  have HX1 := Lib.hid hx; have HB1 := Lib.hid hb; clear hx hb
  go_upto_region 2 with (fail)
  have HG2 := Lib.hid (HX1.out.below (bx1 w1 (.cells #[.slice (some ⟨g, 0, none⟩) 2 2] 50)))
  have HK2 := Lib.hid (bx_new w1 (.cells #[.slice (some ⟨g, 0, none⟩) 2 2] 50))
  have HB2 := Lib.hid (Below.step HB1.out (bx1 w1 (.cells #[.slice (some ⟨g, 0, none⟩) 2 2] 50)))
  have HZ := Lib.hid HB1.out.size
  clear HX1 HB1
  generalize w1.alloc (.cells #[.slice (some ⟨g, 0, none⟩) 2 2] 50) = w2 at *
  generalize w1.heap.size = b1 at *
  clear w1
  obtain ⟨p1, p2⟩ := blk1 HK2.out
  go_wp2_with fail
  refine (HG2.out.may (HP.out.below HB2.out) may9).mono ?_
  rintro e w3 ⟨rfl, hb⟩
  have HG3 := Lib.hid (HG2.out.below hb); have HK3 := Lib.hid (bx_kept hb HK2.out); have HB3 := Lib.hid (Below.step HB2.out hb)
  clear p1 p2
  obtain ⟨p1, p2⟩ := blk1 HK3.out
  clear hb HG2 HK2 HB2
  go_wp2_with fail
  refine (HG3.out.nodes (HP.out.below HB3.out) nodes9).mono ?_
  rintro e w4 ⟨rfl, hb⟩
  have HG4 := Lib.hid (HG3.out.below hb); have HK4 := Lib.hid (bx_kept hb HK3.out); have HB4 := Lib.hid (Below.step HB3.out hb)
  clear p1 p2
  obtain ⟨p1, p2⟩ := blk1 HK4.out
  clear hb HG3 HK3 HB3
  go_wp2_with fail
  refine (HG4.out.find ⟨#[98]⟩ find9b).mono ?_
  rintro e w5 ⟨rfl, hb⟩
  have HG5 := Lib.hid (HG4.out.below hb); have HK5 := Lib.hid (bx_kept hb HK4.out); have HB5 := Lib.hid (Below.step HB4.out hb)
  clear p1 p2
  obtain ⟨p1, p2⟩ := blk1 HK5.out
  clear hb HG4 HK4 HB4
  go_wp2_with fail
  refine (HG5.out.find ⟨#[99]⟩ find9c).mono ?_
  rintro e w6 ⟨rfl, hb⟩
  have HG6 := Lib.hid (HG5.out.below hb); have HK6 := Lib.hid (bx_kept hb HK5.out); have HB6 := Lib.hid (Below.step HB5.out hb)
  clear p1 p2
  obtain ⟨p1, p2⟩ := blk1 HK6.out
  clear hb HG5 HK5 HB5
  go_wp2_with fail
  refine (HG6.out.names).mono ?_
  rintro e w7 ⟨⟨V, vc, rfl⟩, hb⟩
  have HG7 := Lib.hid (HG6.out.below hb); have HK7 := Lib.hid (bx_kept hb HK6.out); have HB7 := Lib.hid (Below.step HB6.out hb)
  clear p1 p2
  obtain ⟨p1, p2⟩ := blk1 HK7.out
  clear hb HG6 HK6 HB6
  go_wp2_with fail
  refine (HG7.out.drop 1 (by decide) (by kernel_rfl)).mono ?_
  rintro e w8 ⟨V2, vc2, e2, rfl, hx, hb⟩
  have HD8 := Lib.hid hx
  have HG8 := Lib.hid (HG7.out.below hb); have HK8 := Lib.hid (bx_kept hb HK7.out); have HB8 := Lib.hid (Below.step HB7.out hb)
  clear hx hb HG7 HK7 HB7 p1 p2
  go_upto_region 5 with (fail)
  have HD9 := Lib.hid (HD8.out.below (bx1 w8 (.cells #[.slice V2 1 vc2] 50)))
  have HG9 := Lib.hid (HG8.out.below (bx1 w8 (.cells #[.slice V2 1 vc2] 50)))
  have HK9 := Lib.hid (show (w8.alloc (.cells #[.slice V2 1 vc2] 50)).heap[b1]? = some (.cells #[.slice (some ⟨g, 0, none⟩) 2 2] 50 (0, 0)) ∧ (w8.alloc (.cells #[.slice V2 1 vc2] 50)).heap[w8.heap.size]? = some (.cells #[.slice V2 1 vc2] 50 (0, 0)) from ⟨bx_old HK8.out, bx_new w8 _⟩)
  have HB9 := Lib.hid (Below.step HB8.out (bx1 w8 (.cells #[.slice V2 1 vc2] 50)))
  have HZ9 := Lib.hid HB8.out.size
  clear HD8 HG8 HK8 HB8
  generalize w8.alloc (.cells #[.slice V2 1 vc2] 50) = w9 at *
  generalize w8.heap.size = b2 at *
  clear w8
  go_wp2_with fail
  refine (some_ex w9 (HP.out.below HB9.out).cn).mono ?_
  rintro e w10 ⟨g2, d3, d4, rfl, hx, hg2, hh, hi, hb⟩
  have HBS := Lib.hid hb
  have HK10 := Lib.hid (And.intro (bx_kept hb HK9.out.1) (bx_kept hb HK9.out.2))
  have HB10 := Lib.hid (Below.step HB9.out hb)
  have HF10 := Lib.hid (show (w9.heap.size ≤ g2 ∧ b1 < w9.heap.size ∧ b2 < w9.heap.size ∧ w.heap.size ≤ w9.heap.size) from ⟨hg2, (Array.getElem?_eq_some_iff.1 HK9.out.1).1, (Array.getElem?_eq_some_iff.1 HK9.out.2).1, HB9.out.size⟩)
  have HX10 := Lib.hid hx; have HH10 := Lib.hid hh; have HI10 := Lib.hid hi
  clear hx hg2 hh hi hb HK9 HB9
  go_upto_region 6 with (fail)
  have HBX := Lib.hid (bx1 w10 (.cells #[.slice (some ⟨g2, 0, none⟩) 2 2] 50))
  have HK11 := Lib.hid (bx_new w10 (.cells #[.slice (some ⟨g2, 0, none⟩) 2 2] 50))
  have HZ10 := Lib.hid (show b1 < w10.heap.size ∧ b2 < w10.heap.size ∧ g2 < w10.heap.size from ⟨(Array.getElem?_eq_some_iff.1 HK10.out.1).1, (Array.getElem?_eq_some_iff.1 HK10.out.2).1, (Array.getElem?_eq_some_iff.1 HH10.out).1⟩)
  have HH11 := Lib.hid ((HBX.out.block g2 HZ10.out.2.2).trans HH10.out)
  have hc := row_cellAt (j := 3) HH11.out (u := .string d4.name) rfl
  obtain ⟨p1, p2⟩ := hc
  generalize hw11 : w10.alloc (.cells #[.slice (some ⟨g2, 0, none⟩) 2 2] 50) = w11 at *
  obtain ⟨q1, q2⟩ := blk1 HK11.out
  go_upto_region 7 with (fail)
  clear p1 p2 q1 q2
  have HK12 := Lib.hid (show (w11.setCell ⟨g2, 3, none⟩ (.string ⟨#[97]⟩)).heap[b1]? = some (.cells #[.slice (some ⟨g, 0, none⟩) 2 2] 50 (0, 0)) ∧ (w11.setCell ⟨g2, 3, none⟩ (.string ⟨#[97]⟩)).heap[b2]? = some (.cells #[.slice V2 1 vc2] 50 (0, 0)) ∧ (w11.setCell ⟨g2, 3, none⟩ (.string ⟨#[97]⟩)).heap[w10.heap.size]? = some (.cells #[.slice (some ⟨g2, 0, none⟩) 2 2] 50 (0, 0)) from by
    have hf := HF10.out
    have hz := HZ10.out
    exact ⟨(Below.heap_setCell _ _ _ _ (show b1 ≠ g2 by omega)).trans ((HBX.out.block b1 hz.1).trans HK10.out.1), (Below.heap_setCell _ _ _ _ (show b2 ≠ g2 by omega)).trans ((HBX.out.block b2 hz.2.1).trans HK10.out.2), (Below.heap_setCell _ _ _ _ (show w10.heap.size ≠ g2 by omega)).trans HK11.out⟩)
  have HXR := Lib.hid (row_set (j := 3) HH11.out (.string ⟨#[97]⟩))
  have HBT := Lib.hid (show Below w9.heap.size w9 (w11.setCell ⟨g2, 3, none⟩ (.string ⟨#[97]⟩)) from (Below.step HBS.out HBX.out).setCell (p := ⟨g2, 3, none⟩) HF10.out.1 _)
  have HB12 := Lib.hid (show Below w.heap.size w (w11.setCell ⟨g2, 3, none⟩ (.string ⟨#[97]⟩)) from (Below.step HB10.out HBX.out).setCell (p := ⟨g2, 3, none⟩) (by have := HF10.out; show w.heap.size ≤ g2; omega) _)
  have HG12 := Lib.hid (HG9.out.below HBT.out)
  have HD12 := Lib.hid (HD9.out.below HBT.out)
  have HT12 := Lib.hid (show Ex (w11.setCell ⟨g2, 3, none⟩ (.string ⟨#[97]⟩)) two9 (some ⟨g2, 0, none⟩) 2 [d3, ⟨⟨#[97]⟩, d4.t⟩] from by
    have h1 : d3.df = ⟨⟨#[97]⟩, body9⟩ ∧ d4.df = ⟨⟨#[98]⟩, ⟨[emptyLf], 0⟩⟩ := by
      have h := HX10.out.df
      simp only [List.map_cons, List.map_nil, some9, List.cons.injEq, and_true] at h
      exact h
    have h2 : d4.t.tr = ⟨[emptyLf], 0⟩ := congrArg Df.body h1.2
    refine ⟨⟨⟨row_blk (cs := dfL.all [d3, ⟨⟨#[97]⟩, d4.t⟩]) HXR.out, fun _ _ _ => trivial⟩, fun d hd => ?_⟩, ?_, rfl, by kernel_rfl⟩
    · have hE : ∀ x, x ≠ g2 → x < w10.heap.size → (w11.setCell ⟨g2, 3, none⟩ (.string ⟨#[97]⟩)).heap[x]? = w10.heap[x]? := fun x hx hl => (Below.heap_setCell _ _ _ _ hx).trans (HBX.out.block x hl)
      simp only [List.mem_cons, List.not_mem_nil, or_false] at hd
      rcases hd with rfl | rfl
      · exact dfL.mono (dfL.agree (HI10.out d (by simp)) (fun x hx hl => hE x hx.2 hl)) (fun _ _ _ => trivial)
      · have h3 := dfL.mono (dfL.agree (HI10.out d4 (by simp)) (fun x hx hl => hE x hx.2 hl)) (T := fun _ => True) (fun _ _ _ => trivial)
        exact ⟨by show (⟨#[97]⟩ : ByteArray).size ≤ _; decide, h3.2⟩
    · show [d3.df, Df.mk ⟨#[97]⟩ d4.t.tr] = two9
      rw [h1.1, h2]; rfl)
  have HZ12 := Lib.hid (show w10.heap.size < (w11.setCell ⟨g2, 3, none⟩ (.string ⟨#[97]⟩)).heap.size from (Array.getElem?_eq_some_iff.1 HK12.out.2.2).1)
  clear HXR HBT HG9 HD9 HBS HX10 HI10 HH10 HH11 HK11 HBX HK10 HF10 HB10 hw11
  generalize w11.setCell ⟨g2, 3, none⟩ (.string ⟨#[97]⟩) = W at *
  generalize w10.heap.size = b4 at *
  have HPC := Lib.hid (show ∀ w', Below W.heap.size W w' → CntTab w' from fun w' h => (HP.out.below (Below.step HB12.out h)).cn)
  have HSZ := Lib.hid (show ∀ t : Lt, t.tr = bodyB9 → t.ls.length ≤ 4294967296 ∧ ∀ l ∈ t.ls, l.nd.kids.length ≤ 4294967296 from fun t h => by
    have h1 := small_of (e := [(⟨⟨#[98]⟩, t⟩ : Ld)]) (G := [⟨⟨#[98]⟩, bodyB9⟩]) (by show [Df.mk _ t.tr] = _; rw [h]) (by kernel_rfl)
    exact h1.2.2 ⟨⟨#[98]⟩, t⟩ (List.mem_singleton.2 rfl))
  have HOD := Lib.hid (show ∀ t : Tr, t = bodyB9 → some9.set 1 ⟨(some9[1]?.map Df.name).getD ⟨#[]⟩, t⟩ = odd9 from fun t h => by rw [h]; rfl)
  have HSB := Lib.hid (show ∀ w', Below W.heap.size W w' → w'.cell? ⟨b1, 0, none⟩ = some (.slice (some ⟨g, 0, none⟩) 2 2) from fun w' h => (blk1 (bx_kept h HK12.out.1)).1)
  have HB := Lib.hid (Below.refl W.heap.size W)
  go_cut [5, 6] (fun v5 v6 wx => ∃ (nb : Nat) (V5 : Option Addr) (vc5 : Nat) (e5 : List Ld), v5 = .pointer (some ⟨nb, 0, none⟩) ∧ v6 = .bool true ∧ Hid (wx.heap[nb]? = some (.cells #[.slice V5 2 vc5] 50 (0, 0))) ∧ Hid (Ex wx odd9 V5 2 e5) ∧ Hid (Below W.heap.size W wx))
  case first =>
    go_region_held3 (fun w' => w'.cell? ⟨b1, 0, none⟩ = some (.slice (some ⟨g, 0, none⟩) 2 2))
      (exact HSB.out _ (by first | exact HB.out.setCell (p := ⟨_, 0, none⟩) HXN.out _ | exact HB.out.setCell (p := ⟨_, 0, none⟩) (Nat.le_succ_of_le HXN.out) _ | exact HB.out | exact HB.out.drew | exact below_al HB.out _ | exact below_al HB.out.drew _ | exact below_al (below_al HB.out _) _ | exact below_al (below_al HB.out.drew _) _))
      (first
        | (go_at_call 17; (with_reducible refine (empty_any _).mono ?_); rintro e wa ⟨be, rfl, hto, hb⟩; (first | (have HX' := Lib.hid (bx_kept hb HX.out); clear HX; have HX := HX'; clear HX') | (have HX' := Lib.hid (bx_kept hb (bx_old HX.out)); clear HX; have HX := HX'; clear HX') | (have HX := Lib.hid (bx_kept hb (bx_new2 _ _ (.cells #[.slice none 0 0] 50))); have HXN := Lib.hid HB.out.size) | (have HX := Lib.hid (bx_kept hb (bx_new _ (.cells #[.slice none 0 0] 50))); have HXN := Lib.hid HB.out.size) | (have HX := Lib.hid (bx_kept hb (bx_old (bx_new _ (.cells #[.slice none 0 0] 50)))); have HXN := Lib.hid HB.out.size) | skip); have HB' := Lib.hid (Below.step (by first | exact HB.out | exact HB.out.drew | exact below_al HB.out _ | exact below_al HB.out.drew _ | exact below_al (below_al HB.out _) _ | exact below_al (below_al HB.out.drew _) _) hb); clear HB; have HB := HB'; clear HB'; have HTE := Lib.hid (show ∀ w', Below wa.heap.size wa w' → Lt.inn w' (fun _ => True) ⟨some ⟨be, 0, none⟩, 1, [⟨emptyLf, none, 0⟩], 0⟩ from fun w' h => ((hto.inn).below h).mono (fun _ _ _ => trivial)); clear hto hb)
        | (go_at_call 19; (with_reducible refine (text_any ⟨#[120]⟩ _ (by decide)).mono ?_); rintro e wb ⟨bt, rfl, hto, hb⟩; (first | (have HX' := Lib.hid (bx_kept hb HX.out); clear HX; have HX := HX'; clear HX') | (have HX' := Lib.hid (bx_kept hb (bx_old HX.out)); clear HX; have HX := HX'; clear HX') | (have HX := Lib.hid (bx_kept hb (bx_new2 _ _ (.cells #[.slice none 0 0] 50))); have HXN := Lib.hid HB.out.size) | (have HX := Lib.hid (bx_kept hb (bx_new _ (.cells #[.slice none 0 0] 50))); have HXN := Lib.hid HB.out.size) | (have HX := Lib.hid (bx_kept hb (bx_old (bx_new _ (.cells #[.slice none 0 0] 50)))); have HXN := Lib.hid HB.out.size) | skip); have HB' := Lib.hid (Below.step (by first | exact HB.out | exact HB.out.drew | exact below_al HB.out _ | exact below_al HB.out.drew _ | exact below_al (below_al HB.out _) _ | exact below_al (below_al HB.out.drew _) _) hb); clear HB; have HB := HB'; clear HB'; have HTE' := Lib.hid (show ∀ w', Below wb.heap.size wb w' → Lt.inn w' (fun _ => True) ⟨some ⟨be, 0, none⟩, 1, [⟨emptyLf, none, 0⟩], 0⟩ from fun w' h => HTE.out w' (Below.step (Below.step (by first | exact Below.refl _ _ | exact (Below.refl _ _).drew | exact bx1 _ _ | exact bx2 _ _ _) hb) h)); clear HTE; have HTE := HTE'; clear HTE'; have HTT := Lib.hid (show ∀ w', Below wb.heap.size wb w' → Lt.inn w' (fun _ => True) ⟨some ⟨bt, 0, none⟩, 1, [⟨textLf ⟨#[120]⟩, none, 0⟩], 0⟩ from fun w' h => ((hto.inn).below h).mono (fun _ _ _ => trivial)); clear hto hb)
        | (go_at_call 30; (refine (of9_any seqN (.slice none 0 0) _ 2 [⟨some ⟨be, 0, none⟩, 1, [⟨emptyLf, none, 0⟩], 0⟩, ⟨some ⟨bt, 0, none⟩, 1, [⟨textLf ⟨#[120]⟩, none, 0⟩], 0⟩] (fun _ => True) _ (by refine ⟨?_, ?_, ?_, ?_, ?_, ?_, ?_⟩ <;> first | decide | (simp [seqN, U64])) (by refine ⟨⟨row_blk (cs := [.slice (some ⟨be, 0, none⟩) 1 1, .int .i64 0, .slice (some ⟨bt, 0, none⟩) 1 1, .int .i64 0]) (by first | exact bx_new _ _ | exact bx_old (bx_new _ _) | exact bx_new2 _ _ _), fun _ _ _ => trivial⟩, fun t ht => ?_⟩; simp only [List.mem_cons, List.not_mem_nil, or_false] at ht; rcases ht with rfl | rfl; exact HTE.out _ (by first | exact Below.refl _ _ | exact (Below.refl _ _).drew | exact bx1 _ _ | exact bx2 _ _ _); exact HTT.out _ (by first | exact Below.refl _ _ | exact (Below.refl _ _).drew | exact bx1 _ _ | exact bx2 _ _ _)) (by simp) (by simp) (HPC.out _ (by first | exact HB.out | exact HB.out.drew | exact below_al HB.out _ | exact below_al HB.out.drew _ | exact below_al (below_al HB.out _) _ | exact below_al (below_al HB.out.drew _) _)) okB9).mono ?_); rintro e wc ⟨⟨A5, c5, l5, r5⟩, he, htr, hto, hb⟩; simp only [Lt.val] at he; subst he; (first | (have HX' := Lib.hid (bx_kept hb HX.out); clear HX; have HX := HX'; clear HX') | (have HX' := Lib.hid (bx_kept hb (bx_old HX.out)); clear HX; have HX := HX'; clear HX') | (have HX := Lib.hid (bx_kept hb (bx_new2 _ _ (.cells #[.slice none 0 0] 50))); have HXN := Lib.hid HB.out.size) | (have HX := Lib.hid (bx_kept hb (bx_new _ (.cells #[.slice none 0 0] 50))); have HXN := Lib.hid HB.out.size) | (have HX := Lib.hid (bx_kept hb (bx_old (bx_new _ (.cells #[.slice none 0 0] 50)))); have HXN := Lib.hid HB.out.size) | skip); have HB' := Lib.hid (Below.step (by first | exact HB.out | exact HB.out.drew | exact below_al HB.out _ | exact below_al HB.out.drew _ | exact below_al (below_al HB.out _) _ | exact below_al (below_al HB.out.drew _) _) hb); clear HB; have HB := HB'; clear HB'; have HTR := Lib.hid (show Lt.tr ⟨A5, c5, l5, r5⟩ = bodyB9 from htr); have HTO := Lib.hid (show ∀ w', Below wc.heap.size wc w' → Lt.inn w' (fun _ => True) ⟨A5, c5, l5, r5⟩ from fun w' h => ((hto.inn).below h).mono (fun _ _ _ => trivial)); clear htr hto hb HTE HTT)
        | (go_at_call 35; (refine ((HG12.out.below (by first | exact HB.out | exact HB.out.drew | exact below_al HB.out _ | exact below_al HB.out.drew _ | exact below_al (below_al HB.out _) _ | exact below_al (below_al HB.out.drew _) _)).with 1 (by decide) ⟨A5, c5, l5, r5⟩ (fun _ => True) (HTO.out _ (by first | exact Below.refl _ _ | exact (Below.refl _ _).drew | exact bx1 _ _ | exact bx2 _ _ _)) (HSZ.out _ HTR.out).1 (HSZ.out _ HTR.out).2 (HOD.out _ HTR.out) (by kernel_rfl)).mono ?_); rintro e wd ⟨V5, vc5, e5, rfl, hx, hy, hb⟩; (first | (have HNB := Lib.hid (heap_lt' HX.out)) | (have HNB := Lib.hid (heap_lt' (bx_new wc (.cells #[.slice none 0 0] 50)))) | skip); have HY5 := Lib.hid hy; clear hy; (first | (have HX' := Lib.hid (bx_kept hb HX.out); clear HX; have HX := HX'; clear HX') | (have HX' := Lib.hid (bx_kept hb (bx_old HX.out)); clear HX; have HX := HX'; clear HX') | (have HX := Lib.hid (bx_kept hb (bx_new2 _ _ (.cells #[.slice none 0 0] 50))); have HXN := Lib.hid HB.out.size) | (have HX := Lib.hid (bx_kept hb (bx_new _ (.cells #[.slice none 0 0] 50))); have HXN := Lib.hid HB.out.size) | (have HX := Lib.hid (bx_kept hb (bx_old (bx_new _ (.cells #[.slice none 0 0] 50)))); have HXN := Lib.hid HB.out.size) | skip); have HB' := Lib.hid (Below.step (by first | exact HB.out | exact HB.out.drew | exact below_al HB.out _ | exact below_al HB.out.drew _ | exact below_al (below_al HB.out _) _ | exact below_al (below_al HB.out.drew _) _) hb); clear HB; have HB := HB'; clear HB'; have HX5 := Lib.hid hx; clear hx hb HTR HTO; (first | (have hX9 := blk1 HX.out; obtain ⟨t1, t2⟩ := hX9) | skip))
        | fail)
    all_goals go_wp2_with fail
    all_goals go_meet
    all_goals first
      | exact ⟨_, V5, vc5, e5, rfl, rfl, Lib.hid (bx_new wd _), Lib.hid (HX5.out.below (bx1 wd _)), Lib.hid (below_al HB.out _)⟩
      | (refine ⟨_, V5, vc5, e5, rfl, rfl, Lib.hid (set_blk1 HX.out), Lib.hid ⟨(HY5.out.agree (fun x hx _ => Below.heap_setCell _ _ _ _ ?_)).mono (fun _ _ _ => trivial), HX5.out.df, HX5.out.len, HX5.out.small⟩, Lib.hid (HB.out.setCell (p := ⟨_, 0, none⟩) ?_ _)⟩
         · have h1 := HNB.out
           have hx := hx
           show x ≠ _
           intro e
           subst e
           exact absurd h1 (Nat.not_lt_of_le hx)
         · have h1 := HXN.out
           first | exact h1 | exact Nat.le_succ_of_le h1)
  case rest =>
    obtain ⟨nb, V5, vc5, e5, rfl, rfl, HN, HX5, HBC⟩ := hcut
    have HBW := Lib.hid (Below.step HB12.out HBC.out)
    have HPC8 := Lib.hid (show ∀ w', Below wc.heap.size wc w' → PTabs w' from fun w' h => HP.out.below (Below.step HBW.out h))
    have HM1 := Lib.hid (show ∀ w', Below wc.heap.size wc w' → Ex w' one9 V2 1 e2 from fun w' h => HD12.out.below (Below.step HBC.out h))
    have HM2 := Lib.hid (show ∀ w', Below wc.heap.size wc w' → Ex w' two9 (some ⟨g2, 0, none⟩) 2 [d3, ⟨⟨#[97]⟩, d4.t⟩] from fun w' h => HT12.out.below (Below.step HBC.out h))
    have HM3 := Lib.hid (show ∀ w', Below wc.heap.size wc w' → Ex w' some9 (some ⟨g, 0, none⟩) 2 [d1, d2] from fun w' h => HG12.out.below (Below.step HBC.out h))
    have HM5 := Lib.hid (show ∀ w', Below wc.heap.size wc w' → Ex w' odd9 V5 2 e5 from fun w' h => HX5.out.below h)
    have HM0 := Lib.hid (show ∀ w', Below wc.heap.size wc w' → Ex w' [] none 0 [] from fun w' _ => ⟨Lay.row.nil _ _ _, rfl, rfl, by kernel_rfl⟩)
    have HS8 := Lib.hid (show ∀ w', Below wc.heap.size wc w' → w'.cell? ⟨b1, 0, none⟩ = some (.slice (some ⟨g, 0, none⟩) 2 2) ∧ w'.cell? ⟨b2, 0, none⟩ = some (.slice V2 1 vc2) ∧ w'.cell? ⟨b4, 0, none⟩ = some (.slice (some ⟨g2, 0, none⟩) 2 2) ∧ w'.cell? ⟨nb, 0, none⟩ = some (.slice V5 2 vc5) from fun w' h => ⟨HSB.out w' (Below.step HBC.out h), (blk1 (bx_kept (Below.step HBC.out h) HK12.out.2.1)).1, (blk1 (bx_kept (Below.step HBC.out h) HK12.out.2.2)).1, (blk1 (bx_kept h HN.out)).1⟩)
    clear HB
    have HB := Lib.hid (Below.refl wc.heap.size wc)
    go_upto_region 8 with (fail)
    go_region_held3 (fun w' => w'.cell? ⟨b1, 0, none⟩ = some (.slice (some ⟨g, 0, none⟩) 2 2) ∧ w'.cell? ⟨b2, 0, none⟩ = some (.slice V2 1 vc2) ∧ w'.cell? ⟨b4, 0, none⟩ = some (.slice (some ⟨g2, 0, none⟩) 2 2) ∧ w'.cell? ⟨nb, 0, none⟩ = some (.slice V5 2 vc5))
      (exact HS8.out _ (by first | exact HB.out | exact HB.out.drew))
      (first
        | (go_at_call 32; (with_reducible refine ((HM1.out _ (by first | exact HB.out | exact HB.out.drew)).may (HPC8.out _ (by first | exact HB.out | exact HB.out.drew)) may91).mono ?_); rintro e wx ⟨rfl, hb⟩; have HB' := Lib.hid (Below.step (by first | exact HB.out | exact HB.out.drew) hb); clear HB; have HB := HB'; clear HB' hb)
        | (go_at_call 32; (with_reducible refine ((HM2.out _ (by first | exact HB.out | exact HB.out.drew)).may (HPC8.out _ (by first | exact HB.out | exact HB.out.drew)) may92).mono ?_); rintro e wx ⟨rfl, hb⟩; have HB' := Lib.hid (Below.step (by first | exact HB.out | exact HB.out.drew) hb); clear HB; have HB := HB'; clear HB' hb)
        | (go_at_call 32; (with_reducible refine ((HM5.out _ (by first | exact HB.out | exact HB.out.drew)).may (HPC8.out _ (by first | exact HB.out | exact HB.out.drew)) may93).mono ?_); rintro e wx ⟨rfl, hb⟩; have HB' := Lib.hid (Below.step (by first | exact HB.out | exact HB.out.drew) hb); clear HB; have HB := HB'; clear HB' hb)
        | (go_at_call 32; (with_reducible refine ((HM0.out _ (by first | exact HB.out | exact HB.out.drew)).may (HPC8.out _ (by first | exact HB.out | exact HB.out.drew)) may90).mono ?_); rintro e wx ⟨rfl, hb⟩; have HB' := Lib.hid (Below.step (by first | exact HB.out | exact HB.out.drew) hb); clear HB; have HB := HB'; clear HB' hb)
        | (go_at_call 34; (with_reducible refine (some_ex _ (HPC8.out _ (by first | exact HB.out | exact HB.out.drew)).cn).mono ?_); rintro e wx ⟨g6, d5, d6, rfl, hx, -, -, -, hb⟩; have HB' := Lib.hid (Below.step (by first | exact HB.out | exact HB.out.drew) hb); clear HB; have HB := HB'; clear HB' hb; have HM6 := Lib.hid hx; clear hx)
        | (go_at_call 39; (with_reducible refine (((HM3.out _ (by first | exact HB.out | exact HB.out.drew)).same HM6.out (HPC8.out _ (by first | exact HB.out | exact HB.out.drew)) same90).mono ?_)); rintro e wx ⟨rfl, hb⟩; have HB' := Lib.hid (Below.step (by first | exact HB.out | exact HB.out.drew) hb); clear HB; have HB := HB'; clear HB' hb)
        | (go_at_call 39; (with_reducible refine (((HM3.out _ (by first | exact HB.out | exact HB.out.drew)).same (HM1.out _ (by first | exact HB.out | exact HB.out.drew)) (HPC8.out _ (by first | exact HB.out | exact HB.out.drew)) same91).mono ?_)); rintro e wx ⟨rfl, hb⟩; have HB' := Lib.hid (Below.step (by first | exact HB.out | exact HB.out.drew) hb); clear HB; have HB := HB'; clear HB' hb)
        | fail)
    go_wp2_with fail
    go_ret
    exact ⟨rfl, Below.step HBW.out HB.out⟩
end Go.Proofs.YtdcgbcdmkhleoaaDoor
