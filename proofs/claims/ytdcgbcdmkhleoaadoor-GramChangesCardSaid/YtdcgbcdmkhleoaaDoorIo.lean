/- The contracts of tree.Rule and tree.Empty; of a node and its kids, as the examples put them together. -/
import Derived.Test.YtdcgbcdmkhleoaaDoorDw
import Derived.Test.YtdcgbcdmkhleoaaDoorIm
namespace Go.Proofs.YtdcgbcdmkhleoaaDoor
open Go.RowKit
set_option linter.unusedSimpArgs false
set_option linter.unusedVariables false

/-- A tree of one node, just made. -/
def LeafPost (n : Nd) (w : World) (e : Ending) (w' : World) : Prop := ∃ b, e = .returned (.agg #[.slice (some ⟨b, 0, none⟩) 1 1, .int .i64 0]) ∧ TreeOwn w' (w.heap.size ≤ ·) ⟨some ⟨b, 0, none⟩, 1, [⟨n, none, 0⟩], 0⟩ ∧ Below w.heap.size w w'
def ruleLf (s : ByteArray) : Nd := ⟨3, 0, 0, 0, 0, s, 0, 0, []⟩
def emptyLf : Nd := ⟨0, 0, 0, 0, 0, ⟨#[]⟩, 0, 0, []⟩
set_option maxRecDepth 100000 in
set_option maxHeartbeats 1600000 in
theorem rule_any (s : ByteArray) (w : World) (hs : s.size ≤ 281474976710656) :
    Calls Tryd.prog 16 #[.string s] w (LeafPost (ruleLf s) w) := by
  unfold LeafPost
  have HWF := Lib.hid (show (ruleLf s).wf from ⟨by simp [ruleLf], hs, by simp [ruleLf], by simp [ruleLf, U64], by simp [ruleLf, U64], by simp [ruleLf, U64], by simp [ruleLf, U64]⟩)
  go_enter Tryd.func16, Tryd.ntmps16
  go_wp2_with (go_at_call 60; refine (leaf_any (ruleLf s) _ HWF.out rfl).mono ?_; rintro e w1 ⟨b, rfl, ht, hb⟩; have HT := Lib.hid ht; have HB := Lib.hid hb; obtain ⟨t1, t2, t3, t4⟩ := blk2 (bx_kept hb (bx_new w _)); clear ht hb)
  refine bodyPost_ret (v := .agg #[.slice (some ⟨b, 0, none⟩) 1 1, .int .i64 0]) (by simp [results, Tryd.results16, go_sem, t1, t2]) rfl ?_
  refine ⟨b, rfl, (HT.out.agree (fun x hx _ => ?_)).mono (fun x _ hx => ?_), ((Below.step (bx1 w _) HB.out).setCell (p := ⟨w.heap.size, 0, none⟩) (Nat.le_refl _) _).setCell (p := ⟨w.heap.size, 1, none⟩) (Nat.le_refl _) _⟩
  · have hx : (w.alloc _).heap.size ≤ x := hx
    rw [World.size_alloc] at hx
    exact (Below.heap_setCell _ _ _ _ (by show x ≠ w.heap.size; omega)).trans (Below.heap_setCell _ _ _ _ (by show x ≠ w.heap.size; omega))
  · have hx : (w.alloc _).heap.size ≤ x := hx
    rw [World.size_alloc] at hx
    show w.heap.size ≤ x; omega
set_option maxRecDepth 100000 in
set_option maxHeartbeats 1600000 in
theorem empty_any (w : World) :
    Calls Tryd.prog 17 #[] w (LeafPost emptyLf w) := by
  unfold LeafPost
  have HWF := Lib.hid (show emptyLf.wf from ⟨by simp [emptyLf], by simp [emptyLf]; decide, by simp [emptyLf], by simp [emptyLf, U64], by simp [emptyLf, U64], by simp [emptyLf, U64], by simp [emptyLf, U64]⟩)
  go_enter Tryd.func17, Tryd.ntmps17
  go_wp2_with (go_at_call 60; refine (leaf_any emptyLf _ HWF.out rfl).mono ?_; rintro e w1 ⟨b, rfl, ht, hb⟩; have HT := Lib.hid ht; have HB := Lib.hid hb; obtain ⟨t1, t2, t3, t4⟩ := blk2 (bx_kept hb (bx_new w _)); clear ht hb)
  refine bodyPost_ret (v := .agg #[.slice (some ⟨b, 0, none⟩) 1 1, .int .i64 0]) (by simp [results, Tryd.results17, go_sem, t1, t2]) rfl ?_
  refine ⟨b, rfl, (HT.out.agree (fun x hx _ => ?_)).mono (fun x _ hx => ?_), ((Below.step (bx1 w _) HB.out).setCell (p := ⟨w.heap.size, 0, none⟩) (Nat.le_refl _) _).setCell (p := ⟨w.heap.size, 1, none⟩) (Nat.le_refl _) _⟩
  · have hx : (w.alloc _).heap.size ≤ x := hx
    rw [World.size_alloc] at hx
    exact (Below.heap_setCell _ _ _ _ (by show x ≠ w.heap.size; omega)).trans (Below.heap_setCell _ _ _ _ (by show x ≠ w.heap.size; omega))
  · have hx : (w.alloc _).heap.size ≤ x := hx
    rw [World.size_alloc] at hx
    show w.heap.size ≤ x; omega

set_option maxRecDepth 100000 in
set_option maxHeartbeats 3200000 in
theorem of9_any (n : Nd) (K : Value) (L : Option Addr) (lc : Nat) (ks : List Lt) (S : Nat → Prop) (w : World) (hn : n.wf) (hL : ttL.row w S L ks) (hl : ks.length ≤ 16777216) (hsum : (ks.map fun t => t.ls.length).sum ≤ 16777216) (ht : CntTab w) (hok : okT n (ks.map Lt.tr) = true) :
    Calls Tryd.prog 30 #[ndV n K, .slice L ks.length lc] w (TreePost (ofT n (ks.map Lt.tr)) w) := by
  have HB0 := Lib.hid (bx2 w (.cells #[.int .u8 n.kind, .int .u64 n.s0, .int .u64 n.s1, .int .u64 n.s2, .int .u64 n.s3, .string n.text, .int .i64 n.mn, .int .i64 n.mx, K] 41) (.cells #[.slice none 0 0, .int .i64 0] 24))
  have hk := bx_new (w.alloc (.cells #[.int .u8 n.kind, .int .u64 n.s0, .int .u64 n.s1, .int .u64 n.s2, .int .u64 n.s3, .string n.text, .int .i64 n.mn, .int .i64 n.mx, K] 41)) (.cells #[.slice none 0 0, .int .i64 0] 24)
  rw [World.size_alloc] at hk
  have HK0 := Lib.hid hk; clear hk
  have HC := Lib.hid (oft_any n K L lc ks S _ hn (hL.below HB0.out) hl hsum (ht.below HB0.out))
  have HOK := Lib.hid hok
  clear hn hL hsum ht hok
  unfold TreePost
  go_enter Tryd.func30, Tryd.ntmps30
  go_wp2_with fail
  refine HC.out.mono ?_
  rintro e w1 ⟨h1, -⟩
  obtain ⟨⟨A, c, ls, root⟩, he, htr, hto, hb⟩ := h1 HOK.out
  simp only [Lt.val] at he; subst he
  have HTR := Lib.hid htr; have HTO := Lib.hid hto; have HB1 := Lib.hid (Below.step HB0.out hb); have HK1 := Lib.hid (bx_kept hb HK0.out)
  have HZ := Lib.hid (show w.heap.size + 2 ≤ w1.heap.size ∧ ∀ x, (((w.alloc (.cells #[.int .u8 n.kind, .int .u64 n.s0, .int .u64 n.s1, .int .u64 n.s2, .int .u64 n.s3, .string n.text, .int .i64 n.mn, .int .i64 n.mx, K] 41)).alloc (.cells #[.slice none 0 0, .int .i64 0] 24)).heap.size ≤ x ↔ w.heap.size + 2 ≤ x) from ⟨by have := hb.size; simp at this; omega, fun x => by simp⟩)
  clear h1 htr hto hb HB0 HK0 HC
  have HN := Lib.hid (bx_new w1 (.cells #[.slice A ls.length c, .int .i64 root] 24))
  obtain ⟨q1, q2, _, _⟩ := blk2 HN.out
  obtain ⟨t1, t2, t3, t4⟩ := blk2 (bx_old (p := .cells #[.slice A ls.length c, .int .i64 root] 24) HK1.out)
  go_wp2_with fail
  refine bodyPost_ret (v := .agg #[.slice A ls.length c, .int .i64 root]) (by simp [results, Tryd.results30, go_sem, t1, t2]) rfl ?_
  refine ⟨⟨A, c, ls, root⟩, rfl, HTR.out, ?_, ?_⟩
  · have h := HTO.out.below (bx1 w1 (.cells #[.slice A ls.length c, .int .i64 root] 24))
    refine (h.agree (fun x hx _ => ?_)).mono (fun x _ hx => ?_)
    · have hx := (HZ.out.2 x).1 hx
      exact (Below.heap_setCell _ _ _ _ (by show x ≠ w.heap.size + 1; omega)).trans (Below.heap_setCell _ _ _ _ (by show x ≠ w.heap.size + 1; omega))
    · have hx := (HZ.out.2 x).1 hx
      show w.heap.size ≤ x; omega
  · exact ((HB1.out.alloc (by have := HZ.out.1; omega) _).setCell (p := ⟨w.heap.size + 1, 0, none⟩) (by simp) _).setCell (p := ⟨w.heap.size + 1, 1, none⟩) (by simp) _
end Go.Proofs.YtdcgbcdmkhleoaaDoor
