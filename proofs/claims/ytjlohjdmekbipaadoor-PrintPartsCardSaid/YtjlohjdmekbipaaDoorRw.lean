/- The contracts of tree.Clean and tree.Root (for a tree that is right). -/
import Derived.Test.YtjlohjdmekbipaaDoorIm
namespace Go.Proofs.YtjlohjdmekbipaaDoor
open Go.RowKit
set_option linter.unusedSimpArgs false
set_option linter.unusedVariables false

set_option maxRecDepth 100000 in
set_option maxHeartbeats 3200000 in
theorem clean_any (A : Option Addr) (c : Nat) (ls : List Ln) (root : Nat) (S : Nat → Prop) (w : World) (hT : ndL.row w S A ls) (hl : ls.length ≤ 16777216) (ht : CntTab w) (hr : rightP ⟨ls.map Ln.nd, root⟩) :
    Calls Tryd.prog 71 #[.agg #[.slice A ls.length c, .int .i64 root]] w (TreePost (takenT ⟨ls.map Ln.nd, root⟩ root) w) := by
  have hn : root < ls.length := by have h := hr.1.2; simp only [List.length_map] at h; omega
  have HB0 := Lib.hid (bx2 w (.cells #[.slice A ls.length c, .int .i64 root] 24) (.cells #[.slice none 0 0, .int .i64 0] 24))
  have HK0 := Lib.hid (bx_old (p := .cells #[.slice none 0 0, .int .i64 0] 24) (bx_new w (.cells #[.slice A ls.length c, .int .i64 root] 24)))
  have HR0 := bx_new (w.alloc (.cells #[.slice A ls.length c, .int .i64 root] 24)) (.cells #[.slice none 0 0, .int .i64 0] 24)
  rw [World.size_alloc] at HR0
  have HR0 := Lib.hid HR0
  have HZ0 := Lib.hid (show w.heap.size + 2 ≤ ((w.alloc (.cells #[.slice A ls.length c, .int .i64 root] 24)).alloc (.cells #[.slice none 0 0, .int .i64 0] 24)).heap.size from by simp)
  have HT := Lib.hid hT; have HC := Lib.hid ht; have HRP := Lib.hid hr
  have HRT := Lib.hid ((rightT_iff _).2 hr)
  clear hT ht hr
  unfold TreePost
  go_enter Tryd.func71, Tryd.ntmps71
  go_wp2_with fail
  refine (right_any A c ls root S _ (HT.out.below HB0.out) (by omega) (HC.out.below HB0.out)).mono ?_
  rw [HRT.out]
  rintro e w1 ⟨rfl, hb⟩
  have HB1 := Lib.hid (Below.step HB0.out hb); have HK1 := Lib.hid (bx_kept hb HK0.out); have HR1 := Lib.hid (bx_kept hb HR0.out)
  have HZ1 := Lib.hid (show w.heap.size + 2 ≤ w1.heap.size from by have := hb.size; have := HZ0.out; omega)
  clear hb HB0 HK0 HR0 HZ0
  obtain ⟨s1, s2, _, _⟩ := blk2 HK1.out
  go_wp2_with fail
  refine (taken_any A c ls root root S w1 (HT.out.below HB1.out) (by omega) HRP.out hn).mono ?_
  rintro e w2 ⟨⟨A1, c1, l1, r1⟩, he, htr, hto, hb⟩
  simp only [Lt.val] at he; subst he
  have HTR := Lib.hid htr; have HTO := Lib.hid hto; have HB2 := Lib.hid (Below.step HB1.out hb); have HR2 := Lib.hid (bx_kept hb HR1.out)
  clear htr hto hb s1 s2
  obtain ⟨t1, t2, t3, t4⟩ := blk2 HR2.out
  go_wp2_with fail
  refine bodyPost_ret (v := .agg #[.slice A1 l1.length c1, .int .i64 r1]) (by simp [results, Tryd.results71, go_sem, t1, t2]) rfl ?_
  have hz := HZ1.out
  refine ⟨⟨A1, c1, l1, r1⟩, rfl, HTR.out, ?_, (HB2.out.setCell (p := ⟨w.heap.size + 1, 0, none⟩) (by simp) _).setCell (p := ⟨w.heap.size + 1, 1, none⟩) (by simp) _⟩
  refine (HTO.out.agree (fun x hx hx2 => ?_)).mono (fun x _ hx => ?_)
  · have hx : w1.heap.size ≤ x := by assumption
    exact (Below.heap_setCell _ _ _ _ (by show x ≠ w.heap.size + 1; omega)).trans (Below.heap_setCell _ _ _ _ (by show x ≠ w.heap.size + 1; omega))
  · have hx : w1.heap.size ≤ x := hx
    show w.heap.size ≤ x; omega

set_option maxRecDepth 100000 in
set_option maxHeartbeats 3200000 in
theorem root_any (A : Option Addr) (c : Nat) (ls : List Ln) (root : Nat) (S : Nat → Prop) (w : World) (hT : ndL.row w S A ls) (hl : ls.length ≤ 16777216) (ht : CntTab w) (hr : rightP ⟨ls.map Ln.nd, root⟩) (hn : root < ls.length) :
    Calls Tryd.prog 34 #[.agg #[.slice A ls.length c, .int .i64 root]] w fun e w' => e = .returned (ndV ls[root].nd (.slice none 0 0)) ∧ Below w.heap.size w w' := by
  have HB0 := Lib.hid (bx2 w (.cells #[.slice A ls.length c, .int .i64 root] 24) (.cells #[.int .u8 0, .int .u64 0, .int .u64 0, .int .u64 0, .int .u64 0, .string ByteArray.empty, .int .i64 0, .int .i64 0, .slice none 0 0] 51))
  have HK0 := Lib.hid (bx_old (p := .cells #[.int .u8 0, .int .u64 0, .int .u64 0, .int .u64 0, .int .u64 0, .string ByteArray.empty, .int .i64 0, .int .i64 0, .slice none 0 0] 51) (bx_new w (.cells #[.slice A ls.length c, .int .i64 root] 24)))
  have HR0 := bx_new (w.alloc (.cells #[.slice A ls.length c, .int .i64 root] 24)) (.cells #[.int .u8 0, .int .u64 0, .int .u64 0, .int .u64 0, .int .u64 0, .string ByteArray.empty, .int .i64 0, .int .i64 0, .slice none 0 0] 51)
  rw [World.size_alloc] at HR0
  have HR0 := Lib.hid HR0
  have HZ0 := Lib.hid (show w.heap.size + 2 ≤ ((w.alloc (.cells #[.slice A ls.length c, .int .i64 root] 24)).alloc (.cells #[.int .u8 0, .int .u64 0, .int .u64 0, .int .u64 0, .int .u64 0, .string ByteArray.empty, .int .i64 0, .int .i64 0, .slice none 0 0] 51)).heap.size from by simp)
  have HT := Lib.hid hT; have HC := Lib.hid ht
  have HRT := Lib.hid ((rightT_iff _).2 hr)
  clear hT ht hr
  generalize hnn : ls[root] = n
  have HNN := Lib.hid hnn
  obtain ⟨⟨kd, a0, a1, a2, a3, tx, mn, mx, ki⟩, KA, Kc⟩ := n
  clear hnn
  go_enter Tryd.func34, Tryd.ntmps34
  go_wp2_with fail
  refine (right_any A c ls root S _ (HT.out.below HB0.out) (by omega) (HC.out.below HB0.out)).mono ?_
  rw [HRT.out]
  rintro e w1 ⟨rfl, hb⟩
  have HB1 := Lib.hid (Below.step HB0.out hb); have HK1 := Lib.hid (bx_kept hb HK0.out); have HR1 := Lib.hid (bx_kept hb HR0.out)
  have HZ1 := Lib.hid (show w.heap.size + 2 ≤ w1.heap.size from by have := hb.size; have := HZ0.out; omega)
  clear hb HB0 HK0 HR0 HZ0
  obtain ⟨s1, s2, _, _⟩ := blk2 HK1.out
  obtain ⟨b, o, rfl, hSb, hlt, x0, x1, x2, x3, x4, x5, x6, x7, x8⟩ := ndRow (HT.out.below HB1.out) root hn
  have i1 : (root : Int) < (ls.length : Int) := by omega
  have i2 : (0 : Int) ≤ (root : Int) := by omega
  simp only [HNN.out] at x0 x1 x2 x3 x4 x5 x6 x7 x8
  have HBL := Lib.hid hlt
  have HNS := Lib.hid (bx_new w1 (.cells #[.int .u8 kd, .int .u64 a0, .int .u64 a1, .int .u64 a2, .int .u64 a3, .string tx, .int .i64 mn, .int .i64 mx, .slice none 0 0] 51))
  have HR3 := Lib.hid (bx_old (p := (.cells #[.int .u8 kd, .int .u64 a0, .int .u64 a1, .int .u64 a2, .int .u64 a3, .string tx, .int .i64 mn, .int .i64 mx, .slice none 0 0] 51)) HR1.out)
  have HB3 := Lib.hid (HB1.out.alloc HB1.out.size (.cells #[.int .u8 kd, .int .u64 a0, .int .u64 a1, .int .u64 a2, .int .u64 a3, .string tx, .int .i64 mn, .int .i64 mx, .slice none 0 0] 51))
  go_upto_region 5 with (fail)
  generalize w1.alloc (.cells #[.int .u8 kd, .int .u64 a0, .int .u64 a1, .int .u64 a2, .int .u64 a3, .string tx, .int .i64 mn, .int .i64 mx, .slice none 0 0] 51) = W2 at *
  obtain ⟨n0, n1, n2, n3, n4, n5, n6, n7, n8, _⟩ := blk9 HNS.out
  obtain ⟨m0, m1, m2, m3, m4, m5, m6, m7, m8, f0, f1, f2, f3, f4, f5, f6, f7, f8⟩ := blk9 HR3.out
  clear x0 x1 x2 x3 x4 x5 x6 x7 x8 HR1 HK1
  go_wp2_with fail
  refine bodyPost_ret (v := .agg #[.int .u8 kd, .int .u64 a0, .int .u64 a1, .int .u64 a2, .int .u64 a3, .string tx, .int .i64 mn, .int .i64 mx, .slice none 0 0]) (by simp [results, Tryd.results34, go_sem, m0, m1, m2, m3, m4, m5, m6, m7, m8]) rfl ?_
  refine ⟨rfl, ?_⟩
  have hb9 : ∀ (u : World) (k : Nat) (v : Value), Below w.heap.size w u → Below w.heap.size w (u.setCell ⟨w.heap.size + 1, k, none⟩ v) := fun u k v h => h.setCell (p := ⟨w.heap.size + 1, k, none⟩) (by simp) v
  exact hb9 _ 8 _ (hb9 _ 7 _ (hb9 _ 6 _ (hb9 _ 5 _ (hb9 _ 4 _ (hb9 _ 3 _ (hb9 _ 2 _ (hb9 _ 1 _ (hb9 _ 0 _ HB3.out))))))))
end Go.Proofs.YtjlohjdmekbipaaDoor
