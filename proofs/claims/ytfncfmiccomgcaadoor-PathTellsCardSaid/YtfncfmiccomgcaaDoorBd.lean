/- The contract of the law's works: the examples are as they are told. -/
import Derived.Test.YtfncfmiccomgcaaDoorBc
import Derived.Test.YtfncfmiccomgcaaDoorEg
import Derived.Deep.DeepCutAuto
import Derived.Deep.Cut
import Derived.Deep.CutRange
namespace Go.Proofs.YtfncfmiccomgcaaDoor
open Go.RowKit
set_option linter.unusedSimpArgs false
set_option linter.unusedVariables false

theorem below_al18 {B : Nat} {w w' : World} (h : Below B w w') (o : Obj) (hz : B ≤ w.heap.size) : Below B w (w'.alloc o) := h.alloc (Nat.le_trans hz h.size) o
theorem ints_row {w : World} {p : List Int} {nb : Nat} (hh : w.heap[nb]? = some (.cells (p.map (Value.int .i64)).toArray 3 (0, 0))) : intL.row w (fun _ => True) (some ⟨nb, 0, none⟩) p :=
  ⟨⟨by rw [intL_all]; exact row_blk hh, fun _ _ _ => trivial⟩, fun _ _ => trivial⟩
theorem at18_row {T : Tr} {v : Lt} {w : World} (h : TY w T v) (p : List Int) (nb n m : Nat) (hh : w.heap[nb]? = some (.cells (p.map (Value.int .i64)).toArray 3 (0, 0))) (hn : p.length = n) (hp : p.length ≤ 1000) (ht : CntTab w) :
    Calls Tryd.prog 9 #[.agg #[.slice v.A v.ls.length v.c, .int .i64 v.root], .slice (some ⟨nb, 0, none⟩) n m] w (AtPost T p w) := by
  subst hn
  have h1 := at_any v.A v.c v.ls v.root (some ⟨nb, 0, none⟩) m p _ _ w h.inn.2 (ints_row hh) (by have := h.len.1; omega) (by omega) ht
  rw [← h.tr]; exact h1
theorem put18_row {T X : Tr} {v x : Lt} {w : World} (h : TY w T v) (hx : TY w X x) (p : List Int) (nb n m : Nat) (hh : w.heap[nb]? = some (.cells (p.map (Value.int .i64)).toArray 3 (0, 0))) (hn : p.length = n) (hp : p.length ≤ 1000) (ht : CntTab w) :
    Calls Tryd.prog 11 #[.agg #[.slice v.A v.ls.length v.c, .int .i64 v.root], .slice (some ⟨nb, 0, none⟩) n m, .agg #[.slice x.A x.ls.length x.c, .int .i64 x.root]] w (PutPost T p X w) := by
  subst hn
  have h1 := put_any v.A v.c v.ls v.root (some ⟨nb, 0, none⟩) m p x.A x.c x.ls x.root _ _ _ w h.inn.2 (ints_row hh) hx.inn.2 (by have := h.len.1; have := hx.len.1; omega) (by omega) ht
  rw [← h.tr, ← hx.tr]; exact h1
theorem exact18 {w : World} {T : Tr} {a b : Lt} (ha : TY w T a) (hb : TY w T b) :
    Calls Tryd.prog 13 #[.agg #[.slice a.A a.ls.length a.c, .int .i64 a.root], .agg #[.slice b.A b.ls.length b.c, .int .i64 b.root]] w fun e w' => e = .returned (.bool true) ∧ Below w.heap.size w w' := by
  have e : a.tr = b.tr := ha.tr.trans hb.tr.symm
  have e1 : a.root = b.root := congrArg Tr.root e
  rw [e1]
  exact exact4_any a.A b.A a.c b.c a.ls b.ls b.root _ _ w ha.inn.2 hb.inn.2 (congrArg Tr.nodes e) (by have := ha.len.1; omega)
theorem got_tup {R : Tr} {w w' : World} {e : Ending} (h : GotPost R w e w') (hs : smallTy R = true) : ∃ A c ls r, e = .returned (.tuple #[.agg #[.slice A ls.length c, .int .i64 r], .bool true]) ∧ TY w' R ⟨A, c, ls, r⟩ ∧ Below w.heap.size w w' := by
  obtain ⟨⟨A, c, ls, r⟩, rfl, h1, h2, h3⟩ := h
  exact ⟨A, c, ls, r, rfl, .own h2 h1 hs, h3⟩
theorem at_yes {T R : Tr} {p : List Int} {w w' : World} {e : Ending} (h : (atT T p).map treeOf = some R) (hs : smallTy R = true) (hq : AtPost T p w e w') : ∃ A c ls r, e = .returned (.tuple #[.agg #[.slice A ls.length c, .int .i64 r], .bool true]) ∧ TY w' R ⟨A, c, ls, r⟩ ∧ Below w.heap.size w w' := by
  obtain ⟨y, h1, rfl⟩ := Option.map_eq_some_iff.1 h
  exact got_tup (hq.1 y h1) hs
theorem put_yes {T R X : Tr} {p : List Int} {w w' : World} {e : Ending} (h : (putT T p X).map (fun y => treeOf (makeTT y)) = some R) (hs : smallTy R = true) (hq : PutPost T p X w e w') : ∃ A c ls r, e = .returned (.tuple #[.agg #[.slice A ls.length c, .int .i64 r], .bool true]) ∧ TY w' R ⟨A, c, ls, r⟩ ∧ Below w.heap.size w w' := by
  obtain ⟨y, h1, rfl⟩ := Option.map_eq_some_iff.1 h
  exact got_tup (hq.1 y h1) hs
abbrev pq18 : Tr := ofT (kind18 4) [one18 (ruleLf ⟨#[112]⟩), one18 (ruleLf ⟨#[113]⟩)]
abbrev pqc18 : Tr := ofT (kind18 4) [one18 (ruleLf ⟨#[112]⟩), one18 (ruleLf ⟨#[113]⟩), cho18]
theorem row18c {w : World} {a b c : Lt} {S T U : Tr} (ha : TY w S a) (hb : TY w T b) (hc : TY w U c) : ∀ t ∈ [a, b, c], ∃ T, TY w T t := fun t ht => by
  simp only [List.mem_cons, List.not_mem_nil, or_false] at ht
  rcases ht with rfl | rfl | rfl
  · exact ⟨_, ha⟩
  · exact ⟨_, hb⟩
  · exact ⟨_, hc⟩
theorem okpqc18 : okT (kind18 4) [one18 (ruleLf ⟨#[112]⟩), one18 (ruleLf ⟨#[113]⟩), cho18] = true := by kernel_rfl
theorem smpqc18 : smallTy pqc18 = true := by kernel_rfl
theorem of18_three {n : Nd} {a b c : Lt} {S T U : Tr} {w : World} (hn : n.wf) (ha : TY w S a) (hb : TY w T b) (hc : TY w U c) (hok : okT n [S, T, U] = true) (hs : smallTy (ofT n [S, T, U]) = true) :
    Calls Tryd.prog 23 #[ndV n (.slice none 0 0), .slice (some ⟨w.heap.size, 0, none⟩) 3 3] (w.alloc (.cells #[.slice a.A a.ls.length a.c, .int .i64 a.root, .slice b.A b.ls.length b.c, .int .i64 b.root, .slice c.A c.ls.length c.c, .int .i64 c.root] 24)) fun e w' => ∃ A k ls r, e = .returned (.agg #[.slice A ls.length k, .int .i64 r]) ∧ TY w' (ofT n [S, T, U]) ⟨A, k, ls, r⟩ ∧ Below w.heap.size w w' := by
  have h1 := bx1 w (.cells #[.slice a.A a.ls.length a.c, .int .i64 a.root, .slice b.A b.ls.length b.c, .int .i64 b.root, .slice c.A c.ls.length c.c, .int .i64 c.root] 24)
  refine (of18_row n [a, b, c] [S, T, U] w.heap.size _ hn (bx_new w _) (by simp only [List.map_cons, List.map_nil]; rw [ha.tr, hb.tr, hc.tr]) (row18c (ha.below h1) (hb.below h1) (hc.below h1)) (by simp) hok hs (.slice none 0 0) 3 3 rfl).mono ?_
  rintro e w' ⟨⟨A, k, ls, r⟩, rfl, h2, -, h3⟩
  exact ⟨A, k, ls, r, rfl, h2, Below.step h1 h3⟩
set_option maxRecDepth 100000 in
set_option maxHeartbeats 12800000 in
theorem works18_any (w : World) (ht : CntTab w) : Calls Tryd.prog 7 #[] w fun e w' => e = .returned (.bool true) ∧ Below w.heap.size w w' := by
  have HT := Lib.hid ht; clear ht
  go_enter Tryd.func7, Tryd.ntmps7
  go_wp2_with fail
  have HB := Lib.hid (Below.refl w.heap.size w)
  refine (some18_any _).mono ?_
  rintro e w1 ⟨⟨A1, c1, l1, r1⟩, rfl, ht1, -, hb1⟩
  simp only
  have HT1 := Lib.hid ht1; have HB1 := Lib.hid hb1; clear ht1 hb1
  have HNA := Lib.hid (bx1 w1 (.cells #[.int .i64 1, .int .i64 0] 3))
  have HNB := Lib.hid (bx_new w1 (.cells #[.int .i64 1, .int .i64 0] 3))
  go_wp2_with fail
  generalize w1.alloc (.cells #[.int .i64 1, .int .i64 0] 3) = w2 at *
  have HB2 := Lib.hid (Below.step HB1.out HNA.out); have HT2 := Lib.hid (HT1.out.below HNA.out); clear HT1 HNA HB1
  refine (at18_row (v := ⟨A1, c1, l1, r1⟩) HT2.out [1, 0] w1.heap.size 2 2 HNB.out rfl (by decide) (HT.out.below (Below.step HB.out HB2.out))).mono ?_
  rintro e w7 hq
  obtain ⟨A1r, c1r, l1r, r1r, rfl, ht7, hb7⟩ := at_yes at18a (by kernel_rfl) hq
  have HR := Lib.hid (Below.step (Below.step HB2.out hb7) (bx1 w7 (.cells #[.slice A1r l1r.length c1r, .int .i64 r1r] 24)))
  have hk1 := bx_new w7 (.cells #[.slice A1r l1r.length c1r, .int .i64 r1r] 24)
  have HV1 := Lib.hid (ht7.below (bx1 w7 (.cells #[.slice A1r l1r.length c1r, .int .i64 r1r] 24))); clear ht7
  go_upto_region 2 with (fail)
  generalize w7.alloc (.cells #[.slice A1r l1r.length c1r, .int .i64 r1r] 24) = W1 at *
  generalize w7.heap.size = p1 at *
  have HK1 := Lib.hid hk1; clear hk1
  have HB' := Lib.hid (Below.step HB.out HR.out); clear HB; have HB := HB'; clear HB' HR hq hb7 HT2 HB2 HNB
  go_wp2_with fail
  refine (some18_any _).mono ?_
  rintro e w1 ⟨⟨A1, c1, l1, r1⟩, rfl, ht1, -, hb1⟩
  simp only
  have HT1 := Lib.hid ht1; have HB1 := Lib.hid hb1; clear ht1 hb1
  have HNA := Lib.hid (bx1 w1 (.cells #[.int .i64 2] 3))
  have HNB := Lib.hid (bx_new w1 (.cells #[.int .i64 2] 3))
  go_wp2_with fail
  generalize w1.alloc (.cells #[.int .i64 2] 3) = w2 at *
  have HB2 := Lib.hid (Below.step HB1.out HNA.out); have HT2 := Lib.hid (HT1.out.below HNA.out); clear HT1 HNA HB1
  refine (at18_row (v := ⟨A1, c1, l1, r1⟩) HT2.out [2] w1.heap.size 1 1 HNB.out rfl (by decide) (HT.out.below (Below.step HB.out HB2.out))).mono ?_
  rintro e w7 hq
  obtain ⟨rfl, hb7⟩ := hq.2 at18b
  have HR := Lib.hid (Below.step (Below.step HB2.out hb7) (bx1 w7 (.cells #[.slice none 0 0, .int .i64 0] 24)))
  have hk2 := bx_new w7 (.cells #[.slice none 0 0, .int .i64 0] 24)
  go_upto_region 3 with (fail)
  generalize w7.alloc (.cells #[.slice none 0 0, .int .i64 0] 24) = W2 at *
  generalize w7.heap.size = p2 at *
  have HK2 := Lib.hid hk2; clear hk2
  have HK1' := Lib.hid (bx_kept HR.out HK1.out); clear HK1; have HK1 := HK1'; clear HK1'
  have HV1' := Lib.hid (HV1.out.below HR.out); clear HV1; have HV1 := HV1'; clear HV1'
  have HB' := Lib.hid (Below.step HB.out HR.out); clear HB; have HB := HB'; clear HB' HR hq hb7 HT2 HB2 HNB
  go_wp2_with fail
  refine (some18_any _).mono ?_
  rintro e w1 ⟨⟨A1, c1, l1, r1⟩, rfl, ht1, -, hb1⟩
  simp only
  have HT1 := Lib.hid ht1; have HB1 := Lib.hid hb1; clear ht1 hb1
  have HNA := Lib.hid (bx1 w1 (.cells #[.int .i64 1] 3))
  have HNB := Lib.hid (bx_new w1 (.cells #[.int .i64 1] 3))
  go_wp2_with fail
  generalize w1.alloc (.cells #[.int .i64 1] 3) = w2 at *
  have HB2 := Lib.hid (Below.step HB1.out HNA.out); have HT2 := Lib.hid (HT1.out.below HNA.out); clear HT1 HNA HB1
  refine (at18_row (v := ⟨A1, c1, l1, r1⟩) HT2.out [1] w1.heap.size 1 1 HNB.out rfl (by decide) (HT.out.below (Below.step HB.out HB2.out))).mono ?_
  rintro e w7 hq
  obtain ⟨A3r, c3r, l3r, r3r, rfl, ht7, hb7⟩ := at_yes at18c (by kernel_rfl) hq
  have HR := Lib.hid (Below.step (Below.step HB2.out hb7) (bx1 w7 (.cells #[.slice A3r l3r.length c3r, .int .i64 r3r] 24)))
  have hk3 := bx_new w7 (.cells #[.slice A3r l3r.length c3r, .int .i64 r3r] 24)
  have HV3 := Lib.hid (ht7.below (bx1 w7 (.cells #[.slice A3r l3r.length c3r, .int .i64 r3r] 24))); clear ht7
  go_upto_region 4 with (fail)
  generalize w7.alloc (.cells #[.slice A3r l3r.length c3r, .int .i64 r3r] 24) = W3 at *
  generalize w7.heap.size = p3 at *
  have HK3 := Lib.hid hk3; clear hk3
  have HK1' := Lib.hid (bx_kept HR.out HK1.out); clear HK1; have HK1 := HK1'; clear HK1'
  have HV1' := Lib.hid (HV1.out.below HR.out); clear HV1; have HV1 := HV1'; clear HV1'
  have HK2' := Lib.hid (bx_kept HR.out HK2.out); clear HK2; have HK2 := HK2'; clear HK2'
  have HB' := Lib.hid (Below.step HB.out HR.out); clear HB; have HB := HB'; clear HB' HR hq hb7 HT2 HB2 HNB
  go_wp2_with fail
  refine (some18_any _).mono ?_
  rintro e w1 ⟨⟨A1, c1, l1, r1⟩, rfl, ht1, -, hb1⟩
  simp only
  have HT1 := Lib.hid ht1; have HB1 := Lib.hid hb1; clear ht1 hb1
  have HNA := Lib.hid (bx1 w1 (.cells #[.int .i64 0] 3))
  have HNB := Lib.hid (bx_new w1 (.cells #[.int .i64 0] 3))
  go_wp2_with fail
  generalize w1.alloc (.cells #[.int .i64 0] 3) = w2 at *
  have HB2 := Lib.hid (Below.step HB1.out HNA.out); have HT2 := Lib.hid (HT1.out.below HNA.out); clear HT1 HNA HB1
  refine (empty_any _).mono ?_
  rintro e w3 ⟨b3, rfl, hto3, hb3⟩
  have HX := Lib.hid (TY.own (T := one18 emptyLf) hto3 rfl (by kernel_rfl))
  have HT3 := Lib.hid (HT2.out.below hb3); have HB3 := Lib.hid (Below.step HB2.out hb3); have HNC := Lib.hid (bx_kept hb3 HNB.out); clear hto3 hb3 HT2 HB2 HNB
  go_wp2_with fail
  refine (put18_row (v := ⟨A1, c1, l1, r1⟩) (x := leafLt b3 emptyLf) HT3.out HX.out [0] w1.heap.size 1 1 HNC.out rfl (by decide) (HT.out.below (Below.step HB.out HB3.out))).mono ?_
  rintro e w7 hq
  obtain ⟨A4r, c4r, l4r, r4r, rfl, ht7, hb7⟩ := put_yes put18a (by kernel_rfl) hq
  have HR := Lib.hid (Below.step (Below.step HB3.out hb7) (bx1 w7 (.cells #[.slice A4r l4r.length c4r, .int .i64 r4r] 24)))
  have hk4 := bx_new w7 (.cells #[.slice A4r l4r.length c4r, .int .i64 r4r] 24)
  have HV4 := Lib.hid (ht7.below (bx1 w7 (.cells #[.slice A4r l4r.length c4r, .int .i64 r4r] 24))); clear ht7
  go_upto_region 5 with (fail)
  generalize w7.alloc (.cells #[.slice A4r l4r.length c4r, .int .i64 r4r] 24) = W4 at *
  generalize w7.heap.size = p4 at *
  have HK4 := Lib.hid hk4; clear hk4
  have HK1' := Lib.hid (bx_kept HR.out HK1.out); clear HK1; have HK1 := HK1'; clear HK1'
  have HV1' := Lib.hid (HV1.out.below HR.out); clear HV1; have HV1 := HV1'; clear HV1'
  have HK2' := Lib.hid (bx_kept HR.out HK2.out); clear HK2; have HK2 := HK2'; clear HK2'
  have HK3' := Lib.hid (bx_kept HR.out HK3.out); clear HK3; have HK3 := HK3'; clear HK3'
  have HV3' := Lib.hid (HV3.out.below HR.out); clear HV3; have HV3 := HV3'; clear HV3'
  have HB' := Lib.hid (Below.step HB.out HR.out); clear HB; have HB := HB'; clear HB' HR hq hb7 HT3 HB3 HNC HX
  go_wp2_with fail
  refine (some18_any _).mono ?_
  rintro e w1 ⟨⟨A1, c1, l1, r1⟩, rfl, ht1, -, hb1⟩
  simp only
  have HT1 := Lib.hid ht1; have HB1 := Lib.hid hb1; clear ht1 hb1
  have HNA := Lib.hid (bx1 w1 (.cells #[.int .i64 0] 3))
  have HNB := Lib.hid (bx_new w1 (.cells #[.int .i64 0] 3))
  go_wp2_with fail
  generalize w1.alloc (.cells #[.int .i64 0] 3) = w2 at *
  have HB2 := Lib.hid (Below.step HB1.out HNA.out); have HT2 := Lib.hid (HT1.out.below HNA.out); clear HT1 HNA HB1
  refine (rule_any ⟨#[112]⟩ _ (by decide)).mono ?_
  rintro e w3 ⟨b3, rfl, hto3, hb3⟩
  have HX1 := Lib.hid (TY.own (T := one18 (ruleLf ⟨#[112]⟩)) hto3 rfl (by kernel_rfl))
  have HT3 := Lib.hid (HT2.out.below hb3); have HB3 := Lib.hid (Below.step HB2.out hb3); have HNC := Lib.hid (bx_kept hb3 HNB.out); clear hto3 hb3 HT2 HB2 HNB
  go_wp2_with fail
  refine (rule_any ⟨#[113]⟩ _ (by decide)).mono ?_
  rintro e w4 ⟨b4, rfl, hto4, hb4⟩
  have HX2 := Lib.hid (TY.own (T := one18 (ruleLf ⟨#[113]⟩)) hto4 rfl (by kernel_rfl)); have HX3 := Lib.hid (HX1.out.below hb4)
  have HT4 := Lib.hid (HT3.out.below hb4); have HB4 := Lib.hid (Below.step HB3.out hb4); have HND := Lib.hid (bx_kept hb4 HNC.out); clear hto4 hb4 HT3 HB3 HNC HX1
  have HMA := Lib.hid (bx1 w4 (.cells #[.slice (some ⟨b3, 0, none⟩) 1 1, .int .i64 0, .slice (some ⟨b4, 0, none⟩) 1 1, .int .i64 0] 24))
  have HMB := Lib.hid (bx_new w4 (.cells #[.slice (some ⟨b3, 0, none⟩) 1 1, .int .i64 0, .slice (some ⟨b4, 0, none⟩) 1 1, .int .i64 0] 24))
  go_wp2_with fail
  generalize w4.alloc (.cells #[.slice (some ⟨b3, 0, none⟩) 1 1, .int .i64 0, .slice (some ⟨b4, 0, none⟩) 1 1, .int .i64 0] 24) = w5 at *
  have HC5 := Lib.hid (of18_row (kind18 4) [leafLt b3 (ruleLf ⟨#[112]⟩), leafLt b4 (ruleLf ⟨#[113]⟩)] _ w4.heap.size w5 (kind18_wf _ (by decide)) HMB.out rfl (row18 (HX3.out.below HMA.out) (HX2.out.below HMA.out)) (by simp) (by kernel_rfl) (by kernel_rfl) (.slice none 0 0) 2 2 rfl)
  refine HC5.out.mono ?_
  rintro e w6 ⟨⟨A6, c6, l6, r6⟩, rfl, ht6, -, hb6⟩
  simp only
  have HX := Lib.hid ht6; have hbz := Below.step HMA.out hb6
  have HT6 := Lib.hid (HT4.out.below hbz); have HB6 := Lib.hid (Below.step HB4.out hbz); have HNE := Lib.hid (bx_kept hbz HND.out); clear ht6 hb6 hbz HT4 HB4 HND HX3 HX2 HMA HMB HC5
  go_wp2_with fail
  refine (put18_row (v := ⟨A1, c1, l1, r1⟩) (x := ⟨A6, c6, l6, r6⟩) HT6.out HX.out [0] w1.heap.size 1 1 HNE.out rfl (by decide) (HT.out.below (Below.step HB.out HB6.out))).mono ?_
  rintro e w7 hq
  obtain ⟨A5r, c5r, l5r, r5r, rfl, ht7, hb7⟩ := put_yes put18b (by kernel_rfl) hq
  have HR := Lib.hid (Below.step (Below.step HB6.out hb7) (bx1 w7 (.cells #[.slice A5r l5r.length c5r, .int .i64 r5r] 24)))
  have hk5 := bx_new w7 (.cells #[.slice A5r l5r.length c5r, .int .i64 r5r] 24)
  have HV5 := Lib.hid (ht7.below (bx1 w7 (.cells #[.slice A5r l5r.length c5r, .int .i64 r5r] 24))); clear ht7
  go_upto_region 6 with (fail)
  generalize w7.alloc (.cells #[.slice A5r l5r.length c5r, .int .i64 r5r] 24) = W5 at *
  generalize w7.heap.size = p5 at *
  have HK5 := Lib.hid hk5; clear hk5
  have HK1' := Lib.hid (bx_kept HR.out HK1.out); clear HK1; have HK1 := HK1'; clear HK1'
  have HV1' := Lib.hid (HV1.out.below HR.out); clear HV1; have HV1 := HV1'; clear HV1'
  have HK2' := Lib.hid (bx_kept HR.out HK2.out); clear HK2; have HK2 := HK2'; clear HK2'
  have HK3' := Lib.hid (bx_kept HR.out HK3.out); clear HK3; have HK3 := HK3'; clear HK3'
  have HV3' := Lib.hid (HV3.out.below HR.out); clear HV3; have HV3 := HV3'; clear HV3'
  have HK4' := Lib.hid (bx_kept HR.out HK4.out); clear HK4; have HK4 := HK4'; clear HK4'
  have HV4' := Lib.hid (HV4.out.below HR.out); clear HV4; have HV4 := HV4'; clear HV4'
  have HB' := Lib.hid (Below.step HB.out HR.out); clear HB; have HB := HB'; clear HB' HR hq hb7 HT6 HB6 HNE HX
  have HBW := Lib.hid HB.out; clear HB
  have HSB := Lib.hid (show ∀ w', Below W5.heap.size W5 w' → w'.cell? ⟨p1, 0, none⟩ = some (.slice A1r l1r.length c1r) ∧ w'.cell? ⟨p1, 1, none⟩ = some (.int .i64 r1r) ∧ w'.cell? ⟨p3, 0, none⟩ = some (.slice A3r l3r.length c3r) ∧ w'.cell? ⟨p3, 1, none⟩ = some (.int .i64 r3r) ∧ w'.cell? ⟨p4, 0, none⟩ = some (.slice A4r l4r.length c4r) ∧ w'.cell? ⟨p4, 1, none⟩ = some (.int .i64 r4r) ∧ w'.cell? ⟨p5, 0, none⟩ = some (.slice A5r l5r.length c5r) ∧ w'.cell? ⟨p5, 1, none⟩ = some (.int .i64 r5r) from fun w' h => by
    obtain ⟨x1, y1, _, _⟩ := blk2 (bx_kept h HK1.out)
    obtain ⟨x3, y3, _, _⟩ := blk2 (bx_kept h HK3.out)
    obtain ⟨x4, y4, _, _⟩ := blk2 (bx_kept h HK4.out)
    obtain ⟨x5, y5, _, _⟩ := blk2 (bx_kept h HK5.out)
    exact ⟨x1, y1, x3, y3, x4, y4, x5, y5⟩)
  have HM1 := Lib.hid (show ∀ w', Below W5.heap.size W5 w' → TY w' _ ⟨A1r, c1r, l1r, r1r⟩ from fun w' h => HV1.out.below h)
  have HM3 := Lib.hid (show ∀ w', Below W5.heap.size W5 w' → TY w' _ ⟨A3r, c3r, l3r, r3r⟩ from fun w' h => HV3.out.below h)
  have HM4 := Lib.hid (show ∀ w', Below W5.heap.size W5 w' → TY w' _ ⟨A4r, c4r, l4r, r4r⟩ from fun w' h => HV4.out.below h)
  have HM5 := Lib.hid (show ∀ w', Below W5.heap.size W5 w' → TY w' _ ⟨A5r, c5r, l5r, r5r⟩ from fun w' h => HV5.out.below h)
  clear HK1 HK2 HK3 HK4 HK5 HV1 HV3 HV4 HV5 HT
  have HB := Lib.hid (Below.refl W5.heap.size W5)
  go_region_held3 (fun w' => w'.cell? ⟨p1, 0, none⟩ = some (.slice A1r l1r.length c1r) ∧ w'.cell? ⟨p1, 1, none⟩ = some (.int .i64 r1r) ∧ w'.cell? ⟨p3, 0, none⟩ = some (.slice A3r l3r.length c3r) ∧ w'.cell? ⟨p3, 1, none⟩ = some (.int .i64 r3r) ∧ w'.cell? ⟨p4, 0, none⟩ = some (.slice A4r l4r.length c4r) ∧ w'.cell? ⟨p4, 1, none⟩ = some (.int .i64 r4r) ∧ w'.cell? ⟨p5, 0, none⟩ = some (.slice A5r l5r.length c5r) ∧ w'.cell? ⟨p5, 1, none⟩ = some (.int .i64 r5r))
    (exact HSB.out _ (by first | exact HB.out | exact HB.out.drew | exact below_al18 HB.out _ (Nat.le_refl _) | exact below_al18 HB.out.drew _ (Nat.le_refl _) | exact (below_al18 HB.out _ (Nat.le_refl _)).drew))
    (first
      | (go_at_call 24; (with_reducible refine (rule_any ⟨#[120]⟩ _ (by decide)).mono ?_); rintro e wa ⟨ba, rfl, hto, hb⟩; have HB' := Lib.hid (Below.step (by first | exact HB.out | exact HB.out.drew | exact below_al18 HB.out _ (Nat.le_refl _) | exact below_al18 HB.out.drew _ (Nat.le_refl _) | exact (below_al18 HB.out _ (Nat.le_refl _)).drew) hb); clear HB; have HB := HB'; clear HB'; have HXa := Lib.hid (show ∀ w', Below wa.heap.size wa w' → TY w' (one18 (ruleLf ⟨#[120]⟩)) (leafLt ba (ruleLf ⟨#[120]⟩)) from fun w' h => (TY.own (T := one18 (ruleLf ⟨#[120]⟩)) hto rfl (by kernel_rfl)).below h); clear hto hb)
      | (go_at_call 13; (refine (exact18 (HM1.out _ (by first | exact HB.out | exact HB.out.drew | exact below_al18 HB.out _ (Nat.le_refl _) | exact below_al18 HB.out.drew _ (Nat.le_refl _) | exact (below_al18 HB.out _ (Nat.le_refl _)).drew)) (HXa.out _ (by first | exact Below.refl _ _ | exact (Below.refl _ _).drew | exact bx1 _ _ | exact bx2 _ _ _ | exact (bx1 _ _).drew))).mono ?_); rintro e wb ⟨rfl, hb⟩; have HB' := Lib.hid (Below.step (by first | exact HB.out | exact HB.out.drew | exact below_al18 HB.out _ (Nat.le_refl _) | exact below_al18 HB.out.drew _ (Nat.le_refl _) | exact (below_al18 HB.out _ (Nat.le_refl _)).drew) hb); clear HB; have HB := HB'; clear HB'; clear hb HXa)
      | (go_at_call 13; (with_reducible refine (exact18 (HM4.out _ (by first | exact HB.out | exact HB.out.drew | exact below_al18 HB.out _ (Nat.le_refl _) | exact below_al18 HB.out.drew _ (Nat.le_refl _) | exact (below_al18 HB.out _ (Nat.le_refl _)).drew)) (HM3.out _ (by first | exact HB.out | exact HB.out.drew | exact below_al18 HB.out _ (Nat.le_refl _) | exact below_al18 HB.out.drew _ (Nat.le_refl _) | exact (below_al18 HB.out _ (Nat.le_refl _)).drew))).mono ?_); rintro e wc ⟨rfl, hb⟩; have HB' := Lib.hid (Below.step (by first | exact HB.out | exact HB.out.drew | exact below_al18 HB.out _ (Nat.le_refl _) | exact below_al18 HB.out.drew _ (Nat.le_refl _) | exact (below_al18 HB.out _ (Nat.le_refl _)).drew) hb); clear HB; have HB := HB'; clear HB'; clear hb)
      | (go_at_call 24; (with_reducible refine (rule_any ⟨#[112]⟩ _ (by decide)).mono ?_); rintro e wd ⟨bd, rfl, hto, hb⟩; have HB' := Lib.hid (Below.step (by first | exact HB.out | exact HB.out.drew | exact below_al18 HB.out _ (Nat.le_refl _) | exact below_al18 HB.out.drew _ (Nat.le_refl _) | exact (below_al18 HB.out _ (Nat.le_refl _)).drew) hb); clear HB; have HB := HB'; clear HB'; have HXd := Lib.hid (show ∀ w', Below wd.heap.size wd w' → TY w' (one18 (ruleLf ⟨#[112]⟩)) (leafLt bd (ruleLf ⟨#[112]⟩)) from fun w' h => (TY.own (T := one18 (ruleLf ⟨#[112]⟩)) hto rfl (by kernel_rfl)).below h); clear hto hb)
      | (go_at_call 24; (with_reducible refine (rule_any ⟨#[113]⟩ _ (by decide)).mono ?_); rintro e we ⟨be, rfl, hto, hb⟩; have HB' := Lib.hid (Below.step (by first | exact HB.out | exact HB.out.drew | exact below_al18 HB.out _ (Nat.le_refl _) | exact below_al18 HB.out.drew _ (Nat.le_refl _) | exact (below_al18 HB.out _ (Nat.le_refl _)).drew) hb); clear HB; have HB := HB'; clear HB'; have HXe := Lib.hid (show ∀ w', Below we.heap.size we w' → TY w' (one18 (ruleLf ⟨#[112]⟩)) (leafLt bd (ruleLf ⟨#[112]⟩)) ∧ TY w' (one18 (ruleLf ⟨#[113]⟩)) (leafLt be (ruleLf ⟨#[113]⟩)) from fun w' h => ⟨HXd.out _ (Below.step (by first | exact Below.refl _ _ | exact (Below.refl _ _).drew | exact bx1 _ _ | exact bx2 _ _ _ | exact (bx1 _ _).drew) (Below.step hb h)), (TY.own (T := one18 (ruleLf ⟨#[113]⟩)) hto rfl (by kernel_rfl)).below h⟩); clear hto hb HXd)
      | (go_at_call 23; (refine (of18_three (n := kind18 4) (a := leafLt bd (ruleLf ⟨#[112]⟩)) (b := leafLt be (ruleLf ⟨#[113]⟩)) (c := ⟨A3r, c3r, l3r, r3r⟩) (w := we) (kind18_wf _ (by decide)) (HXe.out we (Below.refl _ _)).1 (HXe.out we (Below.refl _ _)).2 (HM3.out we HB.out) okpqc18 smpqc18).mono ?_); rintro e wf ⟨Af, cf, lf, rf, rfl, htf, hb⟩; have HB' := Lib.hid (Below.step (by first | exact HB.out | exact HB.out.drew | exact below_al18 HB.out _ (Nat.le_refl _) | exact below_al18 HB.out.drew _ (Nat.le_refl _) | exact (below_al18 HB.out _ (Nat.le_refl _)).drew) hb); clear HB; have HB := HB'; clear HB'; have HXf := Lib.hid htf; clear htf hb HXe)
      | (go_at_call 13; (with_reducible refine (exact18 (HM5.out _ (by first | exact HB.out | exact HB.out.drew | exact below_al18 HB.out _ (Nat.le_refl _) | exact below_al18 HB.out.drew _ (Nat.le_refl _) | exact (below_al18 HB.out _ (Nat.le_refl _)).drew)) (HXf.out.below (by first | exact Below.refl _ _ | exact (Below.refl _ _).drew | exact bx1 _ _ | exact bx2 _ _ _ | exact (bx1 _ _).drew))).mono ?_); rintro e wg ⟨rfl, hb⟩; have HB' := Lib.hid (Below.step (by first | exact HB.out | exact HB.out.drew | exact below_al18 HB.out _ (Nat.le_refl _) | exact below_al18 HB.out.drew _ (Nat.le_refl _) | exact (below_al18 HB.out _ (Nat.le_refl _)).drew) hb); clear HB; have HB := HB'; clear HB'; clear hb HXf)
      | fail)
  all_goals go_wp2_with fail
  all_goals go_ret
  all_goals exact ⟨rfl, Below.step HBW.out HB.out⟩
end Go.Proofs.YtfncfmiccomgcaaDoor
