/- The contracts of the law's of and some; the examples' trees. -/
import Derived.Test.YtmjkgnknfgoadaaGreatDoorRc
import Derived.Test.YtmjkgnknfgoadaaGreatDoorTt
import Derived.Test.YtmjkgnknfgoadaaGreatDoorAr
import Derived.Test.YtmjkgnknfgoadaaGreatDoorNm
import Derived.Test.YtmjkgnknfgoadaaGreatDoorWe
import Derived.Test.YtmjkgnknfgoadaaGreatDoorEg
import Derived.Deep.DeepCutAuto
import Derived.Deep.Cut
import Derived.Deep.CutRange
namespace Go.Proofs.YtmjkgnknfgoadaaGreatDoor
open Go.RowKit
set_option linter.unusedSimpArgs false
set_option linter.unusedVariables false

set_option maxRecDepth 100000 in
set_option maxHeartbeats 3200000 in
theorem of18_any (n : Nd) (K : Value) (L : Option Addr) (lc : Nat) (ks : List Lt) (S : Nat → Prop) (w : World) (hn : n.wf) (hL : ttL.row w S L ks) (hl : ks.length ≤ 16777216) (hsum : (ks.map fun t => t.ls.length).sum ≤ 16777216) (hkk : ∀ t ∈ ks, (∀ l ∈ t.ls, l.nd.kids.length ≤ 4294967296) ∧ (kidsOf (t.ls.map Ln.nd)).length ≤ 4611686018427387904) (hok : okT n (ks.map Lt.tr) = true) :
    Calls Tryz.prog 40 #[ndV n K, .slice L ks.length lc] w (TreePost (ofT n (ks.map Lt.tr)) w) := by
  have HB0 := Lib.hid (bx2 w (.cells #[.int .u8 n.kind, .int .u64 n.s0, .int .u64 n.s1, .int .u64 n.s2, .int .u64 n.s3, .string n.text, .int .i64 n.mn, .int .i64 n.mx, K] 71) (.cells #[.slice none 0 0, .int .i64 0] 48))
  have hk := bx_new (w.alloc (.cells #[.int .u8 n.kind, .int .u64 n.s0, .int .u64 n.s1, .int .u64 n.s2, .int .u64 n.s3, .string n.text, .int .i64 n.mn, .int .i64 n.mx, K] 71)) (.cells #[.slice none 0 0, .int .i64 0] 48)
  rw [World.size_alloc] at hk
  have HK0 := Lib.hid hk; clear hk
  have HC := Lib.hid (rof_any n K L lc ks S _ hn (hL.below HB0.out) hl hsum hkk hok)
  clear hn hL hsum hkk hok
  unfold TreePost
  go_enter Tryz.func40, Tryz.ntmps40
  go_wp2_with fail
  refine HC.out.mono ?_
  rintro e w1 ⟨⟨A, c, ls, root⟩, he, htr, hto, hb⟩
  simp only [Lt.val] at he; subst he
  have HTR := Lib.hid htr; have HTO := Lib.hid hto; have HB1 := Lib.hid (Below.step HB0.out hb); have HK1 := Lib.hid (bx_kept hb HK0.out)
  have HZ := Lib.hid (show w.heap.size + 2 ≤ w1.heap.size ∧ ∀ x, (((w.alloc (.cells #[.int .u8 n.kind, .int .u64 n.s0, .int .u64 n.s1, .int .u64 n.s2, .int .u64 n.s3, .string n.text, .int .i64 n.mn, .int .i64 n.mx, K] 71)).alloc (.cells #[.slice none 0 0, .int .i64 0] 48)).heap.size ≤ x ↔ w.heap.size + 2 ≤ x) from ⟨by have := hb.size; simp at this; omega, fun x => by simp⟩)
  clear htr hto hb HB0 HK0 HC
  have HN := Lib.hid (bx_new w1 (.cells #[.slice A ls.length c, .int .i64 root] 48))
  obtain ⟨q1, q2, _, _⟩ := blk2 HN.out
  obtain ⟨t1, t2, t3, t4⟩ := blk2 (bx_old (p := .cells #[.slice A ls.length c, .int .i64 root] 48) HK1.out)
  go_wp2_with fail
  refine bodyPost_ret (v := .agg #[.slice A ls.length c, .int .i64 root]) (by simp [results, Tryz.results40, go_sem, t1, t2]) rfl ?_
  refine ⟨⟨A, c, ls, root⟩, rfl, HTR.out, ?_, ?_⟩
  · have h := HTO.out.below (bx1 w1 (.cells #[.slice A ls.length c, .int .i64 root] 48))
    refine (h.agree (fun x hx _ => ?_)).mono (fun x _ hx => ?_)
    · have hx := (HZ.out.2 x).1 hx
      exact (Below.heap_setCell _ _ _ _ (by show x ≠ w.heap.size + 1; omega)).trans (Below.heap_setCell _ _ _ _ (by show x ≠ w.heap.size + 1; omega))
    · have hx := (HZ.out.2 x).1 hx
      show w.heap.size ≤ x; omega
  · exact ((HB1.out.alloc (by have := HZ.out.1; omega) _).setCell (p := ⟨w.heap.size + 1, 0, none⟩) (by simp) _).setCell (p := ⟨w.heap.size + 1, 1, none⟩) (by simp) _

/-! ### trees of the examples -/
def smallTy (T : Tr) : Bool := decide (T.nodes.length ≤ 1000) && (T.nodes.all fun n => decide (n.kids.length ≤ 1000)) && decide ((kidsOf T.nodes).length ≤ 1000)
structure TY (w : World) (T : Tr) (t : Lt) : Prop where
  inn : t.inn w (fun _ => True)
  tr : t.tr = T
  small : smallTy T = true
theorem TY.below {w w' : World} {T : Tr} {t : Lt} (h : TY w T t) (hb : Below w.heap.size w w') : TY w' T t := ⟨h.inn.below hb, h.tr, h.small⟩
theorem TY.len {w : World} {T : Tr} {t : Lt} (h : TY w T t) : t.ls.length ≤ 1000 ∧ (∀ l ∈ t.ls, l.nd.kids.length ≤ 1000) ∧ (kidsOf (t.ls.map Ln.nd)).length ≤ 1000 := by
  have h1 := h.small
  simp only [smallTy, Bool.and_eq_true, decide_eq_true_eq, List.all_eq_true] at h1
  have h2 : T.nodes = t.ls.map Ln.nd := by rw [← h.tr]; rfl
  rw [h2] at h1
  refine ⟨by simpa using h1.1.1, fun l hl => h1.1.2 _ (List.mem_map.2 ⟨l, hl, rfl⟩), h1.2⟩
theorem TY.own {w' : World} {S : Nat → Prop} {T : Tr} {t : Lt} (h : TreeOwn w' S t) (e : t.tr = T) (hs : smallTy T = true) : TY w' T t := ⟨h.inn.mono (fun _ _ _ => trivial), e, hs⟩
/-- A tree, just told. -/
def TyPost (T : Tr) (w : World) (e : Ending) (w' : World) : Prop := ∃ v : Lt, e = .returned (.agg #[.slice v.A v.ls.length v.c, .int .i64 v.root]) ∧ TY w' T v ∧ TreeOwn w' (w.heap.size ≤ ·) v ∧ Below w.heap.size w w'
theorem of18_row (n : Nd) (ks : List Lt) (Ts : List Tr) (nb : Nat) (w : World) (hn : n.wf) (hh : w.heap[nb]? = some (.cells (ttL.all ks).toArray 48 (0, 0))) (hT : ks.map Lt.tr = Ts) (hk : ∀ t ∈ ks, ∃ T, TY w T t) (hl : ks.length ≤ 4) (hok : okT n Ts = true) (hs : smallTy (ofT n Ts) = true) (K : Value) (m lc : Nat) (hm : ks.length = m) :
    Calls Tryz.prog 40 #[ndV n K, .slice (some ⟨nb, 0, none⟩) m lc] w (TyPost (ofT n Ts) w) := by
  subst hT hm
  have hrow : ttL.row w (fun _ => True) (some ⟨nb, 0, none⟩) ks := ⟨⟨row_blk hh, fun _ _ _ => trivial⟩, fun t ht => by
    obtain ⟨T, h⟩ := hk t ht; exact h.inn⟩
  have hsum : (ks.map fun t => t.ls.length).sum ≤ 1000 * ks.length := by
    clear hrow hok hs hl hh
    induction ks with
    | nil => simp
    | cons a ks ih =>
      have h1 := ih (fun t ht => hk t (List.mem_cons_of_mem _ ht))
      obtain ⟨T, h⟩ := hk a List.mem_cons_self
      have h2 := h.len.1
      simp only [List.map_cons, List.sum_cons, List.length_cons]; omega
  refine (of18_any n K (some ⟨nb, 0, none⟩) lc ks _ w hn hrow (by omega) (by omega) (fun t ht => ?_) hok).mono ?_
  · obtain ⟨T, h⟩ := hk t ht
    have h2 := h.len
    exact ⟨fun l hl => by have := h2.2.1 l hl; omega, by have := h2.2.2; omega⟩
  · rintro e w' ⟨v, rfl, htr, hto, hb⟩
    exact ⟨v, rfl, .own hto htr hs, hto, hb⟩
/-- The kinds of the examples' nodes. -/
def kind18 (k : Int) : Nd := ⟨k, 0, 0, 0, 0, ⟨#[]⟩, 0, 0, []⟩
theorem kind18_wf (k : Int) (h : 0 ≤ k ∧ k ≤ 255) : (kind18 k).wf := ⟨h, by simp [kind18]; decide, by simp [kind18], by simp [kind18, U64], by simp [kind18, U64], by simp [kind18, U64], by simp [kind18, U64]⟩
def one18 (n : Nd) : Tr := ⟨[n], 0⟩
abbrev cho18 : Tr := ofT (kind18 5) [one18 (ruleLf ⟨#[120]⟩), one18 (ruleLf ⟨#[121]⟩)]
abbrev some18 : Tr := ofT (kind18 4) [one18 (textLf ⟨#[97]⟩), cho18]
theorem okc18 : okT (kind18 5) [one18 (ruleLf ⟨#[120]⟩), one18 (ruleLf ⟨#[121]⟩)] = true := by kernel_rfl
theorem oks18 : okT (kind18 4) [one18 (textLf ⟨#[97]⟩), cho18] = true := by kernel_rfl
theorem at18a : (atT some18 [1, 0]).map treeOf = some (one18 (ruleLf ⟨#[120]⟩)) := by kernel_rfl
theorem at18b : atT some18 [2] = none := by kernel_rfl
theorem at18c : (atT some18 [1]).map treeOf = some cho18 := by kernel_rfl
theorem put18a : (putT some18 [0] (one18 emptyLf)).map (fun y => treeOf (makeTT y)) = some cho18 := by kernel_rfl
theorem put18b : (putT some18 [0] (ofT (kind18 4) [one18 (ruleLf ⟨#[112]⟩), one18 (ruleLf ⟨#[113]⟩)])).map (fun y => treeOf (makeTT y)) = some (ofT (kind18 4) [one18 (ruleLf ⟨#[112]⟩), one18 (ruleLf ⟨#[113]⟩), cho18]) := by kernel_rfl

theorem row18 {w : World} {a b : Lt} {S T : Tr} (ha : TY w S a) (hb : TY w T b) : ∀ t ∈ [a, b], ∃ T, TY w T t := fun t ht => by
  simp only [List.mem_cons, List.not_mem_nil, or_false] at ht
  rcases ht with rfl | rfl
  · exact ⟨_, ha⟩
  · exact ⟨_, hb⟩
/-- A leaf, just made. -/
abbrev leafLt (b : Nat) (n : Nd) : Lt := ⟨some ⟨b, 0, none⟩, 1, [⟨n, none, 0⟩], 0⟩
set_option maxRecDepth 100000 in
set_option maxHeartbeats 3200000 in
theorem some18_any (w : World) : Calls Tryz.prog 44 #[] w (TyPost some18 w) := by
  unfold TyPost
  go_enter Tryz.func44, Tryz.ntmps44
  have HB0 := Lib.hid (bx1 w (.cells #[.slice none 0 0, .int .i64 0] 48))
  have HK0 := Lib.hid (bx_new w (.cells #[.slice none 0 0, .int .i64 0] 48))
  have HS0 := Lib.hid (show (w.alloc (.cells #[.slice none 0 0, .int .i64 0] 48)).heap.size = w.heap.size + 1 from by simp)
  go_wp2_with fail
  generalize w.alloc (.cells #[.slice none 0 0, .int .i64 0] 48) = W0 at *
  refine (text_any ⟨#[97]⟩ _ (by decide)).mono ?_
  rintro e w1 ⟨b1, rfl, hto1, hb1⟩
  have HT1 := Lib.hid (TY.own (T := one18 (textLf ⟨#[97]⟩)) hto1 rfl rfl)
  have HB1 := Lib.hid hb1
  clear hto1 hb1
  go_wp2_with fail
  refine (rule_any ⟨#[120]⟩ _ (by decide)).mono ?_
  rintro e w2 ⟨b2, rfl, hto2, hb2⟩
  have HT2 := Lib.hid (TY.own (T := one18 (ruleLf ⟨#[120]⟩)) hto2 rfl rfl)
  have HB2 := Lib.hid hb2
  clear hto2 hb2
  go_wp2_with fail
  refine (rule_any ⟨#[121]⟩ _ (by decide)).mono ?_
  rintro e w3 ⟨b3, rfl, hto3, hb3⟩
  have HT3 := Lib.hid (TY.own (T := one18 (ruleLf ⟨#[121]⟩)) hto3 rfl rfl)
  have HB3 := Lib.hid hb3
  clear hto3 hb3
  have HNA := Lib.hid (bx1 w3 (.cells #[.slice (some ⟨b2, 0, none⟩) 1 1, .int .i64 0, .slice (some ⟨b3, 0, none⟩) 1 1, .int .i64 0] 48))
  have HNB := Lib.hid (bx_new w3 (.cells #[.slice (some ⟨b2, 0, none⟩) 1 1, .int .i64 0, .slice (some ⟨b3, 0, none⟩) 1 1, .int .i64 0] 48))
  go_wp2_with fail
  generalize w3.alloc (.cells #[.slice (some ⟨b2, 0, none⟩) 1 1, .int .i64 0, .slice (some ⟨b3, 0, none⟩) 1 1, .int .i64 0] 48) = w4 at *
  have HC5 := Lib.hid (of18_row (kind18 5) [leafLt b2 (ruleLf ⟨#[120]⟩), leafLt b3 (ruleLf ⟨#[121]⟩)] _ w3.heap.size w4 (kind18_wf _ (by decide)) HNB.out rfl (row18 ((HT2.out.below HB3.out).below HNA.out) (HT3.out.below HNA.out)) (by simp) okc18 (by kernel_rfl) (.slice none 0 0) 2 2 rfl)
  refine HC5.out.mono ?_
  rintro e w5 ⟨⟨A5, c5, l5, r5⟩, rfl, ht5, hto5, hb5⟩
  simp only
  have HT5 := Lib.hid ht5
  have HB5 := Lib.hid (show Below W0.heap.size W0 w5 from Below.step (Below.step (Below.step (Below.step HB1.out HB2.out) HB3.out) HNA.out) hb5)
  have HT15 := Lib.hid ((((HT1.out.below HB2.out).below HB3.out).below HNA.out).below hb5)
  clear ht5 hto5 hb5 HC5 HNA HNB HT2 HT3 HB1 HB2 HB3 HT1
  have HNA := Lib.hid (bx1 w5 (.cells #[.slice (some ⟨b1, 0, none⟩) 1 1, .int .i64 0, .slice A5 l5.length c5, .int .i64 r5] 48))
  have HNB := Lib.hid (bx_new w5 (.cells #[.slice (some ⟨b1, 0, none⟩) 1 1, .int .i64 0, .slice A5 l5.length c5, .int .i64 r5] 48))
  go_wp2_with fail
  generalize w5.alloc (.cells #[.slice (some ⟨b1, 0, none⟩) 1 1, .int .i64 0, .slice A5 l5.length c5, .int .i64 r5] 48) = w6 at *
  have HC7 := Lib.hid (of18_row (kind18 4) [leafLt b1 (textLf ⟨#[97]⟩), ⟨A5, c5, l5, r5⟩] [one18 (textLf ⟨#[97]⟩), cho18] w5.heap.size w6 (kind18_wf _ (by decide)) HNB.out (by simp only [List.map_cons, List.map_nil]; rw [HT5.out.tr]; rfl) (row18 (HT15.out.below HNA.out) (HT5.out.below HNA.out)) (by simp) oks18 (by kernel_rfl) (.slice none 0 0) 2 2 rfl)
  refine HC7.out.mono ?_
  rintro e w7 ⟨⟨A7, c7, l7, r7⟩, rfl, ht7, hto7, hb7⟩
  simp only
  have HT7 := Lib.hid ht7; have HO7 := Lib.hid hto7
  have HB7 := Lib.hid (show Below W0.heap.size W0 w7 from Below.step (Below.step HB5.out HNA.out) hb7)
  have HZ7 := Lib.hid (show w.heap.size + 1 ≤ w6.heap.size from by have h1 := HS0.out; have h2 := HB5.out.size; have h3 := HNA.out.size; omega)
  clear ht7 hto7 hb7 HC7 HNA HNB HT5 HT15 HB5
  obtain ⟨t1, t2, t3, t4⟩ := blk2 (bx_kept HB7.out HK0.out)
  go_wp2_with fail
  refine bodyPost_ret (v := .agg #[.slice A7 l7.length c7, .int .i64 r7]) (by simp [results, Tryz.results44, go_sem, t1, t2]) rfl ?_
  have hs : ∀ y, y ≠ w.heap.size → ((w7.setCell ⟨w.heap.size, 0, none⟩ (.slice A7 l7.length c7)).setCell ⟨w.heap.size, 1, none⟩ (.int .i64 r7)).heap[y]? = w7.heap[y]? := fun y hy => (Below.heap_setCell _ _ _ _ hy).trans (Below.heap_setCell _ _ _ _ hy)
  have hz := HZ7.out
  have hto : TreeOwn ((w7.setCell ⟨w.heap.size, 0, none⟩ (.slice A7 l7.length c7)).setCell ⟨w.heap.size, 1, none⟩ (.int .i64 r7)) (w.heap.size ≤ ·) ⟨A7, c7, l7, r7⟩ := (HO7.out.agree (fun y hy _ => hs y (by have hy : w6.heap.size ≤ y := hy; omega))).mono (fun y _ hy => by have hy : w6.heap.size ≤ y := hy; show w.heap.size ≤ y; omega)
  exact ⟨⟨A7, c7, l7, r7⟩, rfl, .own hto HT7.out.tr HT7.out.small, hto, ((Below.step HB0.out HB7.out).setCell (p := ⟨w.heap.size, 0, none⟩) (Nat.le_refl _) _).setCell (p := ⟨w.heap.size, 1, none⟩) (Nat.le_refl _) _⟩
end Go.Proofs.YtmjkgnknfgoadaaGreatDoor

/- The contract of the law's works: the examples are as they are told. -/
namespace Go.Proofs.YtmjkgnknfgoadaaGreatDoor
open Go.RowKit
set_option linter.unusedSimpArgs false
set_option linter.unusedVariables false

theorem below_al18 {B : Nat} {w w' : World} (h : Below B w w') (o : Obj) (hz : B ≤ w.heap.size) : Below B w (w'.alloc o) := h.alloc (Nat.le_trans hz h.size) o
theorem ints_row {w : World} {p : List Int} {nb : Nat} (hh : w.heap[nb]? = some (.cells (p.map (Value.int .i64)).toArray 3 (0, 0))) : intL.row w (fun _ => True) (some ⟨nb, 0, none⟩) p :=
  ⟨⟨by rw [intL_all]; exact row_blk hh, fun _ _ _ => trivial⟩, fun _ _ => trivial⟩
theorem at18_row {T : Tr} {v : Lt} {w : World} (h : TY w T v) (p : List Int) (nb n m : Nat) (hh : w.heap[nb]? = some (.cells (p.map (Value.int .i64)).toArray 3 (0, 0))) (hn : p.length = n) (hp : p.length ≤ 1000) (ht : CntTab w) :
    Calls Tryz.prog 83 #[.agg #[.slice v.A v.ls.length v.c, .int .i64 v.root], .slice (some ⟨nb, 0, none⟩) n m] w (AtPost T p w) := by
  subst hn
  have h1 := at_any v.A v.c v.ls v.root (some ⟨nb, 0, none⟩) m p _ _ w h.inn.2 (ints_row hh) (by have := h.len.1; omega) (by omega) ht
  rw [← h.tr]; exact h1
theorem put18_row {T X : Tr} {v x : Lt} {w : World} (h : TY w T v) (hx : TY w X x) (p : List Int) (nb n m : Nat) (hh : w.heap[nb]? = some (.cells (p.map (Value.int .i64)).toArray 3 (0, 0))) (hn : p.length = n) (hp : p.length ≤ 1000) (ht : CntTab w) :
    Calls Tryz.prog 42 #[.agg #[.slice v.A v.ls.length v.c, .int .i64 v.root], .slice (some ⟨nb, 0, none⟩) n m, .agg #[.slice x.A x.ls.length x.c, .int .i64 x.root]] w (PPutPost T p X w) := by
  subst hn
  have h1 := pput_any v.A v.c v.ls v.root (some ⟨nb, 0, none⟩) m p x.A x.c x.ls x.root _ _ _ w h.inn.2 (ints_row hh) hx.inn.2 (by have := h.len.1; have := hx.len.1; omega) (by omega) ht
  rw [← h.tr, ← hx.tr]; exact h1
theorem exact18 {w : World} {T : Tr} {a b : Lt} (ha : TY w T a) (hb : TY w T b) :
    Calls Tryz.prog 43 #[.agg #[.slice a.A a.ls.length a.c, .int .i64 a.root], .agg #[.slice b.A b.ls.length b.c, .int .i64 b.root]] w fun e w' => e = .returned (.bool true) ∧ Below w.heap.size w w' := by
  have e : a.tr = b.tr := ha.tr.trans hb.tr.symm
  have e1 : a.root = b.root := congrArg Tr.root e
  rw [e1]
  exact exact4_any a.A b.A a.c b.c a.ls b.ls b.root _ _ w ha.inn.2 hb.inn.2 (congrArg Tr.nodes e) (by have := ha.len.1; omega)
theorem got_tup {R : Tr} {w w' : World} {e : Ending} (h : GotPost R w e w') (hs : smallTy R = true) : ∃ A c ls r, e = .returned (.tuple #[.agg #[.slice A ls.length c, .int .i64 r], .bool true]) ∧ TY w' R ⟨A, c, ls, r⟩ ∧ Below w.heap.size w w' := by
  obtain ⟨⟨A, c, ls, r⟩, rfl, h1, h2, h3⟩ := h
  exact ⟨A, c, ls, r, rfl, .own h2 h1 hs, h3⟩
theorem at_yes {T R : Tr} {p : List Int} {w w' : World} {e : Ending} (h : (atT T p).map treeOf = some R) (hs : smallTy R = true) (hq : AtPost T p w e w') : ∃ A c ls r, e = .returned (.tuple #[.agg #[.slice A ls.length c, .int .i64 r], .bool true]) ∧ TY w' R ⟨A, c, ls, r⟩ ∧ Below w.heap.size w w' := by
  obtain ⟨y, h1, rfl⟩ := Option.map_eq_some_iff.1 h
  exact got_tup (hq.1 y h1) hs
theorem put_yes {T R X : Tr} {p : List Int} {w w' : World} {e : Ending} (h : (putT T p X).map (fun y => treeOf (makeTT y)) = some R) (hs : smallTy R = true) (hq : PPutPost T p X w e w') : ∃ A c ls r, e = .returned (.tuple #[.agg #[.slice A ls.length c, .int .i64 r], .bool true]) ∧ TY w' R ⟨A, c, ls, r⟩ ∧ Below w.heap.size w w' := by
  obtain ⟨y, h1, rfl⟩ := Option.map_eq_some_iff.1 h
  exact got_tup (hq.1 y h1) hs
abbrev pq18 : Tr := ofT (kind18 4) [one18 (ruleLf ⟨#[112]⟩), one18 (ruleLf ⟨#[113]⟩)]
abbrev pqc18 : Tr := ofT (kind18 4) [one18 (ruleLf ⟨#[112]⟩), one18 (ruleLf ⟨#[113]⟩), cho18]
theorem row18c {w : World} {a b c : Lt} {S T U : Tr} (ha : TY w S a) (hb : TY w T b) (hc : TY w U c) : ∀ t ∈ [a, b, c], ∃ T, TY w T t := fun t ht => by
  simp only [List.mem_cons, List.not_mem_nil, or_false] at ht
  rcases ht with rfl | rfl | rfl
  · exact ⟨_, ha⟩
  · exact ⟨_, hb⟩
  · exact ⟨_, hc⟩
theorem okpqc18 : okT (kind18 4) [one18 (ruleLf ⟨#[112]⟩), one18 (ruleLf ⟨#[113]⟩), cho18] = true := by kernel_rfl
theorem smpqc18 : smallTy pqc18 = true := by kernel_rfl
theorem of18_three {n : Nd} {a b c : Lt} {S T U : Tr} {w : World} (hn : n.wf) (ha : TY w S a) (hb : TY w T b) (hc : TY w U c) (hok : okT n [S, T, U] = true) (hs : smallTy (ofT n [S, T, U]) = true) :
    Calls Tryz.prog 40 #[ndV n (.slice none 0 0), .slice (some ⟨w.heap.size, 0, none⟩) 3 3] (w.alloc (.cells #[.slice a.A a.ls.length a.c, .int .i64 a.root, .slice b.A b.ls.length b.c, .int .i64 b.root, .slice c.A c.ls.length c.c, .int .i64 c.root] 48)) fun e w' => ∃ A k ls r, e = .returned (.agg #[.slice A ls.length k, .int .i64 r]) ∧ TY w' (ofT n [S, T, U]) ⟨A, k, ls, r⟩ ∧ Below w.heap.size w w' := by
  have h1 := bx1 w (.cells #[.slice a.A a.ls.length a.c, .int .i64 a.root, .slice b.A b.ls.length b.c, .int .i64 b.root, .slice c.A c.ls.length c.c, .int .i64 c.root] 48)
  refine (of18_row n [a, b, c] [S, T, U] w.heap.size _ hn (bx_new w _) (by simp only [List.map_cons, List.map_nil]; rw [ha.tr, hb.tr, hc.tr]) (row18c (ha.below h1) (hb.below h1) (hc.below h1)) (by simp) hok hs (.slice none 0 0) 3 3 rfl).mono ?_
  rintro e w' ⟨⟨A, k, ls, r⟩, rfl, h2, -, h3⟩
  exact ⟨A, k, ls, r, rfl, h2, Below.step h1 h3⟩
set_option maxRecDepth 100000 in
set_option maxHeartbeats 12800000 in
theorem works18_any (w : World) (ht : CntTab w) : Calls Tryz.prog 33 #[] w fun e w' => e = .returned (.bool true) ∧ Below w.heap.size w w' := by
  have HT := Lib.hid ht; clear ht
  go_enter Tryz.func33, Tryz.ntmps33
  go_wp2_with fail
  have HB := Lib.hid (Below.refl w.heap.size w)
  refine (some18_any _).mono ?_
  rintro e w1 ⟨⟨A1, c1, l1, r1⟩, rfl, ht1, -, hb1⟩
  simp only
  have HT1 := Lib.hid ht1; have HB1 := Lib.hid hb1; clear ht1 hb1
  have HNA := Lib.hid (bx1 w1 (.cells #[.int .i64 1, .int .i64 0] 3))
  have HNB := Lib.hid (bx_new w1 (.cells #[.int .i64 1, .int .i64 0] 3))
  go_wp2_with fail
  generalize w1.alloc (.cells #[.int .i64 1, .int .i64 0] 3) = w2 at *
  have HB2 := Lib.hid (Below.step HB1.out HNA.out); have HT2 := Lib.hid (HT1.out.below HNA.out); clear HT1 HNA HB1
  refine (at18_row (v := ⟨A1, c1, l1, r1⟩) HT2.out [1, 0] w1.heap.size 2 2 HNB.out rfl (by decide) (HT.out.below (Below.step HB.out HB2.out))).mono ?_
  rintro e w7 hq
  obtain ⟨A1r, c1r, l1r, r1r, rfl, ht7, hb7⟩ := at_yes at18a (by kernel_rfl) hq
  have HR := Lib.hid (Below.step (Below.step HB2.out hb7) (bx1 w7 (.cells #[.slice A1r l1r.length c1r, .int .i64 r1r] 48)))
  have hk1 := bx_new w7 (.cells #[.slice A1r l1r.length c1r, .int .i64 r1r] 48)
  have HV1 := Lib.hid (ht7.below (bx1 w7 (.cells #[.slice A1r l1r.length c1r, .int .i64 r1r] 48))); clear ht7
  go_upto_region 2 with (fail)
  generalize w7.alloc (.cells #[.slice A1r l1r.length c1r, .int .i64 r1r] 48) = W1 at *
  generalize w7.heap.size = p1 at *
  have HK1 := Lib.hid hk1; clear hk1
  have HB' := Lib.hid (Below.step HB.out HR.out); clear HB; have HB := HB'; clear HB' HR hq hb7 HT2 HB2 HNB
  go_wp2_with fail
  refine (some18_any _).mono ?_
  rintro e w1 ⟨⟨A1, c1, l1, r1⟩, rfl, ht1, -, hb1⟩
  simp only
  have HT1 := Lib.hid ht1; have HB1 := Lib.hid hb1; clear ht1 hb1
  have HNA := Lib.hid (bx1 w1 (.cells #[.int .i64 2] 3))
  have HNB := Lib.hid (bx_new w1 (.cells #[.int .i64 2] 3))
  go_wp2_with fail
  generalize w1.alloc (.cells #[.int .i64 2] 3) = w2 at *
  have HB2 := Lib.hid (Below.step HB1.out HNA.out); have HT2 := Lib.hid (HT1.out.below HNA.out); clear HT1 HNA HB1
  refine (at18_row (v := ⟨A1, c1, l1, r1⟩) HT2.out [2] w1.heap.size 1 1 HNB.out rfl (by decide) (HT.out.below (Below.step HB.out HB2.out))).mono ?_
  rintro e w7 hq
  obtain ⟨rfl, hb7⟩ := hq.2 at18b
  have HR := Lib.hid (Below.step (Below.step HB2.out hb7) (bx1 w7 (.cells #[.slice none 0 0, .int .i64 0] 48)))
  have hk2 := bx_new w7 (.cells #[.slice none 0 0, .int .i64 0] 48)
  go_upto_region 3 with (fail)
  generalize w7.alloc (.cells #[.slice none 0 0, .int .i64 0] 48) = W2 at *
  generalize w7.heap.size = p2 at *
  have HK2 := Lib.hid hk2; clear hk2
  have HK1' := Lib.hid (bx_kept HR.out HK1.out); clear HK1; have HK1 := HK1'; clear HK1'
  have HV1' := Lib.hid (HV1.out.below HR.out); clear HV1; have HV1 := HV1'; clear HV1'
  have HB' := Lib.hid (Below.step HB.out HR.out); clear HB; have HB := HB'; clear HB' HR hq hb7 HT2 HB2 HNB
  go_wp2_with fail
  refine (some18_any _).mono ?_
  rintro e w1 ⟨⟨A1, c1, l1, r1⟩, rfl, ht1, -, hb1⟩
  simp only
  have HT1 := Lib.hid ht1; have HB1 := Lib.hid hb1; clear ht1 hb1
  have HNA := Lib.hid (bx1 w1 (.cells #[.int .i64 1] 3))
  have HNB := Lib.hid (bx_new w1 (.cells #[.int .i64 1] 3))
  go_wp2_with fail
  generalize w1.alloc (.cells #[.int .i64 1] 3) = w2 at *
  have HB2 := Lib.hid (Below.step HB1.out HNA.out); have HT2 := Lib.hid (HT1.out.below HNA.out); clear HT1 HNA HB1
  refine (at18_row (v := ⟨A1, c1, l1, r1⟩) HT2.out [1] w1.heap.size 1 1 HNB.out rfl (by decide) (HT.out.below (Below.step HB.out HB2.out))).mono ?_
  rintro e w7 hq
  obtain ⟨A3r, c3r, l3r, r3r, rfl, ht7, hb7⟩ := at_yes at18c (by kernel_rfl) hq
  have HR := Lib.hid (Below.step (Below.step HB2.out hb7) (bx1 w7 (.cells #[.slice A3r l3r.length c3r, .int .i64 r3r] 48)))
  have hk3 := bx_new w7 (.cells #[.slice A3r l3r.length c3r, .int .i64 r3r] 48)
  have HV3 := Lib.hid (ht7.below (bx1 w7 (.cells #[.slice A3r l3r.length c3r, .int .i64 r3r] 48))); clear ht7
  go_upto_region 4 with (fail)
  generalize w7.alloc (.cells #[.slice A3r l3r.length c3r, .int .i64 r3r] 48) = W3 at *
  generalize w7.heap.size = p3 at *
  have HK3 := Lib.hid hk3; clear hk3
  have HK1' := Lib.hid (bx_kept HR.out HK1.out); clear HK1; have HK1 := HK1'; clear HK1'
  have HV1' := Lib.hid (HV1.out.below HR.out); clear HV1; have HV1 := HV1'; clear HV1'
  have HK2' := Lib.hid (bx_kept HR.out HK2.out); clear HK2; have HK2 := HK2'; clear HK2'
  have HB' := Lib.hid (Below.step HB.out HR.out); clear HB; have HB := HB'; clear HB' HR hq hb7 HT2 HB2 HNB
  go_wp2_with fail
  refine (some18_any _).mono ?_
  rintro e w1 ⟨⟨A1, c1, l1, r1⟩, rfl, ht1, -, hb1⟩
  simp only
  have HT1 := Lib.hid ht1; have HB1 := Lib.hid hb1; clear ht1 hb1
  have HNA := Lib.hid (bx1 w1 (.cells #[.int .i64 0] 3))
  have HNB := Lib.hid (bx_new w1 (.cells #[.int .i64 0] 3))
  go_wp2_with fail
  generalize w1.alloc (.cells #[.int .i64 0] 3) = w2 at *
  have HB2 := Lib.hid (Below.step HB1.out HNA.out); have HT2 := Lib.hid (HT1.out.below HNA.out); clear HT1 HNA HB1
  refine (empty_any _).mono ?_
  rintro e w3 ⟨b3, rfl, hto3, hb3⟩
  have HX := Lib.hid (TY.own (T := one18 emptyLf) hto3 rfl (by kernel_rfl))
  have HT3 := Lib.hid (HT2.out.below hb3); have HB3 := Lib.hid (Below.step HB2.out hb3); have HNC := Lib.hid (bx_kept hb3 HNB.out); clear hto3 hb3 HT2 HB2 HNB
  go_wp2_with fail
  refine (put18_row (v := ⟨A1, c1, l1, r1⟩) (x := leafLt b3 emptyLf) HT3.out HX.out [0] w1.heap.size 1 1 HNC.out rfl (by decide) (HT.out.below (Below.step HB.out HB3.out))).mono ?_
  rintro e w7 hq
  obtain ⟨A4r, c4r, l4r, r4r, rfl, ht7, hb7⟩ := put_yes put18a (by kernel_rfl) hq
  have HR := Lib.hid (Below.step (Below.step HB3.out hb7) (bx1 w7 (.cells #[.slice A4r l4r.length c4r, .int .i64 r4r] 48)))
  have hk4 := bx_new w7 (.cells #[.slice A4r l4r.length c4r, .int .i64 r4r] 48)
  have HV4 := Lib.hid (ht7.below (bx1 w7 (.cells #[.slice A4r l4r.length c4r, .int .i64 r4r] 48))); clear ht7
  go_upto_region 5 with (fail)
  generalize w7.alloc (.cells #[.slice A4r l4r.length c4r, .int .i64 r4r] 48) = W4 at *
  generalize w7.heap.size = p4 at *
  have HK4 := Lib.hid hk4; clear hk4
  have HK1' := Lib.hid (bx_kept HR.out HK1.out); clear HK1; have HK1 := HK1'; clear HK1'
  have HV1' := Lib.hid (HV1.out.below HR.out); clear HV1; have HV1 := HV1'; clear HV1'
  have HK2' := Lib.hid (bx_kept HR.out HK2.out); clear HK2; have HK2 := HK2'; clear HK2'
  have HK3' := Lib.hid (bx_kept HR.out HK3.out); clear HK3; have HK3 := HK3'; clear HK3'
  have HV3' := Lib.hid (HV3.out.below HR.out); clear HV3; have HV3 := HV3'; clear HV3'
  have HB' := Lib.hid (Below.step HB.out HR.out); clear HB; have HB := HB'; clear HB' HR hq hb7 HT3 HB3 HNC HX
  go_wp2_with fail
  refine (some18_any _).mono ?_
  rintro e w1 ⟨⟨A1, c1, l1, r1⟩, rfl, ht1, -, hb1⟩
  simp only
  have HT1 := Lib.hid ht1; have HB1 := Lib.hid hb1; clear ht1 hb1
  have HNA := Lib.hid (bx1 w1 (.cells #[.int .i64 0] 3))
  have HNB := Lib.hid (bx_new w1 (.cells #[.int .i64 0] 3))
  go_wp2_with fail
  generalize w1.alloc (.cells #[.int .i64 0] 3) = w2 at *
  have HB2 := Lib.hid (Below.step HB1.out HNA.out); have HT2 := Lib.hid (HT1.out.below HNA.out); clear HT1 HNA HB1
  refine (rule_any ⟨#[112]⟩ _ (by decide)).mono ?_
  rintro e w3 ⟨b3, rfl, hto3, hb3⟩
  have HX1 := Lib.hid (TY.own (T := one18 (ruleLf ⟨#[112]⟩)) hto3 rfl (by kernel_rfl))
  have HT3 := Lib.hid (HT2.out.below hb3); have HB3 := Lib.hid (Below.step HB2.out hb3); have HNC := Lib.hid (bx_kept hb3 HNB.out); clear hto3 hb3 HT2 HB2 HNB
  go_wp2_with fail
  refine (rule_any ⟨#[113]⟩ _ (by decide)).mono ?_
  rintro e w4 ⟨b4, rfl, hto4, hb4⟩
  have HX2 := Lib.hid (TY.own (T := one18 (ruleLf ⟨#[113]⟩)) hto4 rfl (by kernel_rfl)); have HX3 := Lib.hid (HX1.out.below hb4)
  have HT4 := Lib.hid (HT3.out.below hb4); have HB4 := Lib.hid (Below.step HB3.out hb4); have HND := Lib.hid (bx_kept hb4 HNC.out); clear hto4 hb4 HT3 HB3 HNC HX1
  have HMA := Lib.hid (bx1 w4 (.cells #[.slice (some ⟨b3, 0, none⟩) 1 1, .int .i64 0, .slice (some ⟨b4, 0, none⟩) 1 1, .int .i64 0] 48))
  have HMB := Lib.hid (bx_new w4 (.cells #[.slice (some ⟨b3, 0, none⟩) 1 1, .int .i64 0, .slice (some ⟨b4, 0, none⟩) 1 1, .int .i64 0] 48))
  go_wp2_with fail
  generalize w4.alloc (.cells #[.slice (some ⟨b3, 0, none⟩) 1 1, .int .i64 0, .slice (some ⟨b4, 0, none⟩) 1 1, .int .i64 0] 48) = w5 at *
  have HC5 := Lib.hid (of18_row (kind18 4) [leafLt b3 (ruleLf ⟨#[112]⟩), leafLt b4 (ruleLf ⟨#[113]⟩)] _ w4.heap.size w5 (kind18_wf _ (by decide)) HMB.out rfl (row18 (HX3.out.below HMA.out) (HX2.out.below HMA.out)) (by simp) (by kernel_rfl) (by kernel_rfl) (.slice none 0 0) 2 2 rfl)
  refine HC5.out.mono ?_
  rintro e w6 ⟨⟨A6, c6, l6, r6⟩, rfl, ht6, -, hb6⟩
  simp only
  have HX := Lib.hid ht6; have hbz := Below.step HMA.out hb6
  have HT6 := Lib.hid (HT4.out.below hbz); have HB6 := Lib.hid (Below.step HB4.out hbz); have HNE := Lib.hid (bx_kept hbz HND.out); clear ht6 hb6 hbz HT4 HB4 HND HX3 HX2 HMA HMB HC5
  go_wp2_with fail
  refine (put18_row (v := ⟨A1, c1, l1, r1⟩) (x := ⟨A6, c6, l6, r6⟩) HT6.out HX.out [0] w1.heap.size 1 1 HNE.out rfl (by decide) (HT.out.below (Below.step HB.out HB6.out))).mono ?_
  rintro e w7 hq
  obtain ⟨A5r, c5r, l5r, r5r, rfl, ht7, hb7⟩ := put_yes put18b (by kernel_rfl) hq
  have HR := Lib.hid (Below.step (Below.step HB6.out hb7) (bx1 w7 (.cells #[.slice A5r l5r.length c5r, .int .i64 r5r] 48)))
  have hk5 := bx_new w7 (.cells #[.slice A5r l5r.length c5r, .int .i64 r5r] 48)
  have HV5 := Lib.hid (ht7.below (bx1 w7 (.cells #[.slice A5r l5r.length c5r, .int .i64 r5r] 48))); clear ht7
  go_upto_region 6 with (fail)
  generalize w7.alloc (.cells #[.slice A5r l5r.length c5r, .int .i64 r5r] 48) = W5 at *
  generalize w7.heap.size = p5 at *
  have HK5 := Lib.hid hk5; clear hk5
  have HK1' := Lib.hid (bx_kept HR.out HK1.out); clear HK1; have HK1 := HK1'; clear HK1'
  have HV1' := Lib.hid (HV1.out.below HR.out); clear HV1; have HV1 := HV1'; clear HV1'
  have HK2' := Lib.hid (bx_kept HR.out HK2.out); clear HK2; have HK2 := HK2'; clear HK2'
  have HK3' := Lib.hid (bx_kept HR.out HK3.out); clear HK3; have HK3 := HK3'; clear HK3'
  have HV3' := Lib.hid (HV3.out.below HR.out); clear HV3; have HV3 := HV3'; clear HV3'
  have HK4' := Lib.hid (bx_kept HR.out HK4.out); clear HK4; have HK4 := HK4'; clear HK4'
  have HV4' := Lib.hid (HV4.out.below HR.out); clear HV4; have HV4 := HV4'; clear HV4'
  have HB' := Lib.hid (Below.step HB.out HR.out); clear HB; have HB := HB'; clear HB' HR hq hb7 HT6 HB6 HNE HX
  have HBW := Lib.hid HB.out; clear HB
  have HSB := Lib.hid (show ∀ w', Below W5.heap.size W5 w' → w'.cell? ⟨p1, 0, none⟩ = some (.slice A1r l1r.length c1r) ∧ w'.cell? ⟨p1, 1, none⟩ = some (.int .i64 r1r) ∧ w'.cell? ⟨p3, 0, none⟩ = some (.slice A3r l3r.length c3r) ∧ w'.cell? ⟨p3, 1, none⟩ = some (.int .i64 r3r) ∧ w'.cell? ⟨p4, 0, none⟩ = some (.slice A4r l4r.length c4r) ∧ w'.cell? ⟨p4, 1, none⟩ = some (.int .i64 r4r) ∧ w'.cell? ⟨p5, 0, none⟩ = some (.slice A5r l5r.length c5r) ∧ w'.cell? ⟨p5, 1, none⟩ = some (.int .i64 r5r) from fun w' h => by
    obtain ⟨x1, y1, _, _⟩ := blk2 (bx_kept h HK1.out)
    obtain ⟨x3, y3, _, _⟩ := blk2 (bx_kept h HK3.out)
    obtain ⟨x4, y4, _, _⟩ := blk2 (bx_kept h HK4.out)
    obtain ⟨x5, y5, _, _⟩ := blk2 (bx_kept h HK5.out)
    exact ⟨x1, y1, x3, y3, x4, y4, x5, y5⟩)
  have HM1 := Lib.hid (show ∀ w', Below W5.heap.size W5 w' → TY w' _ ⟨A1r, c1r, l1r, r1r⟩ from fun w' h => HV1.out.below h)
  have HM3 := Lib.hid (show ∀ w', Below W5.heap.size W5 w' → TY w' _ ⟨A3r, c3r, l3r, r3r⟩ from fun w' h => HV3.out.below h)
  have HM4 := Lib.hid (show ∀ w', Below W5.heap.size W5 w' → TY w' _ ⟨A4r, c4r, l4r, r4r⟩ from fun w' h => HV4.out.below h)
  have HM5 := Lib.hid (show ∀ w', Below W5.heap.size W5 w' → TY w' _ ⟨A5r, c5r, l5r, r5r⟩ from fun w' h => HV5.out.below h)
  clear HK1 HK2 HK3 HK4 HK5 HV1 HV3 HV4 HV5 HT
  have HB := Lib.hid (Below.refl W5.heap.size W5)
  go_region_held3 (fun w' => w'.cell? ⟨p1, 0, none⟩ = some (.slice A1r l1r.length c1r) ∧ w'.cell? ⟨p1, 1, none⟩ = some (.int .i64 r1r) ∧ w'.cell? ⟨p3, 0, none⟩ = some (.slice A3r l3r.length c3r) ∧ w'.cell? ⟨p3, 1, none⟩ = some (.int .i64 r3r) ∧ w'.cell? ⟨p4, 0, none⟩ = some (.slice A4r l4r.length c4r) ∧ w'.cell? ⟨p4, 1, none⟩ = some (.int .i64 r4r) ∧ w'.cell? ⟨p5, 0, none⟩ = some (.slice A5r l5r.length c5r) ∧ w'.cell? ⟨p5, 1, none⟩ = some (.int .i64 r5r))
    (exact HSB.out _ (by first | exact HB.out | exact HB.out.drew | exact below_al18 HB.out _ (Nat.le_refl _) | exact below_al18 HB.out.drew _ (Nat.le_refl _) | exact (below_al18 HB.out _ (Nat.le_refl _)).drew))
    (first
      | (go_at_call 84; (with_reducible refine (rule_any ⟨#[120]⟩ _ (by decide)).mono ?_); rintro e wa ⟨ba, rfl, hto, hb⟩; have HB' := Lib.hid (Below.step (by first | exact HB.out | exact HB.out.drew | exact below_al18 HB.out _ (Nat.le_refl _) | exact below_al18 HB.out.drew _ (Nat.le_refl _) | exact (below_al18 HB.out _ (Nat.le_refl _)).drew) hb); clear HB; have HB := HB'; clear HB'; have HXa := Lib.hid (show ∀ w', Below wa.heap.size wa w' → TY w' (one18 (ruleLf ⟨#[120]⟩)) (leafLt ba (ruleLf ⟨#[120]⟩)) from fun w' h => (TY.own (T := one18 (ruleLf ⟨#[120]⟩)) hto rfl (by kernel_rfl)).below h); clear hto hb)
      | (go_at_call 43; (refine (exact18 (HM1.out _ (by first | exact HB.out | exact HB.out.drew | exact below_al18 HB.out _ (Nat.le_refl _) | exact below_al18 HB.out.drew _ (Nat.le_refl _) | exact (below_al18 HB.out _ (Nat.le_refl _)).drew)) (HXa.out _ (by first | exact Below.refl _ _ | exact (Below.refl _ _).drew | exact bx1 _ _ | exact bx2 _ _ _ | exact (bx1 _ _).drew))).mono ?_); rintro e wb ⟨rfl, hb⟩; have HB' := Lib.hid (Below.step (by first | exact HB.out | exact HB.out.drew | exact below_al18 HB.out _ (Nat.le_refl _) | exact below_al18 HB.out.drew _ (Nat.le_refl _) | exact (below_al18 HB.out _ (Nat.le_refl _)).drew) hb); clear HB; have HB := HB'; clear HB'; clear hb HXa)
      | (go_at_call 43; (with_reducible refine (exact18 (HM4.out _ (by first | exact HB.out | exact HB.out.drew | exact below_al18 HB.out _ (Nat.le_refl _) | exact below_al18 HB.out.drew _ (Nat.le_refl _) | exact (below_al18 HB.out _ (Nat.le_refl _)).drew)) (HM3.out _ (by first | exact HB.out | exact HB.out.drew | exact below_al18 HB.out _ (Nat.le_refl _) | exact below_al18 HB.out.drew _ (Nat.le_refl _) | exact (below_al18 HB.out _ (Nat.le_refl _)).drew))).mono ?_); rintro e wc ⟨rfl, hb⟩; have HB' := Lib.hid (Below.step (by first | exact HB.out | exact HB.out.drew | exact below_al18 HB.out _ (Nat.le_refl _) | exact below_al18 HB.out.drew _ (Nat.le_refl _) | exact (below_al18 HB.out _ (Nat.le_refl _)).drew) hb); clear HB; have HB := HB'; clear HB'; clear hb)
      | (go_at_call 84; (with_reducible refine (rule_any ⟨#[112]⟩ _ (by decide)).mono ?_); rintro e wd ⟨bd, rfl, hto, hb⟩; have HB' := Lib.hid (Below.step (by first | exact HB.out | exact HB.out.drew | exact below_al18 HB.out _ (Nat.le_refl _) | exact below_al18 HB.out.drew _ (Nat.le_refl _) | exact (below_al18 HB.out _ (Nat.le_refl _)).drew) hb); clear HB; have HB := HB'; clear HB'; have HXd := Lib.hid (show ∀ w', Below wd.heap.size wd w' → TY w' (one18 (ruleLf ⟨#[112]⟩)) (leafLt bd (ruleLf ⟨#[112]⟩)) from fun w' h => (TY.own (T := one18 (ruleLf ⟨#[112]⟩)) hto rfl (by kernel_rfl)).below h); clear hto hb)
      | (go_at_call 84; (with_reducible refine (rule_any ⟨#[113]⟩ _ (by decide)).mono ?_); rintro e we ⟨be, rfl, hto, hb⟩; have HB' := Lib.hid (Below.step (by first | exact HB.out | exact HB.out.drew | exact below_al18 HB.out _ (Nat.le_refl _) | exact below_al18 HB.out.drew _ (Nat.le_refl _) | exact (below_al18 HB.out _ (Nat.le_refl _)).drew) hb); clear HB; have HB := HB'; clear HB'; have HXe := Lib.hid (show ∀ w', Below we.heap.size we w' → TY w' (one18 (ruleLf ⟨#[112]⟩)) (leafLt bd (ruleLf ⟨#[112]⟩)) ∧ TY w' (one18 (ruleLf ⟨#[113]⟩)) (leafLt be (ruleLf ⟨#[113]⟩)) from fun w' h => ⟨HXd.out _ (Below.step (by first | exact Below.refl _ _ | exact (Below.refl _ _).drew | exact bx1 _ _ | exact bx2 _ _ _ | exact (bx1 _ _).drew) (Below.step hb h)), (TY.own (T := one18 (ruleLf ⟨#[113]⟩)) hto rfl (by kernel_rfl)).below h⟩); clear hto hb HXd)
      | (go_at_call 40; (refine (of18_three (n := kind18 4) (a := leafLt bd (ruleLf ⟨#[112]⟩)) (b := leafLt be (ruleLf ⟨#[113]⟩)) (c := ⟨A3r, c3r, l3r, r3r⟩) (w := we) (kind18_wf _ (by decide)) (HXe.out we (Below.refl _ _)).1 (HXe.out we (Below.refl _ _)).2 (HM3.out we HB.out) okpqc18 smpqc18).mono ?_); rintro e wf ⟨Af, cf, lf, rf, rfl, htf, hb⟩; have HB' := Lib.hid (Below.step (by first | exact HB.out | exact HB.out.drew | exact below_al18 HB.out _ (Nat.le_refl _) | exact below_al18 HB.out.drew _ (Nat.le_refl _) | exact (below_al18 HB.out _ (Nat.le_refl _)).drew) hb); clear HB; have HB := HB'; clear HB'; have HXf := Lib.hid htf; clear htf hb HXe)
      | (go_at_call 43; (with_reducible refine (exact18 (HM5.out _ (by first | exact HB.out | exact HB.out.drew | exact below_al18 HB.out _ (Nat.le_refl _) | exact below_al18 HB.out.drew _ (Nat.le_refl _) | exact (below_al18 HB.out _ (Nat.le_refl _)).drew)) (HXf.out.below (by first | exact Below.refl _ _ | exact (Below.refl _ _).drew | exact bx1 _ _ | exact bx2 _ _ _ | exact (bx1 _ _).drew))).mono ?_); rintro e wg ⟨rfl, hb⟩; have HB' := Lib.hid (Below.step (by first | exact HB.out | exact HB.out.drew | exact below_al18 HB.out _ (Nat.le_refl _) | exact below_al18 HB.out.drew _ (Nat.le_refl _) | exact (below_al18 HB.out _ (Nat.le_refl _)).drew) hb); clear HB; have HB := HB'; clear HB'; clear hb HXf)
      | fail)
  all_goals go_wp2_with fail
  all_goals go_ret
  all_goals exact ⟨rfl, Below.step HBW.out HB.out⟩
end Go.Proofs.YtmjkgnknfgoadaaGreatDoor
