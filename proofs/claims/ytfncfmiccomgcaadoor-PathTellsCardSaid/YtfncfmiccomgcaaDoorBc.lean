/- The contracts of the law's of and some; the examples' trees. -/
import Derived.Test.YtfncfmiccomgcaaDoorRc
import Derived.Test.YtfncfmiccomgcaaDoorTl
import Derived.Test.YtfncfmiccomgcaaDoorAw
namespace Go.Proofs.YtfncfmiccomgcaaDoor
open Go.RowKit
set_option linter.unusedSimpArgs false
set_option linter.unusedVariables false

set_option maxRecDepth 100000 in
set_option maxHeartbeats 3200000 in
theorem of18_any (n : Nd) (K : Value) (L : Option Addr) (lc : Nat) (ks : List Lt) (S : Nat → Prop) (w : World) (hn : n.wf) (hL : ttL.row w S L ks) (hl : ks.length ≤ 16777216) (hsum : (ks.map fun t => t.ls.length).sum ≤ 16777216) (hkk : ∀ t ∈ ks, (∀ l ∈ t.ls, l.nd.kids.length ≤ 4294967296) ∧ (kidsOf (t.ls.map Ln.nd)).length ≤ 4611686018427387904) (hok : okT n (ks.map Lt.tr) = true) :
    Calls Tryd.prog 23 #[ndV n K, .slice L ks.length lc] w (TreePost (ofT n (ks.map Lt.tr)) w) := by
  have HB0 := Lib.hid (bx2 w (.cells #[.int .u8 n.kind, .int .u64 n.s0, .int .u64 n.s1, .int .u64 n.s2, .int .u64 n.s3, .string n.text, .int .i64 n.mn, .int .i64 n.mx, K] 56) (.cells #[.slice none 0 0, .int .i64 0] 24))
  have hk := bx_new (w.alloc (.cells #[.int .u8 n.kind, .int .u64 n.s0, .int .u64 n.s1, .int .u64 n.s2, .int .u64 n.s3, .string n.text, .int .i64 n.mn, .int .i64 n.mx, K] 56)) (.cells #[.slice none 0 0, .int .i64 0] 24)
  rw [World.size_alloc] at hk
  have HK0 := Lib.hid hk; clear hk
  have HC := Lib.hid (rof_any n K L lc ks S _ hn (hL.below HB0.out) hl hsum hkk hok)
  clear hn hL hsum hkk hok
  unfold TreePost
  go_enter Tryd.func23, Tryd.ntmps23
  go_wp2_with fail
  refine HC.out.mono ?_
  rintro e w1 ⟨⟨A, c, ls, root⟩, he, htr, hto, hb⟩
  simp only [Lt.val] at he; subst he
  have HTR := Lib.hid htr; have HTO := Lib.hid hto; have HB1 := Lib.hid (Below.step HB0.out hb); have HK1 := Lib.hid (bx_kept hb HK0.out)
  have HZ := Lib.hid (show w.heap.size + 2 ≤ w1.heap.size ∧ ∀ x, (((w.alloc (.cells #[.int .u8 n.kind, .int .u64 n.s0, .int .u64 n.s1, .int .u64 n.s2, .int .u64 n.s3, .string n.text, .int .i64 n.mn, .int .i64 n.mx, K] 56)).alloc (.cells #[.slice none 0 0, .int .i64 0] 24)).heap.size ≤ x ↔ w.heap.size + 2 ≤ x) from ⟨by have := hb.size; simp at this; omega, fun x => by simp⟩)
  clear htr hto hb HB0 HK0 HC
  have HN := Lib.hid (bx_new w1 (.cells #[.slice A ls.length c, .int .i64 root] 24))
  obtain ⟨q1, q2, _, _⟩ := blk2 HN.out
  obtain ⟨t1, t2, t3, t4⟩ := blk2 (bx_old (p := .cells #[.slice A ls.length c, .int .i64 root] 24) HK1.out)
  go_wp2_with fail
  refine bodyPost_ret (v := .agg #[.slice A ls.length c, .int .i64 root]) (by simp [results, Tryd.results23, go_sem, t1, t2]) rfl ?_
  refine ⟨⟨A, c, ls, root⟩, rfl, HTR.out, ?_, ?_⟩
  · have h := HTO.out.below (bx1 w1 (.cells #[.slice A ls.length c, .int .i64 root] 24))
    refine (h.agree (fun x hx _ => ?_)).mono (fun x _ hx => ?_)
    · have hx := (HZ.out.2 x).1 hx
      exact (Below.heap_setCell _ _ _ _ (by show x ≠ w.heap.size + 1; omega)).trans (Below.heap_setCell _ _ _ _ (by show x ≠ w.heap.size + 1; omega))
    · have hx := (HZ.out.2 x).1 hx
      show w.heap.size ≤ x; omega
  · exact ((HB1.out.alloc (by have := HZ.out.1; omega) _).setCell (p := ⟨w.heap.size + 1, 0, none⟩) (by simp) _).setCell (p := ⟨w.heap.size + 1, 1, none⟩) (by simp) _

/-! ### trees of the examples -/
def smallTy (T : Tr) : Bool := decide (T.nodes.length ≤ 1000) && (T.nodes.all fun n => decide (n.kids.length ≤ 1000)) && decide ((kidsOf T.nodes).length ≤ 1000)
structure TY (w : World) (T : Tr) (t : Lt) : Prop where
  inn : t.inn w (fun _ => True)
  tr : t.tr = T
  small : smallTy T = true
theorem TY.below {w w' : World} {T : Tr} {t : Lt} (h : TY w T t) (hb : Below w.heap.size w w') : TY w' T t := ⟨h.inn.below hb, h.tr, h.small⟩
theorem TY.len {w : World} {T : Tr} {t : Lt} (h : TY w T t) : t.ls.length ≤ 1000 ∧ (∀ l ∈ t.ls, l.nd.kids.length ≤ 1000) ∧ (kidsOf (t.ls.map Ln.nd)).length ≤ 1000 := by
  have h1 := h.small
  simp only [smallTy, Bool.and_eq_true, decide_eq_true_eq, List.all_eq_true] at h1
  have h2 : T.nodes = t.ls.map Ln.nd := by rw [← h.tr]; rfl
  rw [h2] at h1
  refine ⟨by simpa using h1.1.1, fun l hl => h1.1.2 _ (List.mem_map.2 ⟨l, hl, rfl⟩), h1.2⟩
theorem TY.own {w' : World} {S : Nat → Prop} {T : Tr} {t : Lt} (h : TreeOwn w' S t) (e : t.tr = T) (hs : smallTy T = true) : TY w' T t := ⟨h.inn.mono (fun _ _ _ => trivial), e, hs⟩
/-- A tree, just told. -/
def TyPost (T : Tr) (w : World) (e : Ending) (w' : World) : Prop := ∃ v : Lt, e = .returned (.agg #[.slice v.A v.ls.length v.c, .int .i64 v.root]) ∧ TY w' T v ∧ TreeOwn w' (w.heap.size ≤ ·) v ∧ Below w.heap.size w w'
theorem of18_row (n : Nd) (ks : List Lt) (Ts : List Tr) (nb : Nat) (w : World) (hn : n.wf) (hh : w.heap[nb]? = some (.cells (ttL.all ks).toArray 24 (0, 0))) (hT : ks.map Lt.tr = Ts) (hk : ∀ t ∈ ks, ∃ T, TY w T t) (hl : ks.length ≤ 4) (hok : okT n Ts = true) (hs : smallTy (ofT n Ts) = true) (K : Value) (m lc : Nat) (hm : ks.length = m) :
    Calls Tryd.prog 23 #[ndV n K, .slice (some ⟨nb, 0, none⟩) m lc] w (TyPost (ofT n Ts) w) := by
  subst hT hm
  have hrow : ttL.row w (fun _ => True) (some ⟨nb, 0, none⟩) ks := ⟨⟨row_blk hh, fun _ _ _ => trivial⟩, fun t ht => by
    obtain ⟨T, h⟩ := hk t ht; exact h.inn⟩
  have hsum : (ks.map fun t => t.ls.length).sum ≤ 1000 * ks.length := by
    clear hrow hok hs hl hh
    induction ks with
    | nil => simp
    | cons a ks ih =>
      have h1 := ih (fun t ht => hk t (List.mem_cons_of_mem _ ht))
      obtain ⟨T, h⟩ := hk a List.mem_cons_self
      have h2 := h.len.1
      simp only [List.map_cons, List.sum_cons, List.length_cons]; omega
  refine (of18_any n K (some ⟨nb, 0, none⟩) lc ks _ w hn hrow (by omega) (by omega) (fun t ht => ?_) hok).mono ?_
  · obtain ⟨T, h⟩ := hk t ht
    have h2 := h.len
    exact ⟨fun l hl => by have := h2.2.1 l hl; omega, by have := h2.2.2; omega⟩
  · rintro e w' ⟨v, rfl, htr, hto, hb⟩
    exact ⟨v, rfl, .own hto htr hs, hto, hb⟩
/-- The kinds of the examples' nodes. -/
def kind18 (k : Int) : Nd := ⟨k, 0, 0, 0, 0, ⟨#[]⟩, 0, 0, []⟩
theorem kind18_wf (k : Int) (h : 0 ≤ k ∧ k ≤ 255) : (kind18 k).wf := ⟨h, by simp [kind18]; decide, by simp [kind18], by simp [kind18, U64], by simp [kind18, U64], by simp [kind18, U64], by simp [kind18, U64]⟩
def one18 (n : Nd) : Tr := ⟨[n], 0⟩
abbrev cho18 : Tr := ofT (kind18 5) [one18 (ruleLf ⟨#[120]⟩), one18 (ruleLf ⟨#[121]⟩)]
abbrev some18 : Tr := ofT (kind18 4) [one18 (textLf ⟨#[97]⟩), cho18]
theorem okc18 : okT (kind18 5) [one18 (ruleLf ⟨#[120]⟩), one18 (ruleLf ⟨#[121]⟩)] = true := by kernel_rfl
theorem oks18 : okT (kind18 4) [one18 (textLf ⟨#[97]⟩), cho18] = true := by kernel_rfl
theorem at18a : (atT some18 [1, 0]).map treeOf = some (one18 (ruleLf ⟨#[120]⟩)) := by kernel_rfl
theorem at18b : atT some18 [2] = none := by kernel_rfl
theorem at18c : (atT some18 [1]).map treeOf = some cho18 := by kernel_rfl
theorem put18a : (putT some18 [0] (one18 emptyLf)).map (fun y => treeOf (makeTT y)) = some cho18 := by kernel_rfl
theorem put18b : (putT some18 [0] (ofT (kind18 4) [one18 (ruleLf ⟨#[112]⟩), one18 (ruleLf ⟨#[113]⟩)])).map (fun y => treeOf (makeTT y)) = some (ofT (kind18 4) [one18 (ruleLf ⟨#[112]⟩), one18 (ruleLf ⟨#[113]⟩), cho18]) := by kernel_rfl

theorem row18 {w : World} {a b : Lt} {S T : Tr} (ha : TY w S a) (hb : TY w T b) : ∀ t ∈ [a, b], ∃ T, TY w T t := fun t ht => by
  simp only [List.mem_cons, List.not_mem_nil, or_false] at ht
  rcases ht with rfl | rfl
  · exact ⟨_, ha⟩
  · exact ⟨_, hb⟩
/-- A leaf, just made. -/
abbrev leafLt (b : Nat) (n : Nd) : Lt := ⟨some ⟨b, 0, none⟩, 1, [⟨n, none, 0⟩], 0⟩
set_option maxRecDepth 100000 in
set_option maxHeartbeats 3200000 in
theorem some18_any (w : World) : Calls Tryd.prog 21 #[] w (TyPost some18 w) := by
  unfold TyPost
  go_enter Tryd.func21, Tryd.ntmps21
  have HB0 := Lib.hid (bx1 w (.cells #[.slice none 0 0, .int .i64 0] 24))
  have HK0 := Lib.hid (bx_new w (.cells #[.slice none 0 0, .int .i64 0] 24))
  have HS0 := Lib.hid (show (w.alloc (.cells #[.slice none 0 0, .int .i64 0] 24)).heap.size = w.heap.size + 1 from by simp)
  go_wp2_with fail
  generalize w.alloc (.cells #[.slice none 0 0, .int .i64 0] 24) = W0 at *
  refine (text_any ⟨#[97]⟩ _ (by decide)).mono ?_
  rintro e w1 ⟨b1, rfl, hto1, hb1⟩
  have HT1 := Lib.hid (TY.own (T := one18 (textLf ⟨#[97]⟩)) hto1 rfl rfl)
  have HB1 := Lib.hid hb1
  clear hto1 hb1
  go_wp2_with fail
  refine (rule_any ⟨#[120]⟩ _ (by decide)).mono ?_
  rintro e w2 ⟨b2, rfl, hto2, hb2⟩
  have HT2 := Lib.hid (TY.own (T := one18 (ruleLf ⟨#[120]⟩)) hto2 rfl rfl)
  have HB2 := Lib.hid hb2
  clear hto2 hb2
  go_wp2_with fail
  refine (rule_any ⟨#[121]⟩ _ (by decide)).mono ?_
  rintro e w3 ⟨b3, rfl, hto3, hb3⟩
  have HT3 := Lib.hid (TY.own (T := one18 (ruleLf ⟨#[121]⟩)) hto3 rfl rfl)
  have HB3 := Lib.hid hb3
  clear hto3 hb3
  have HNA := Lib.hid (bx1 w3 (.cells #[.slice (some ⟨b2, 0, none⟩) 1 1, .int .i64 0, .slice (some ⟨b3, 0, none⟩) 1 1, .int .i64 0] 24))
  have HNB := Lib.hid (bx_new w3 (.cells #[.slice (some ⟨b2, 0, none⟩) 1 1, .int .i64 0, .slice (some ⟨b3, 0, none⟩) 1 1, .int .i64 0] 24))
  go_wp2_with fail
  generalize w3.alloc (.cells #[.slice (some ⟨b2, 0, none⟩) 1 1, .int .i64 0, .slice (some ⟨b3, 0, none⟩) 1 1, .int .i64 0] 24) = w4 at *
  have HC5 := Lib.hid (of18_row (kind18 5) [leafLt b2 (ruleLf ⟨#[120]⟩), leafLt b3 (ruleLf ⟨#[121]⟩)] _ w3.heap.size w4 (kind18_wf _ (by decide)) HNB.out rfl (row18 ((HT2.out.below HB3.out).below HNA.out) (HT3.out.below HNA.out)) (by simp) okc18 (by kernel_rfl) (.slice none 0 0) 2 2 rfl)
  refine HC5.out.mono ?_
  rintro e w5 ⟨⟨A5, c5, l5, r5⟩, rfl, ht5, hto5, hb5⟩
  simp only
  have HT5 := Lib.hid ht5
  have HB5 := Lib.hid (show Below W0.heap.size W0 w5 from Below.step (Below.step (Below.step (Below.step HB1.out HB2.out) HB3.out) HNA.out) hb5)
  have HT15 := Lib.hid ((((HT1.out.below HB2.out).below HB3.out).below HNA.out).below hb5)
  clear ht5 hto5 hb5 HC5 HNA HNB HT2 HT3 HB1 HB2 HB3 HT1
  have HNA := Lib.hid (bx1 w5 (.cells #[.slice (some ⟨b1, 0, none⟩) 1 1, .int .i64 0, .slice A5 l5.length c5, .int .i64 r5] 24))
  have HNB := Lib.hid (bx_new w5 (.cells #[.slice (some ⟨b1, 0, none⟩) 1 1, .int .i64 0, .slice A5 l5.length c5, .int .i64 r5] 24))
  go_wp2_with fail
  generalize w5.alloc (.cells #[.slice (some ⟨b1, 0, none⟩) 1 1, .int .i64 0, .slice A5 l5.length c5, .int .i64 r5] 24) = w6 at *
  have HC7 := Lib.hid (of18_row (kind18 4) [leafLt b1 (textLf ⟨#[97]⟩), ⟨A5, c5, l5, r5⟩] [one18 (textLf ⟨#[97]⟩), cho18] w5.heap.size w6 (kind18_wf _ (by decide)) HNB.out (by simp only [List.map_cons, List.map_nil]; rw [HT5.out.tr]; rfl) (row18 (HT15.out.below HNA.out) (HT5.out.below HNA.out)) (by simp) oks18 (by kernel_rfl) (.slice none 0 0) 2 2 rfl)
  refine HC7.out.mono ?_
  rintro e w7 ⟨⟨A7, c7, l7, r7⟩, rfl, ht7, hto7, hb7⟩
  simp only
  have HT7 := Lib.hid ht7; have HO7 := Lib.hid hto7
  have HB7 := Lib.hid (show Below W0.heap.size W0 w7 from Below.step (Below.step HB5.out HNA.out) hb7)
  have HZ7 := Lib.hid (show w.heap.size + 1 ≤ w6.heap.size from by have h1 := HS0.out; have h2 := HB5.out.size; have h3 := HNA.out.size; omega)
  clear ht7 hto7 hb7 HC7 HNA HNB HT5 HT15 HB5
  obtain ⟨t1, t2, t3, t4⟩ := blk2 (bx_kept HB7.out HK0.out)
  go_wp2_with fail
  refine bodyPost_ret (v := .agg #[.slice A7 l7.length c7, .int .i64 r7]) (by simp [results, Tryd.results21, go_sem, t1, t2]) rfl ?_
  have hs : ∀ y, y ≠ w.heap.size → ((w7.setCell ⟨w.heap.size, 0, none⟩ (.slice A7 l7.length c7)).setCell ⟨w.heap.size, 1, none⟩ (.int .i64 r7)).heap[y]? = w7.heap[y]? := fun y hy => (Below.heap_setCell _ _ _ _ hy).trans (Below.heap_setCell _ _ _ _ hy)
  have hz := HZ7.out
  have hto : TreeOwn ((w7.setCell ⟨w.heap.size, 0, none⟩ (.slice A7 l7.length c7)).setCell ⟨w.heap.size, 1, none⟩ (.int .i64 r7)) (w.heap.size ≤ ·) ⟨A7, c7, l7, r7⟩ := (HO7.out.agree (fun y hy _ => hs y (by have hy : w6.heap.size ≤ y := hy; omega))).mono (fun y _ hy => by have hy : w6.heap.size ≤ y := hy; show w.heap.size ≤ y; omega)
  exact ⟨⟨A7, c7, l7, r7⟩, rfl, .own hto HT7.out.tr HT7.out.small, hto, ((Below.step HB0.out HB7.out).setCell (p := ⟨w.heap.size, 0, none⟩) (Nat.le_refl _) _).setCell (p := ⟨w.heap.size, 1, none⟩) (Nat.le_refl _) _⟩
end Go.Proofs.YtfncfmiccomgcaaDoor
