/- The walk of the statement PathPut. -/
import Derived.Test.YtfncfmiccomgcaaDoorBb
import Derived.Test.YtfncfmiccomgcaaDoorBd
import Derived.Test.YtfncfmiccomgcaaDoorNm
import Derived.Deep.DeepCutAuto
import Derived.Deep.Cut
import Derived.Deep.CutRange
import Derived.Deep.RegionHeld3
namespace Go.Proofs.YtfncfmiccomgcaaDoor
open Go.RowKit
set_option linter.unusedSimpArgs false
set_option linter.unusedVariables false

/-- A tree that lies there. -/
def Lies (w : World) (T : Tr) (A : Option Addr) (c : Nat) (ls : List Ln) (r : Int) : Prop := ndL.row w (fun _ => True) A ls ∧ (⟨ls.map Ln.nd, r⟩ : Tr) = T
theorem Lies.below {w w' : World} {T : Tr} {A : Option Addr} {c : Nat} {ls : List Ln} {r : Int} (h : Lies w T A c ls r) (hb : Below w.heap.size w w') : Lies w' T A c ls r := ⟨h.1.below hb, h.2⟩
theorem Lies.len {w : World} {T : Tr} {A : Option Addr} {c : Nat} {ls : List Ln} {r : Int} (h : Lies w T A c ls r) : ls.length = T.nodes.length := by rw [← h.2]; simp
/-- A tree just made, that lies in new memory. -/
def LiesO (b : Nat) (w : World) (T : Tr) (A : Option Addr) (c : Nat) (ls : List Ln) (r : Int) : Prop := ndL.row w (b ≤ ·) A ls ∧ (⟨ls.map Ln.nd, r⟩ : Tr) = T
theorem LiesO.lies {b : Nat} {w : World} {T : Tr} {A : Option Addr} {c : Nat} {ls : List Ln} {r : Int} (h : LiesO b w T A c ls r) : Lies w T A c ls r := ⟨h.1.mono (fun _ _ _ => trivial), h.2⟩
def TupPost (R : Tr) (w : World) (e : Ending) (w' : World) : Prop := ∃ A c ls r, e = .returned (.tuple #[.agg #[.slice A ls.length c, .int .i64 r], .bool true]) ∧ LiesO w.heap.size w' R A c ls r ∧ Below w.heap.size w w'
theorem GotPost.tup {R : Tr} {w w' : World} {e : Ending} (h : GotPost R w e w') : TupPost R w e w' := by
  obtain ⟨⟨A, c, ls, r⟩, rfl, h1, h2, h3⟩ := h
  exact ⟨A, c, ls, r, rfl, ⟨h2.inn.2, h1⟩, h3⟩
theorem exact_lies {w : World} {T : Tr} {A B : Option Addr} {c d : Nat} {ls ms : List Ln} {r s : Int} (ha : Lies w T A c ls r) (hb : Lies w T B d ms s) (hl : ls.length ≤ 281474976710656) :
    Calls Tryd.prog 13 #[.agg #[.slice A ls.length c, .int .i64 r], .agg #[.slice B ms.length d, .int .i64 s]] w fun e w' => e = .returned (.bool true) ∧ Below w.heap.size w w' := by
  have e := ha.2.trans hb.2.symm
  have e1 : r = s := congrArg Tr.root e
  subst e1
  exact exact4_any A B c d ls ms r _ _ w ha.1 hb.1 (congrArg Tr.nodes e) hl
theorem at_lies {w : World} {T : Tr} {A PA : Option Addr} {c pc : Nat} {ls : List Ln} {r : Int} {p : List Int} {n : Nat} (hn : p.length = n) (hT : Lies w T A c ls r) (hP : intL.row w (fun _ => True) PA p) (hl : ls.length ≤ 4294967296) (hpl : p.length ≤ 4611686018427387904) (ht : CntTab w) {y : TT} (h : atT T p = some y) :
    Calls Tryd.prog 9 #[.agg #[.slice A ls.length c, .int .i64 r], .slice PA n pc] w (TupPost (treeOf y) w) := by
  subst hn
  refine (at_any A c ls r PA pc p _ _ w hT.1 hP hl hpl ht).mono ?_
  rintro e w' hq
  rw [hT.2] at hq
  exact (hq.1 y h).tup
theorem put_lies {w : World} {T X : Tr} {A PA XA : Option Addr} {c pc xc : Nat} {ls xs : List Ln} {r xr : Int} {p : List Int} {n : Nat} (hn : p.length = n) (hT : Lies w T A c ls r) (hP : intL.row w (fun _ => True) PA p) (hX : Lies w X XA xc xs xr) (hl : xs.length + ls.length ≤ 16777216) (hpl : p.length ≤ 4611686018427387904) (ht : CntTab w) {y : TT} (h : putT T p X = some y) :
    Calls Tryd.prog 11 #[.agg #[.slice A ls.length c, .int .i64 r], .slice PA n pc, .agg #[.slice XA xs.length xc, .int .i64 xr]] w (TupPost (treeOf (makeTT y)) w) := by
  subst hn
  refine (put_any A c ls r PA pc p XA xc xs xr _ _ _ w hT.1 hP hX.1 hl hpl ht).mono ?_
  rintro e w' hq
  rw [hT.2, hX.2] at hq
  exact (hq.1 y h).tup
theorem at_not {w : World} {T : Tr} {A PA : Option Addr} {c pc : Nat} {ls : List Ln} {r : Int} {p : List Int} {n : Nat} (hn : p.length = n) (hT : Lies w T A c ls r) (hP : intL.row w (fun _ => True) PA p) (hl : ls.length ≤ 4294967296) (hpl : p.length ≤ 4611686018427387904) (ht : CntTab w) (h : atT T p = none) :
    Calls Tryd.prog 9 #[.agg #[.slice A ls.length c, .int .i64 r], .slice PA n pc] w (NotPost w) := by
  subst hn
  refine (at_any A c ls r PA pc p _ _ w hT.1 hP hl hpl ht).mono ?_
  rintro e w' hq
  rw [hT.2] at hq
  exact hq.2 h
theorem put_not {w : World} {T X : Tr} {A PA XA : Option Addr} {c pc xc : Nat} {ls xs : List Ln} {r xr : Int} {p : List Int} {n : Nat} (hn : p.length = n) (hT : Lies w T A c ls r) (hP : intL.row w (fun _ => True) PA p) (hX : Lies w X XA xc xs xr) (hl : xs.length + ls.length ≤ 16777216) (hpl : p.length ≤ 4611686018427387904) (ht : CntTab w) (h : putT T p X = none) :
    Calls Tryd.prog 11 #[.agg #[.slice A ls.length c, .int .i64 r], .slice PA n pc, .agg #[.slice XA xs.length xc, .int .i64 xr]] w (NotPost w) := by
  subst hn
  refine (put_any A c ls r PA pc p XA xc xs xr _ _ _ w hT.1 hP hX.1 hl hpl ht).mono ?_
  rintro e w' hq
  rw [hT.2, hX.2] at hq
  exact hq.2 h
theorem right_lies {w : World} {T : Tr} {A : Option Addr} {c : Nat} {ls : List Ln} {r : Int} (hT : Lies w T A c ls r) (hl : ls.length ≤ 281474976710656) (ht : CntTab w) :
    Calls Tryd.prog 17 #[.agg #[.slice A ls.length c, .int .i64 r]] w fun e w' => e = .returned (.bool (rightT T)) ∧ Below w.heap.size w w' := by
  rw [← hT.2]; exact right_any A c ls r _ w hT.1 hl ht
theorem normal_lies {w : World} {T : Tr} {A : Option Addr} {c : Nat} {ls : List Ln} {r : Int} (hT : Lies w T A c ls r) (hl : ls.length ≤ 4294967296) (ht : CntTab w) :
    Calls Tryd.prog 18 #[.agg #[.slice A ls.length c, .int .i64 r]] w fun e w' => e = .returned (.bool (normT T)) ∧ Below w.heap.size w w' := by
  rw [← hT.2]; exact normal_any A c ls r _ w hT.1 hl ht
theorem same_lies {w : World} {T X : Tr} {A XA : Option Addr} {c xc : Nat} {ls xs : List Ln} {r xr : Int} (hT : Lies w T A c ls r) (hX : Lies w X XA xc xs xr) (hl : ls.length ≤ 4294967296) (hm : xs.length ≤ 4294967296) (ht : CntTab w) :
    Calls Tryd.prog 20 #[.agg #[.slice A ls.length c, .int .i64 r], .agg #[.slice XA xs.length xc, .int .i64 xr]] w fun e w' => e = .returned (.bool (sameT T X)) ∧ Below w.heap.size w w' := by
  rw [← hT.2, ← hX.2]; exact tsame_any A XA c xc ls xs r xr _ _ w hT.1 hX.1 hl hm ht
theorem make_lies {w : World} {T : Tr} {A : Option Addr} {c : Nat} {ls : List Ln} {r : Int} (hT : Lies w T A c ls r) (hl : ls.length ≤ 16777216) (ht : CntTab w) (h : rightT T = true) :
    Calls Tryd.prog 19 #[.agg #[.slice A ls.length c, .int .i64 r]] w (TupPost (treeOf (makeTT (denT T))) w) := by
  refine (make_any A c ls r _ w hT.1 hl ht).mono ?_
  rintro e w' hq
  rw [← hT.2] at h ⊢
  obtain ⟨⟨A, c, ls, r⟩, rfl, h1, h2, h3⟩ := hq.1 h
  exact ⟨A, c, ls, r, rfl, ⟨h2.inn.2, h1⟩, h3⟩
theorem part_is (part : Int) (n : Nat) (hn : n ≤ 1500) : ∃ k : Nat, k ≤ n ∧ wrap64 ((IntKind.u64.wrap part).tmod ((n : Int) + 1)) = (k : Int) := by
  have h0 : 0 ≤ IntKind.u64.wrap part := by simp [IntKind.wrap, IntKind.bits, IntKind.signed]; omega
  have h1 : 0 ≤ (IntKind.u64.wrap part).tmod ((n : Int) + 1) := Int.tmod_nonneg _ h0
  have h2 : (IntKind.u64.wrap part).tmod ((n : Int) + 1) < (n : Int) + 1 := Int.tmod_lt_of_pos _ (by omega)
  refine ⟨((IntKind.u64.wrap part).tmod ((n : Int) + 1)).toNat, by omega, ?_⟩
  unfold wrap64
  generalize (IntKind.u64.wrap part).tmod ((n : Int) + 1) = z at *
  omega
/-- A box that was there ahead of the call is filled behind it. -/
theorem box_late {B g : Nat} {wc wd : World} {b : Nat} {x y : Value} {R : Tr} {A : Option Addr} {c : Nat} {ls : List Ln} {r : Int} (hg : wd.heap[g]? = some (.cells #[x, y] 24 (0, 0))) (hgl : g < b) (hl : LiesO b wd R A c ls r) (hb : Below B wc wd) (hB : B ≤ g) :
    ((wd.setCell ⟨g, 0, none⟩ (.slice A ls.length c)).setCell ⟨g, 1, none⟩ (.int .i64 r)).heap[g]? = some (.cells #[.slice A ls.length c, .int .i64 r] 24 (0, 0)) ∧ Lies ((wd.setCell ⟨g, 0, none⟩ (.slice A ls.length c)).setCell ⟨g, 1, none⟩ (.int .i64 r)) R A c ls r ∧ Below B wc ((wd.setCell ⟨g, 0, none⟩ (.slice A ls.length c)).setCell ⟨g, 1, none⟩ (.int .i64 r)) := by
  have hs : ∀ y, y ≠ g → ((wd.setCell ⟨g, 0, none⟩ (.slice A ls.length c)).setCell ⟨g, 1, none⟩ (.int .i64 r)).heap[y]? = wd.heap[y]? := fun y hy => (Below.heap_setCell _ _ _ _ hy).trans (Below.heap_setCell _ _ _ _ hy)
  refine ⟨set_two hg, ⟨(hl.1.agree (fun y hy _ => hs y (by have hy : b ≤ y := hy; omega))).mono (fun _ _ _ => trivial), hl.2⟩, (hb.setCell (p := ⟨g, 0, none⟩) hB _).setCell (p := ⟨g, 1, none⟩) hB _⟩
theorem box_new {B : Nat} {wc wd : World} {R : Tr} {A : Option Addr} {c : Nat} {ls : List Ln} {r : Int} {b : Nat} (hl : LiesO b wd R A c ls r) (hb : Below B wc wd) (hB : B ≤ wd.heap.size) :
    (wd.alloc (.cells #[.slice A ls.length c, .int .i64 r] 24)).heap[wd.heap.size]? = some (.cells #[.slice A ls.length c, .int .i64 r] 24 (0, 0)) ∧ Lies (wd.alloc (.cells #[.slice A ls.length c, .int .i64 r] 24)) R A c ls r ∧ Below B wc (wd.alloc (.cells #[.slice A ls.length c, .int .i64 r] 24)) :=
  ⟨bx_new wd _, hl.lies.below (bx1 wd _), hb.alloc hB _⟩
theorem keptA {w w' : World} {x y : Value} {R : Tr} {A : Option Addr} {c : Nat} {ls : List Ln} {r : Int} (hb : Below (w.alloc (.cells #[x, y] 24)).drew.heap.size (w.alloc (.cells #[x, y] 24)).drew w') (hl : LiesO (w.alloc (.cells #[x, y] 24)).drew.heap.size w' R A c ls r) : w'.heap[w.heap.size]? = some (.cells #[x, y] 24 (0, 0)) ∧ LiesO (w.heap.size + 1) w' R A c ls r := by
  refine ⟨keptD hb, ?_⟩
  have e : (w.alloc (.cells #[x, y] 24)).drew.heap.size = (w.alloc (.cells #[x, y] 24)).heap.size := rfl
  rw [e, World.size_alloc] at hl
  exact hl
theorem keptB {w w' : World} {x y : Value} {R : Tr} {A : Option Addr} {c : Nat} {ls : List Ln} {r : Int} (hb : Below (w.drew.alloc (.cells #[x, y] 24)).heap.size (w.drew.alloc (.cells #[x, y] 24)) w') (hl : LiesO (w.drew.alloc (.cells #[x, y] 24)).heap.size w' R A c ls r) : w'.heap[w.heap.size]? = some (.cells #[x, y] 24 (0, 0)) ∧ LiesO (w.heap.size + 1) w' R A c ls r := by
  refine ⟨bx_kept hb (bx_new w.drew _), ?_⟩
  rw [World.size_alloc] at hl
  exact hl
theorem row_take {w : World} {S : Nat → Prop} {A : Option Addr} {p : List Int} (h : intL.row w S A p) (k : Nat) : intL.row w S A (p.take k) := by
  have h1 := h.1
  rw [intL_all] at h1
  refine ⟨?_, fun _ _ => trivial⟩
  rw [intL_all]
  refine ⟨fun j u hj => h1.1 j u ?_, fun hne => h1.2 fun e => hne ?_⟩
  · rw [List.map_take, List.getElem?_take] at hj
    split at hj
    · exact hj
    · cases hj
  · rw [List.map_take, e, List.take_nil]
theorem addr_add (a : Addr) (i j : Nat) : (a.add i).add j = a.add (i + j) ∧ (a.add i).block = a.block := by
  cases i with
  | zero => cases j <;> simp [Addr.add]
  | succ i => cases j <;> simp [Addr.add] <;> omega
theorem row_drop {w : World} {S : Nat → Prop} {A : Option Addr} {p : List Int} (h : intL.row w S A p) (k pc : Nat) (hpc : p.length ≤ pc) : intL.row w S (if pc = k then A else Option.map (fun x => x.add k) A) (p.drop k) := by
  have h1 := h.1
  rw [intL_all] at h1
  by_cases hk : pc = k
  · have e : p.drop k = [] := List.drop_eq_nil_of_le (by omega)
    rw [e]; exact Lay.row.nil _ _ _
  · rw [if_neg hk]
    refine ⟨?_, fun _ _ => trivial⟩
    rw [intL_all]
    refine ⟨fun j u hj => ?_, fun hne ad had => ?_⟩
    · rw [List.map_drop, List.getElem?_drop] at hj
      obtain ⟨ad, rfl, hc⟩ := h1.1 (k + j) u hj
      exact ⟨ad.add k, rfl, by rw [(addr_add ad k j).1]; exact hc⟩
    · obtain ⟨a, rfl, rfl⟩ := Option.map_eq_some_iff.1 had
      rw [(addr_add a k 0).2]
      exact h1.2 (fun e => hne (by rw [List.map_drop, e, List.drop_nil])) a rfl
theorem keptA0 {w w' : World} {x y : Value} (hb : Below (w.alloc (.cells #[x, y] 24)).drew.heap.size (w.alloc (.cells #[x, y] 24)).drew w') : w'.heap[w.heap.size]? = some (.cells #[x, y] 24 (0, 0)) := keptD hb
theorem keptB0 {w w' : World} {x y : Value} (hb : Below (w.drew.alloc (.cells #[x, y] 24)).heap.size (w.drew.alloc (.cells #[x, y] 24)) w') : w'.heap[w.heap.size]? = some (.cells #[x, y] 24 (0, 0)) := bx_kept hb (bx_new w.drew _)
theorem long_lies {w : World} {A XA PA : Option Addr} {ls xs : List Ln} {p : List Int} (hT : ndL.row w (fun _ => True) A ls) (hX : ndL.row w (fun _ => True) XA xs) (hP : intL.row w (fun _ => True) PA p) (hll : ls.length ≤ 281474976710656) (hxl : xs.length ≤ 281474976710656) (hpl : p.length ≤ 281474976710656) (root xroot : Int) (c xc pc : Nat) :
    Calls Tryd.prog 6 #[.agg #[.slice none 0 0], .slice (some ⟨w.heap.size, 0, none⟩) 2 2, .slice (some ⟨w.heap.size + 1, 0, none⟩) 1 1] ((w.alloc (.cells #[.slice A ls.length c, .int .i64 root, .slice XA xs.length xc, .int .i64 xroot] 24)).alloc (.cells #[.slice PA p.length pc] 25)) fun e w' => ∃ r, e = .returned (.bool r) ∧ (r = false → ls.length ≤ 1500 ∧ xs.length ≤ 1500 ∧ p.length ≤ 1500) ∧ Below w.heap.size w w' := by
  have hb1 := bx1 w (.cells #[.slice A ls.length c, .int .i64 root, .slice XA xs.length xc, .int .i64 xroot] 24)
  have hb2 := bx2 w (.cells #[.slice A ls.length c, .int .i64 root, .slice XA xs.length xc, .int .i64 xroot] 24) (.cells #[.slice PA p.length pc] 25)
  have hn1 := bx_new w (.cells #[.slice A ls.length c, .int .i64 root, .slice XA xs.length xc, .int .i64 xroot] 24)
  have hn2 := bx_new (w.alloc (.cells #[.slice A ls.length c, .int .i64 root, .slice XA xs.length xc, .int .i64 xroot] 24)) (.cells #[.slice PA p.length pc] 25)
  rw [World.size_alloc] at hn2
  have hs : ((w.alloc (.cells #[.slice A ls.length c, .int .i64 root, .slice XA xs.length xc, .int .i64 xroot] 24)).alloc (.cells #[.slice PA p.length pc] 25)).heap.size = w.heap.size + 2 := by simp
  have hn1' := bx_old (p := .cells #[.slice PA p.length pc] 25) hn1
  generalize (w.alloc (.cells #[.slice A ls.length c, .int .i64 root, .slice XA xs.length xc, .int .i64 xroot] 24)).alloc (.cells #[.slice PA p.length pc] 25) = W at *
  have hk : ∀ w', KeptL w.heap.size (some ⟨w.heap.size, 0, none⟩) W w' → Below w.heap.size w w' := fun w' h => hb2.trans h.1
  refine (long_any none 0 [] (some ⟨w.heap.size, 0, none⟩) 2 [⟨A, c, ls, root⟩, ⟨XA, xc, xs, xroot⟩] (some ⟨w.heap.size + 1, 0, none⟩) 1 [⟨PA, pc, p⟩] w.heap.size W hb2.size (fun _ _ => Lay.row.nil _ _ _) (own_of_fullN hn1' rfl (Nat.le_refl _) (by show 2 ≤ maxLen; decide)) (fun w' h t ht => ?_) (fun w' h => ⟨⟨row_blk (cs := [.slice PA p.length pc]) ((h.2 _ (by omega) (by simp [blkOf])).trans hn2), fun _ _ _ => trivial⟩, fun q hq => ?_⟩) (by simp) (by simp) (by simp)).mono ?_
  · simp only [List.mem_cons, List.not_mem_nil, or_false] at ht
    rcases ht with rfl | rfl
    · exact ⟨hll, hT.below (hk w' h)⟩
    · exact ⟨hxl, hX.below (hk w' h)⟩
  · obtain rfl := List.mem_singleton.1 hq
    exact ⟨hpl, hP.below (hk w' h)⟩
  · rintro e w' ⟨r, rfl, hr, hb⟩
    refine ⟨r, rfl, fun h => ?_, hb2.trans hb⟩
    obtain ⟨_, _, h1, h2⟩ := hr h
    exact ⟨(h1 ⟨A, c, ls, root⟩ (by simp)).1, (h1 ⟨XA, xc, xs, xroot⟩ (by simp)).1, h2 ⟨PA, pc, p⟩ (by simp)⟩
set_option maxRecDepth 100000 in
set_option maxHeartbeats 12800000 in
theorem pathput_walk (t x : Lt) (PA : Option Addr) (pc : Nat) (p : List Int) (part : Int) (S1 S2 S3 : Nat → Prop) (W : World) (hT : t.inn W S1) (hX : x.inn W S2) (hP : intL.row W S3 PA p) (hpl : p.length ≤ 281474976710656) (hpc : p.length ≤ pc ∧ pc ≤ 9223372036854775807)
    (hpr : -9223372036854775808 ≤ part ∧ part ≤ 9223372036854775807) (ht : CntTab W) :
    Calls Tryd.prog 5 #[t.val, x.val, .slice PA p.length pc, .int .i64 part] W fun e w' => e = .returned (.bool true) ∧ Below W.heap.size W w' := by
  obtain ⟨A, c, ls, root⟩ := t
  obtain ⟨XA, xc, xs, xroot⟩ := x
  simp only [Lt.val]
  have hll : ls.length ≤ 281474976710656 := hT.1
  have hxl : xs.length ≤ 281474976710656 := hX.1
  have HB0 := Lib.hid (bx2 W (.cells #[.slice A ls.length c, .int .i64 root] 24) (.cells #[.slice XA xs.length xc, .int .i64 xroot] 24))
  have HK0 := Lib.hid (show ((W.alloc (.cells #[.slice A ls.length c, .int .i64 root] 24)).alloc (.cells #[.slice XA xs.length xc, .int .i64 xroot] 24)).heap[W.heap.size]? = some (.cells #[.slice A ls.length c, .int .i64 root] 24 (0, 0)) ∧ ((W.alloc (.cells #[.slice A ls.length c, .int .i64 root] 24)).alloc (.cells #[.slice XA xs.length xc, .int .i64 xroot] 24)).heap[W.heap.size + 1]? = some (.cells #[.slice XA xs.length xc, .int .i64 xroot] 24 (0, 0)) from by
    have h := bx_new (W.alloc (.cells #[.slice A ls.length c, .int .i64 root] 24)) (.cells #[.slice XA xs.length xc, .int .i64 xroot] 24)
    rw [World.size_alloc] at h
    exact ⟨bx_old (bx_new W _), h⟩)
  have HT := Lib.hid (show ndL.row ((W.alloc (.cells #[.slice A ls.length c, .int .i64 root] 24)).alloc (.cells #[.slice XA xs.length xc, .int .i64 xroot] 24)) (fun _ => True) A ls from (hT.2.below HB0.out).mono (fun _ _ _ => trivial))
  have HX := Lib.hid (show ndL.row ((W.alloc (.cells #[.slice A ls.length c, .int .i64 root] 24)).alloc (.cells #[.slice XA xs.length xc, .int .i64 xroot] 24)) (fun _ => True) XA xs from (hX.2.below HB0.out).mono (fun _ _ _ => trivial))
  have HP := Lib.hid (show intL.row ((W.alloc (.cells #[.slice A ls.length c, .int .i64 root] 24)).alloc (.cells #[.slice XA xs.length xc, .int .i64 xroot] 24)) (fun _ => True) PA p from (hP.below HB0.out).mono (fun _ _ _ => trivial))
  have HC := Lib.hid (ht.below HB0.out)
  clear hT hX hP ht
  go_enter Tryd.func5, Tryd.ntmps5
  go_upto_region 1 with (fail)
  generalize (W.alloc (.cells #[.slice A ls.length c, .int .i64 root] 24)).alloc (.cells #[.slice XA xs.length xc, .int .i64 xroot] 24) = W0 at *
  generalize W.heap.size + 1 = hx at *
  have HB0' := Lib.hid HB0.out
  obtain ⟨q0, q1, _, _⟩ := blk2 HK0.out.1
  obtain ⟨q2, q3, _, _⟩ := blk2 HK0.out.2
  go_wp2_with fail
  refine (works18_any W0 HC.out).mono ?_
  rintro e w1 ⟨rfl, hb1⟩
  have HB1 := Lib.hid hb1
  clear hb1 q0 q1 q2 q3
  obtain ⟨q0, q1, _, _⟩ := blk2 (bx_kept HB1.out HK0.out.1)
  obtain ⟨q2, q3, _, _⟩ := blk2 (bx_kept HB1.out HK0.out.2)
  have HL := Lib.hid (long_lies (w := w1) (HT.out.below HB1.out) (HX.out.below HB1.out) (HP.out.below HB1.out) hll hxl hpl root xroot c xc pc)
  have HL2 := Lib.hid (bx2 w1 (.cells #[.slice A ls.length c, .int .i64 root, .slice XA xs.length xc, .int .i64 xroot] 24) (.cells #[.slice PA p.length pc] 25))
  go_wp2_with fail
  refine HL.out.mono ?_
  rintro e w2 ⟨r, rfl, hr, hb2⟩
  have HC2 := Lib.hid (HC.out.below (HB1.out.trans (hb2.mono HB1.out.size)))
  have HB2 := Lib.hid (show Below W0.heap.size W0 w2 from HB1.out.trans (hb2.mono HB1.out.size))
  clear HL HL2 q0 q1 q2 q3
  rcases r with _ | _
  case true =>
    clear hr hb2 HB1
    go_wp2_with fail
    refine (works18_any w2 HC2.out).mono ?_
    rintro e w3 ⟨rfl, hb3⟩
    have HB3 := Lib.hid hb3
    clear hb3
    go_wp2_with fail
    go_ret
    exact ⟨rfl, Below.step HB0'.out (Below.step HB2.out HB3.out)⟩
  obtain ⟨h1, h2, h3⟩ := hr rfl
  obtain ⟨T, hTd⟩ : ∃ T : Tr, T = ⟨ls.map Ln.nd, root⟩ := ⟨_, rfl⟩
  obtain ⟨X, hXd⟩ : ∃ T : Tr, T = ⟨xs.map Ln.nd, xroot⟩ := ⟨_, rfl⟩
  have HVt := Lib.hid (show Lies w2 T A c ls root from ⟨HT.out.below HB2.out, hTd.symm⟩)
  have HVx := Lib.hid (show Lies w2 X XA xc xs xroot from ⟨HX.out.below HB2.out, hXd.symm⟩)
  have HPp := Lib.hid (HP.out.below HB2.out)
  have HCc := Lib.hid HC2.out
  have HKt := Lib.hid (bx_kept HB2.out HK0.out.1)
  have HKx := Lib.hid (bx_kept HB2.out HK0.out.2)
  have HB := Lib.hid (Below.step HB0'.out HB2.out)
  have HSZ := Lib.hid (show T.nodes.length ≤ 1500 ∧ X.nodes.length ≤ 1500 from ⟨by have := HVt.out.len; omega, by have := HVx.out.len; omega⟩)
  clear hr hb2 hTd hXd HB1 HC2 HB2 HT HX HP HC HK0 HB0' HB0
  rcases hat : atT T p with _ | y

  case none =>
    have HPN := Lib.hid (show putT T p X = none from by have h := putT_isSome T p X; rw [hat] at h; simpa using h)
    obtain ⟨HKt0, HKt1, HKt2, HKt3⟩ := blk2 HKt.out
    obtain ⟨HKx0, HKx1, HKx2, HKx3⟩ := blk2 HKx.out
    go_wp2_with fail
    refine (at_not (c := c) (pc := pc) rfl HVt.out HPp.out (by omega) (by omega) HCc.out hat).mono ?_
    rintro e wq ⟨rfl, hbq⟩
    have HR := Lib.hid (Below.step hbq (bx1 wq (.cells #[.slice none 0 0, .int .i64 0] 24)))
    have hkq := bx_new wq (.cells #[.slice none 0 0, .int .i64 0] 24)
    clear HKt0 HKt1 HKt2 HKt3 HKx0 HKx1 HKx2 HKx3
    go_upto_region 4 with (fail)
    generalize wq.alloc (.cells #[.slice none 0 0, .int .i64 0] 24) = W9 at *
    generalize wq.heap.size = p9 at *
    have HK9 := Lib.hid hkq; clear hkq hbq
    have HVt' := Lib.hid (HVt.out.below HR.out); clear HVt; have HVt := HVt'; clear HVt'
    have HVx' := Lib.hid (HVx.out.below HR.out); clear HVx; have HVx := HVx'; clear HVx'
    have HPp' := Lib.hid (HPp.out.below HR.out); clear HPp; have HPp := HPp'; clear HPp'
    have HCc' := Lib.hid (HCc.out.below HR.out); clear HCc; have HCc := HCc'; clear HCc'
    have HKt' := Lib.hid (bx_kept HR.out HKt.out); clear HKt; have HKt := HKt'; clear HKt'
    have HKx' := Lib.hid (bx_kept HR.out HKx.out); clear HKx; have HKx := HKx'; clear HKx'
    have HB' := Lib.hid (Below.step HB.out HR.out); clear HB; have HB := HB'; clear HB'
    clear HR
    obtain ⟨HKt0, HKt1, HKt2, HKt3⟩ := blk2 HKt.out
    obtain ⟨HKx0, HKx1, HKx2, HKx3⟩ := blk2 HKx.out
    obtain ⟨HK90, HK91, HK92, HK93⟩ := blk2 HK9.out
    go_wp2_with fail
    refine (put_not (c := c) (pc := pc) (xc := xc) rfl HVt.out HPp.out HVx.out (by omega) (by omega) HCc.out HPN.out).mono ?_
    rintro e wq ⟨rfl, hbq⟩
    have HR := Lib.hid (Below.step hbq (bx1 wq (.cells #[.slice none 0 0, .int .i64 0] 24)))
    have hkq := bx_new wq (.cells #[.slice none 0 0, .int .i64 0] 24)
    clear HKt0 HKt1 HKt2 HKt3 HKx0 HKx1 HKx2 HKx3 HK90 HK91 HK92 HK93
    go_upto_region 5 with (fail)
    generalize wq.alloc (.cells #[.slice none 0 0, .int .i64 0] 24) = W11 at *
    generalize wq.heap.size = p11 at *
    have HK11 := Lib.hid hkq; clear hkq hbq
    have HVt' := Lib.hid (HVt.out.below HR.out); clear HVt; have HVt := HVt'; clear HVt'
    have HVx' := Lib.hid (HVx.out.below HR.out); clear HVx; have HVx := HVx'; clear HVx'
    have HPp' := Lib.hid (HPp.out.below HR.out); clear HPp; have HPp := HPp'; clear HPp'
    have HCc' := Lib.hid (HCc.out.below HR.out); clear HCc; have HCc := HCc'; clear HCc'
    have HKt' := Lib.hid (bx_kept HR.out HKt.out); clear HKt; have HKt := HKt'; clear HKt'
    have HKx' := Lib.hid (bx_kept HR.out HKx.out); clear HKx; have HKx := HKx'; clear HKx'
    have HK9' := Lib.hid (bx_kept HR.out HK9.out); clear HK9; have HK9 := HK9'; clear HK9'
    have HB' := Lib.hid (Below.step HB.out HR.out); clear HB; have HB := HB'; clear HB'
    clear HR
    go_wp2_with fail
    go_ret
    exact ⟨rfl, HB.out⟩
  have HSY := Lib.hid (sz_atT hat)
  have HAS := Lib.hid (show (putT T p X).isSome = rightT X from by rw [putT_isSome, hat]; simp)
  rcases hrx : rightT X with _ | _
  · -- X is not right
    obtain ⟨HKt0, HKt1, HKt2, HKt3⟩ := blk2 HKt.out
    obtain ⟨HKx0, HKx1, HKx2, HKx3⟩ := blk2 HKx.out
    go_wp2_with fail
    refine (at_lies (c := c) (pc := pc) rfl HVt.out HPp.out (by omega) (by omega) HCc.out hat).mono ?_
    rintro e wq ⟨Ay, cy, ly, ry, rfl, hlq, hbq⟩
    have HR := Lib.hid (Below.step hbq (bx1 wq (.cells #[.slice Ay ly.length cy, .int .i64 ry] 24)))
    have hkq := bx_new wq (.cells #[.slice Ay ly.length cy, .int .i64 ry] 24)
    have HVy := Lib.hid (hlq.lies.below (bx1 wq (.cells #[.slice Ay ly.length cy, .int .i64 ry] 24))); clear hlq
    clear HKt0 HKt1 HKt2 HKt3 HKx0 HKx1 HKx2 HKx3
    go_upto_region 4 with (fail)
    generalize wq.alloc (.cells #[.slice Ay ly.length cy, .int .i64 ry] 24) = W9 at *
    generalize wq.heap.size = p9 at *
    have HK9 := Lib.hid hkq; clear hkq hbq
    have HVt' := Lib.hid (HVt.out.below HR.out); clear HVt; have HVt := HVt'; clear HVt'
    have HVx' := Lib.hid (HVx.out.below HR.out); clear HVx; have HVx := HVx'; clear HVx'
    have HPp' := Lib.hid (HPp.out.below HR.out); clear HPp; have HPp := HPp'; clear HPp'
    have HCc' := Lib.hid (HCc.out.below HR.out); clear HCc; have HCc := HCc'; clear HCc'
    have HKt' := Lib.hid (bx_kept HR.out HKt.out); clear HKt; have HKt := HKt'; clear HKt'
    have HKx' := Lib.hid (bx_kept HR.out HKx.out); clear HKx; have HKx := HKx'; clear HKx'
    have HB' := Lib.hid (Below.step HB.out HR.out); clear HB; have HB := HB'; clear HB'
    clear HR
    have HLY := Lib.hid (show ly.length ≤ 1500 from by have h1 := HVy.out.len; have h2 := HSY.out; rw [sz_treeOf] at h1; have h3 := HSZ.out.1; omega)
    have HZ := Lib.hid (show putT T p X = none from by have h := HAS.out; rw [hrx] at h; simpa using h)
    obtain ⟨HKt0, HKt1, HKt2, HKt3⟩ := blk2 HKt.out
    obtain ⟨HKx0, HKx1, HKx2, HKx3⟩ := blk2 HKx.out
    obtain ⟨HK90, HK91, HK92, HK93⟩ := blk2 HK9.out
    go_wp2_with fail
    refine (put_not (c := c) (pc := pc) (xc := xc) rfl HVt.out HPp.out HVx.out (by omega) (by omega) HCc.out HZ.out).mono ?_
    rintro e wq ⟨rfl, hbq⟩
    have HR := Lib.hid (Below.step hbq (bx1 wq (.cells #[.slice none 0 0, .int .i64 0] 24)))
    have hkq := bx_new wq (.cells #[.slice none 0 0, .int .i64 0] 24)
    clear HKt0 HKt1 HKt2 HKt3 HKx0 HKx1 HKx2 HKx3 HK90 HK91 HK92 HK93
    go_upto_region 5 with (fail)
    generalize wq.alloc (.cells #[.slice none 0 0, .int .i64 0] 24) = W11 at *
    generalize wq.heap.size = p11 at *
    have HK11 := Lib.hid hkq; clear hkq hbq
    have HVt' := Lib.hid (HVt.out.below HR.out); clear HVt; have HVt := HVt'; clear HVt'
    have HVx' := Lib.hid (HVx.out.below HR.out); clear HVx; have HVx := HVx'; clear HVx'
    have HPp' := Lib.hid (HPp.out.below HR.out); clear HPp; have HPp := HPp'; clear HPp'
    have HCc' := Lib.hid (HCc.out.below HR.out); clear HCc; have HCc := HCc'; clear HCc'
    have HVy' := Lib.hid (HVy.out.below HR.out); clear HVy; have HVy := HVy'; clear HVy'
    have HKt' := Lib.hid (bx_kept HR.out HKt.out); clear HKt; have HKt := HKt'; clear HKt'
    have HKx' := Lib.hid (bx_kept HR.out HKx.out); clear HKx; have HKx := HKx'; clear HKx'
    have HK9' := Lib.hid (bx_kept HR.out HK9.out); clear HK9; have HK9 := HK9'; clear HK9'
    have HB' := Lib.hid (Below.step HB.out HR.out); clear HB; have HB := HB'; clear HB'
    clear HR
    obtain ⟨HKt0, HKt1, HKt2, HKt3⟩ := blk2 HKt.out
    obtain ⟨HKx0, HKx1, HKx2, HKx3⟩ := blk2 HKx.out
    obtain ⟨HK90, HK91, HK92, HK93⟩ := blk2 HK9.out
    obtain ⟨HK110, HK111, HK112, HK113⟩ := blk2 HK11.out
    go_wp2_with fail
    refine (right_lies (c := xc) HVx.out (by omega) HCc.out).mono ?_
    rintro e W12 ⟨rfl, hbq⟩
    rw [hrx]
    have HR := Lib.hid hbq; clear hbq
    clear HKt0 HKt1 HKt2 HKt3 HKx0 HKx1 HKx2 HKx3 HK90 HK91 HK92 HK93 HK110 HK111 HK112 HK113
    have HVt' := Lib.hid (HVt.out.below HR.out); clear HVt; have HVt := HVt'; clear HVt'
    have HVx' := Lib.hid (HVx.out.below HR.out); clear HVx; have HVx := HVx'; clear HVx'
    have HPp' := Lib.hid (HPp.out.below HR.out); clear HPp; have HPp := HPp'; clear HPp'
    have HCc' := Lib.hid (HCc.out.below HR.out); clear HCc; have HCc := HCc'; clear HCc'
    have HVy' := Lib.hid (HVy.out.below HR.out); clear HVy; have HVy := HVy'; clear HVy'
    have HKt' := Lib.hid (bx_kept HR.out HKt.out); clear HKt; have HKt := HKt'; clear HKt'
    have HKx' := Lib.hid (bx_kept HR.out HKx.out); clear HKx; have HKx := HKx'; clear HKx'
    have HK9' := Lib.hid (bx_kept HR.out HK9.out); clear HK9; have HK9 := HK9'; clear HK9'
    have HK11' := Lib.hid (bx_kept HR.out HK11.out); clear HK11; have HK11 := HK11'; clear HK11'
    have HB' := Lib.hid (Below.step HB.out HR.out); clear HB; have HB := HB'; clear HB'
    clear HR
    go_upto_region 11 with (fail)
    have HPB := Lib.hid (put_back hat)
    obtain ⟨hrt, _⟩ := atT_some hat
    have HRT := Lib.hid hrt; clear hrt
    have HSM := Lib.hid (show (treeOf (makeTT (denT T))).nodes.length ≤ 1500 from by have h1 := sz_make (denT T); have h2 : szTT (denT T) ≤ T.nodes.length := sz_den ((rightT_iff _).1 HRT.out); have h3 := HSZ.out; rw [sz_treeOf]; omega)
    obtain ⟨HKt0, HKt1, HKt2, HKt3⟩ := blk2 HKt.out
    obtain ⟨HKx0, HKx1, HKx2, HKx3⟩ := blk2 HKx.out
    obtain ⟨HK90, HK91, HK92, HK93⟩ := blk2 HK9.out
    obtain ⟨HK110, HK111, HK112, HK113⟩ := blk2 HK11.out
    go_wp2_with fail
    refine (put_lies (c := c) (pc := pc) (xc := cy) rfl HVt.out HPp.out HVy.out (by have := HLY.out; omega) (by omega) HCc.out HPB.out).mono ?_
    rintro e wq ⟨As, cs, lS, rs, rfl, hlq, hbq⟩
    have HR := Lib.hid (Below.step hbq (bx1 wq (.cells #[.slice As lS.length cs, .int .i64 rs] 24)))
    have hkq := bx_new wq (.cells #[.slice As lS.length cs, .int .i64 rs] 24)
    have HVs := Lib.hid (hlq.lies.below (bx1 wq (.cells #[.slice As lS.length cs, .int .i64 rs] 24))); clear hlq
    clear HKt0 HKt1 HKt2 HKt3 HKx0 HKx1 HKx2 HKx3 HK90 HK91 HK92 HK93 HK110 HK111 HK112 HK113
    go_upto_region 12 with (fail)
    generalize wq.alloc (.cells #[.slice As lS.length cs, .int .i64 rs] 24) = W14 at *
    generalize wq.heap.size = p14 at *
    have HK14 := Lib.hid hkq; clear hkq hbq
    have HVt' := Lib.hid (HVt.out.below HR.out); clear HVt; have HVt := HVt'; clear HVt'
    have HVx' := Lib.hid (HVx.out.below HR.out); clear HVx; have HVx := HVx'; clear HVx'
    have HPp' := Lib.hid (HPp.out.below HR.out); clear HPp; have HPp := HPp'; clear HPp'
    have HCc' := Lib.hid (HCc.out.below HR.out); clear HCc; have HCc := HCc'; clear HCc'
    have HVy' := Lib.hid (HVy.out.below HR.out); clear HVy; have HVy := HVy'; clear HVy'
    have HKt' := Lib.hid (bx_kept HR.out HKt.out); clear HKt; have HKt := HKt'; clear HKt'
    have HKx' := Lib.hid (bx_kept HR.out HKx.out); clear HKx; have HKx := HKx'; clear HKx'
    have HK9' := Lib.hid (bx_kept HR.out HK9.out); clear HK9; have HK9 := HK9'; clear HK9'
    have HK11' := Lib.hid (bx_kept HR.out HK11.out); clear HK11; have HK11 := HK11'; clear HK11'
    have HB' := Lib.hid (Below.step HB.out HR.out); clear HB; have HB := HB'; clear HB'
    clear HR
    have HLS := Lib.hid (show lS.length ≤ 1500 from by have h1 := HVs.out.len; have h2 := HSM.out; omega)
    obtain ⟨HKt0, HKt1, HKt2, HKt3⟩ := blk2 HKt.out
    obtain ⟨HKx0, HKx1, HKx2, HKx3⟩ := blk2 HKx.out
    obtain ⟨HK90, HK91, HK92, HK93⟩ := blk2 HK9.out
    obtain ⟨HK110, HK111, HK112, HK113⟩ := blk2 HK11.out
    obtain ⟨HK140, HK141, HK142, HK143⟩ := blk2 HK14.out
    go_wp2_with fail
    refine (make_lies (c := c) HVt.out (by omega) HCc.out HRT.out).mono ?_
    rintro e wq ⟨Aw, cw, lw, rw', rfl, hlq, hbq⟩
    have HR := Lib.hid (Below.step hbq (bx1 wq (.cells #[.slice Aw lw.length cw, .int .i64 rw'] 24)))
    have hkq := bx_new wq (.cells #[.slice Aw lw.length cw, .int .i64 rw'] 24)
    have HVw := Lib.hid (hlq.lies.below (bx1 wq (.cells #[.slice Aw lw.length cw, .int .i64 rw'] 24))); clear hlq
    clear HKt0 HKt1 HKt2 HKt3 HKx0 HKx1 HKx2 HKx3 HK90 HK91 HK92 HK93 HK110 HK111 HK112 HK113 HK140 HK141 HK142 HK143
    go_upto_region 13 with (fail)
    generalize wq.alloc (.cells #[.slice Aw lw.length cw, .int .i64 rw'] 24) = W16 at *
    generalize wq.heap.size = p16 at *
    have HK16 := Lib.hid hkq; clear hkq hbq
    have HVt' := Lib.hid (HVt.out.below HR.out); clear HVt; have HVt := HVt'; clear HVt'
    have HVx' := Lib.hid (HVx.out.below HR.out); clear HVx; have HVx := HVx'; clear HVx'
    have HPp' := Lib.hid (HPp.out.below HR.out); clear HPp; have HPp := HPp'; clear HPp'
    have HCc' := Lib.hid (HCc.out.below HR.out); clear HCc; have HCc := HCc'; clear HCc'
    have HVy' := Lib.hid (HVy.out.below HR.out); clear HVy; have HVy := HVy'; clear HVy'
    have HVs' := Lib.hid (HVs.out.below HR.out); clear HVs; have HVs := HVs'; clear HVs'
    have HKt' := Lib.hid (bx_kept HR.out HKt.out); clear HKt; have HKt := HKt'; clear HKt'
    have HKx' := Lib.hid (bx_kept HR.out HKx.out); clear HKx; have HKx := HKx'; clear HKx'
    have HK9' := Lib.hid (bx_kept HR.out HK9.out); clear HK9; have HK9 := HK9'; clear HK9'
    have HK11' := Lib.hid (bx_kept HR.out HK11.out); clear HK11; have HK11 := HK11'; clear HK11'
    have HK14' := Lib.hid (bx_kept HR.out HK14.out); clear HK14; have HK14 := HK14'; clear HK14'
    have HB' := Lib.hid (Below.step HB.out HR.out); clear HB; have HB := HB'; clear HB'
    clear HR
    go_cut [92] from 75 to 92 (fun v wx => v = .bool false ∧ Hid (Below W16.heap.size W16 wx))
    case first =>
      have HQ := Lib.hid (fun h => (norm_same (t := T) h).2)
      obtain ⟨HKt0, HKt1, HKt2, HKt3⟩ := blk2 HKt.out
      obtain ⟨HKx0, HKx1, HKx2, HKx3⟩ := blk2 HKx.out
      obtain ⟨HK90, HK91, HK92, HK93⟩ := blk2 HK9.out
      obtain ⟨HK110, HK111, HK112, HK113⟩ := blk2 HK11.out
      obtain ⟨HK140, HK141, HK142, HK143⟩ := blk2 HK14.out
      obtain ⟨HK160, HK161, HK162, HK163⟩ := blk2 HK16.out
      go_wp2_with fail
      refine (exact_lies HVs.out HVw.out (by have := HLS.out; omega)).mono ?_
      rintro e W17 ⟨rfl, hbq⟩
      have HR := Lib.hid hbq; have HR0 := Lib.hid hbq; clear hbq
      clear HKt0 HKt1 HKt2 HKt3 HKx0 HKx1 HKx2 HKx3 HK90 HK91 HK92 HK93 HK110 HK111 HK112 HK113 HK140 HK141 HK142 HK143 HK160 HK161 HK162 HK163
      have HVt' := Lib.hid (HVt.out.below HR.out); clear HVt; have HVt := HVt'; clear HVt'
      have HVx' := Lib.hid (HVx.out.below HR.out); clear HVx; have HVx := HVx'; clear HVx'
      have HPp' := Lib.hid (HPp.out.below HR.out); clear HPp; have HPp := HPp'; clear HPp'
      have HCc' := Lib.hid (HCc.out.below HR.out); clear HCc; have HCc := HCc'; clear HCc'
      have HVy' := Lib.hid (HVy.out.below HR.out); clear HVy; have HVy := HVy'; clear HVy'
      have HVs' := Lib.hid (HVs.out.below HR.out); clear HVs; have HVs := HVs'; clear HVs'
      have HVw' := Lib.hid (HVw.out.below HR.out); clear HVw; have HVw := HVw'; clear HVw'
      have HKt' := Lib.hid (bx_kept HR.out HKt.out); clear HKt; have HKt := HKt'; clear HKt'
      have HKx' := Lib.hid (bx_kept HR.out HKx.out); clear HKx; have HKx := HKx'; clear HKx'
      have HK9' := Lib.hid (bx_kept HR.out HK9.out); clear HK9; have HK9 := HK9'; clear HK9'
      have HK11' := Lib.hid (bx_kept HR.out HK11.out); clear HK11; have HK11 := HK11'; clear HK11'
      have HK14' := Lib.hid (bx_kept HR.out HK14.out); clear HK14; have HK14 := HK14'; clear HK14'
      have HK16' := Lib.hid (bx_kept HR.out HK16.out); clear HK16; have HK16 := HK16'; clear HK16'
      have HB' := Lib.hid (Below.step HB.out HR.out); clear HB; have HB := HB'; clear HB'
      clear HR
      obtain ⟨HKt0, HKt1, HKt2, HKt3⟩ := blk2 HKt.out
      obtain ⟨HKx0, HKx1, HKx2, HKx3⟩ := blk2 HKx.out
      obtain ⟨HK90, HK91, HK92, HK93⟩ := blk2 HK9.out
      obtain ⟨HK110, HK111, HK112, HK113⟩ := blk2 HK11.out
      obtain ⟨HK140, HK141, HK142, HK143⟩ := blk2 HK14.out
      obtain ⟨HK160, HK161, HK162, HK163⟩ := blk2 HK16.out
      go_wp2_with fail
      refine (normal_lies (c := c) HVt.out (by omega) HCc.out).mono ?_
      rintro e W18 ⟨rfl, hbq⟩
      have HR := Lib.hid hbq; have HR1 := Lib.hid (Below.step HR0.out hbq); clear hbq HR0
      clear HKt0 HKt1 HKt2 HKt3 HKx0 HKx1 HKx2 HKx3 HK90 HK91 HK92 HK93 HK110 HK111 HK112 HK113 HK140 HK141 HK142 HK143 HK160 HK161 HK162 HK163
      have HVt' := Lib.hid (HVt.out.below HR.out); clear HVt; have HVt := HVt'; clear HVt'
      have HVx' := Lib.hid (HVx.out.below HR.out); clear HVx; have HVx := HVx'; clear HVx'
      have HPp' := Lib.hid (HPp.out.below HR.out); clear HPp; have HPp := HPp'; clear HPp'
      have HCc' := Lib.hid (HCc.out.below HR.out); clear HCc; have HCc := HCc'; clear HCc'
      have HVy' := Lib.hid (HVy.out.below HR.out); clear HVy; have HVy := HVy'; clear HVy'
      have HVs' := Lib.hid (HVs.out.below HR.out); clear HVs; have HVs := HVs'; clear HVs'
      have HVw' := Lib.hid (HVw.out.below HR.out); clear HVw; have HVw := HVw'; clear HVw'
      have HKt' := Lib.hid (bx_kept HR.out HKt.out); clear HKt; have HKt := HKt'; clear HKt'
      have HKx' := Lib.hid (bx_kept HR.out HKx.out); clear HKx; have HKx := HKx'; clear HKx'
      have HK9' := Lib.hid (bx_kept HR.out HK9.out); clear HK9; have HK9 := HK9'; clear HK9'
      have HK11' := Lib.hid (bx_kept HR.out HK11.out); clear HK11; have HK11 := HK11'; clear HK11'
      have HK14' := Lib.hid (bx_kept HR.out HK14.out); clear HK14; have HK14 := HK14'; clear HK14'
      have HK16' := Lib.hid (bx_kept HR.out HK16.out); clear HK16; have HK16 := HK16'; clear HK16'
      have HB' := Lib.hid (Below.step HB.out HR.out); clear HB; have HB := HB'; clear HB'
      clear HR
      obtain ⟨HKt0, HKt1, HKt2, HKt3⟩ := blk2 HKt.out
      obtain ⟨HKx0, HKx1, HKx2, HKx3⟩ := blk2 HKx.out
      obtain ⟨HK90, HK91, HK92, HK93⟩ := blk2 HK9.out
      obtain ⟨HK110, HK111, HK112, HK113⟩ := blk2 HK11.out
      obtain ⟨HK140, HK141, HK142, HK143⟩ := blk2 HK14.out
      obtain ⟨HK160, HK161, HK162, HK163⟩ := blk2 HK16.out
      rcases hnt : normT T with _ | _
      · go_wp2_with fail
        go_meet
        exact ⟨rfl, HR1⟩
      · have HQ' := Lib.hid (HQ.out hnt)
        clear HQ hnt
        go_wp2_with fail
        refine (same_lies (c := cs) (xc := c) HVs.out HVt.out (by have := HLS.out; omega) (by omega) HCc.out).mono ?_
        rintro e W19 ⟨rfl, hbq⟩
        rw [HQ'.out]
        have HR2 := Lib.hid (Below.step HR1.out hbq); clear hbq
        go_wp2_with fail
        go_meet
        exact ⟨rfl, HR2⟩
    case rest =>
      obtain ⟨rfl, HR⟩ := hcut
      have HVt' := Lib.hid (HVt.out.below HR.out); clear HVt; have HVt := HVt'; clear HVt'
      have HVx' := Lib.hid (HVx.out.below HR.out); clear HVx; have HVx := HVx'; clear HVx'
      have HPp' := Lib.hid (HPp.out.below HR.out); clear HPp; have HPp := HPp'; clear HPp'
      have HCc' := Lib.hid (HCc.out.below HR.out); clear HCc; have HCc := HCc'; clear HCc'
      have HVy' := Lib.hid (HVy.out.below HR.out); clear HVy; have HVy := HVy'; clear HVy'
      have HVs' := Lib.hid (HVs.out.below HR.out); clear HVs; have HVs := HVs'; clear HVs'
      have HVw' := Lib.hid (HVw.out.below HR.out); clear HVw; have HVw := HVw'; clear HVw'
      have HKt' := Lib.hid (bx_kept HR.out HKt.out); clear HKt; have HKt := HKt'; clear HKt'
      have HKx' := Lib.hid (bx_kept HR.out HKx.out); clear HKx; have HKx := HKx'; clear HKx'
      have HK9' := Lib.hid (bx_kept HR.out HK9.out); clear HK9; have HK9 := HK9'; clear HK9'
      have HK11' := Lib.hid (bx_kept HR.out HK11.out); clear HK11; have HK11 := HK11'; clear HK11'
      have HK14' := Lib.hid (bx_kept HR.out HK14.out); clear HK14; have HK14 := HK14'; clear HK14'
      have HK16' := Lib.hid (bx_kept HR.out HK16.out); clear HK16; have HK16 := HK16'; clear HK16'
      have HB' := Lib.hid (Below.step HB.out HR.out); clear HB; have HB := HB'; clear HB'
      clear HR
      go_upto_region 16 with (fail)
      obtain ⟨k, hk, hke⟩ := part_is part p.length h3
      rw [hke]
      clear hke
      obtain ⟨h0, hh0, hh1, hh2⟩ := put_steps (p := p.take k) (q := p.drop k) (x := X) (by rw [List.take_append_drop]; exact hat)
      rw [List.take_append_drop] at hh1 hh2
      have HH0 := Lib.hid hh0; have HH1 := Lib.hid hh1; have HH2 := Lib.hid hh2; clear hh0 hh1 hh2
      have i1 : (k : Int) ≤ (pc : Int) := by omega
      have i2 : (0 : Int) ≤ (k : Int) := by omega
      have i3 : (k : Int) ≤ (p.length : Int) := by omega
      have HRT' := Lib.hid (show intL.row wc (fun _ => True) PA (p.take k) from row_take HPp.out k)
      have HCU : (p.take k).length = k := by rw [List.length_take]; omega
      go_cut [17] from 101 to 108 (fun v17 wx => ∃ (g : Nat) (Ah : Option Addr) (ch : Nat) (lh : List Ln) (rh : Int), v17 = .pointer (some ⟨g, 0, none⟩) ∧ Hid (wx.heap[g]? = some (.cells #[.slice Ah lh.length ch, .int .i64 rh] 24 (0, 0))) ∧ Hid (Lies wx (treeOf h0) Ah ch lh rh) ∧ Hid (Below wc.heap.size wc wx))
      case first =>
        have HSB := Lib.hid (show ∀ w', Below wc.heap.size wc w' → w'.cell? ⟨W.heap.size, 0, none⟩ = some (.slice A ls.length c) ∧ w'.cell? ⟨W.heap.size, 1, none⟩ = some (.int .i64 root) from fun w' h => by obtain ⟨x0, x1, _, _⟩ := blk2 (bx_kept h HKt.out); exact ⟨x0, x1⟩)
        have HBs := Lib.hid (Below.refl wc.heap.size wc)
        obtain ⟨wa, hwa⟩ : ∃ wa, wa = wc := ⟨_, rfl⟩
        go_region_held3 (fun w' => w'.cell? ⟨W.heap.size, 0, none⟩ = some (.slice A ls.length c) ∧ w'.cell? ⟨W.heap.size, 1, none⟩ = some (.int .i64 root))
          (exact HSB.out _ (by first | exact HBs.out | exact HBs.out.drew | exact below_al18 HBs.out _ (Nat.le_refl _) | exact below_al18 HBs.out.drew _ (Nat.le_refl _) | exact (below_al18 HBs.out _ (Nat.le_refl _)).drew | exact (HBs.out.setCell (p := ⟨_, 0, none⟩) (Nat.le_refl _) _).setCell (p := ⟨_, 1, none⟩) (Nat.le_refl _) _))
          (first
            | (go_at_call 9; (with_reducible refine (at_lies (c := c) (pc := pc) HCU (HVt.out.below (by first | exact HBs.out | exact HBs.out.drew | exact below_al18 HBs.out _ (Nat.le_refl _) | exact below_al18 HBs.out.drew _ (Nat.le_refl _) | exact (below_al18 HBs.out _ (Nat.le_refl _)).drew | exact (HBs.out.setCell (p := ⟨_, 0, none⟩) (Nat.le_refl _) _).setCell (p := ⟨_, 1, none⟩) (Nat.le_refl _) _)) (HRT'.out.below (by first | exact HBs.out | exact HBs.out.drew | exact below_al18 HBs.out _ (Nat.le_refl _) | exact below_al18 HBs.out.drew _ (Nat.le_refl _) | exact (below_al18 HBs.out _ (Nat.le_refl _)).drew | exact (HBs.out.setCell (p := ⟨_, 0, none⟩) (Nat.le_refl _) _).setCell (p := ⟨_, 1, none⟩) (Nat.le_refl _) _)) (by omega) (by omega) (HCc.out.below (by first | exact HBs.out | exact HBs.out.drew | exact below_al18 HBs.out _ (Nat.le_refl _) | exact below_al18 HBs.out.drew _ (Nat.le_refl _) | exact (below_al18 HBs.out _ (Nat.le_refl _)).drew | exact (HBs.out.setCell (p := ⟨_, 0, none⟩) (Nat.le_refl _) _).setCell (p := ⟨_, 1, none⟩) (Nat.le_refl _) _)) HH0.out).mono ?_); rintro e wd ⟨Ah, ch, lh, rh, rfl, hlq, hbq⟩; have HLh := Lib.hid hlq; have HBS' := Lib.hid (Below.step (by first | exact HBs.out | exact HBs.out.drew | exact below_al18 HBs.out _ (Nat.le_refl _) | exact below_al18 HBs.out.drew _ (Nat.le_refl _) | exact (below_al18 HBs.out _ (Nat.le_refl _)).drew | exact (HBs.out.setCell (p := ⟨_, 0, none⟩) (Nat.le_refl _) _).setCell (p := ⟨_, 1, none⟩) (Nat.le_refl _) _) hbq); clear HBs; have HBs := HBS'; clear HBS'; (first | ((with_reducible have HXg := Lib.hid (keptA hbq hlq)); obtain ⟨s0, s1, s2, s3⟩ := blk2 HXg.out.1) | ((with_reducible have HXg := Lib.hid (keptB hbq hlq)); obtain ⟨s0, s1, s2, s3⟩ := blk2 HXg.out.1) | skip); clear hbq hlq)
            | fail)
        all_goals go_wp2_with fail
        all_goals go_meet
        all_goals first
          | (have hq := box_new HLh.out HBs.out HBs.out.size; exact ⟨_, Ah, ch, lh, rh, rfl, Lib.hid hq.1, Lib.hid hq.2.1, Lib.hid hq.2.2⟩)
          | (have hq := box_late HXg.out.1 (Nat.lt_succ_self _) HXg.out.2 HBs.out (Nat.le_refl _); exact ⟨_, Ah, ch, lh, rh, rfl, Lib.hid hq.1, Lib.hid hq.2.1, Lib.hid hq.2.2⟩)
      case rest =>
        obtain ⟨g17, Ah, ch, lh, rh, rfl, HK17, HVh, HR⟩ := hcut
        clear HRT'
        have HVt' := Lib.hid (HVt.out.below HR.out); clear HVt; have HVt := HVt'; clear HVt'
        have HVx' := Lib.hid (HVx.out.below HR.out); clear HVx; have HVx := HVx'; clear HVx'
        have HPp' := Lib.hid (HPp.out.below HR.out); clear HPp; have HPp := HPp'; clear HPp'
        have HCc' := Lib.hid (HCc.out.below HR.out); clear HCc; have HCc := HCc'; clear HCc'
        have HVy' := Lib.hid (HVy.out.below HR.out); clear HVy; have HVy := HVy'; clear HVy'
        have HVs' := Lib.hid (HVs.out.below HR.out); clear HVs; have HVs := HVs'; clear HVs'
        have HVw' := Lib.hid (HVw.out.below HR.out); clear HVw; have HVw := HVw'; clear HVw'
        have HKt' := Lib.hid (bx_kept HR.out HKt.out); clear HKt; have HKt := HKt'; clear HKt'
        have HKx' := Lib.hid (bx_kept HR.out HKx.out); clear HKx; have HKx := HKx'; clear HKx'
        have HK9' := Lib.hid (bx_kept HR.out HK9.out); clear HK9; have HK9 := HK9'; clear HK9'
        have HK11' := Lib.hid (bx_kept HR.out HK11.out); clear HK11; have HK11 := HK11'; clear HK11'
        have HK14' := Lib.hid (bx_kept HR.out HK14.out); clear HK14; have HK14 := HK14'; clear HK14'
        have HK16' := Lib.hid (bx_kept HR.out HK16.out); clear HK16; have HK16 := HK16'; clear HK16'
        have HB' := Lib.hid (Below.step HB.out HR.out); clear HB; have HB := HB'; clear HB'
        clear HR
        have HLH := Lib.hid (show lh.length ≤ 1500 from by have h1 := HVh.out.len; have h2 := sz_atT HH0.out; have h3 := HSZ.out; rw [sz_treeOf] at h1; omega)
        have HCD : (p.drop k).length = p.length - k := by rw [List.length_drop]
        have HRD := Lib.hid (row_drop HPp.out k pc hpc.1)
        have HU := Lib.hid (show putT (treeOf h0) (p.drop k) X = none from by have h1 := HH1.out; rw [HZ.out] at h1; simpa using h1)
        go_upto_region 17 with (fail)
        go_cut [20] from 109 to 117 (fun v20 wx => v20 = .bool false ∧ Hid (Below wc.heap.size wc wx))
        case first =>
          have HSB := Lib.hid (show ∀ w', Below wc.heap.size wc w' → w'.cell? ⟨g17, 0, none⟩ = some (.slice Ah lh.length ch) ∧ w'.cell? ⟨g17, 1, none⟩ = some (.int .i64 rh) ∧ w'.cell? ⟨hx, 0, none⟩ = some (.slice XA xs.length xc) ∧ w'.cell? ⟨hx, 1, none⟩ = some (.int .i64 xroot) from fun w' h => by obtain ⟨x0, x1, _, _⟩ := blk2 (bx_kept h HK17.out); obtain ⟨x2, x3, _, _⟩ := blk2 (bx_kept h HKx.out); exact ⟨x0, x1, x2, x3⟩)
          have HBs := Lib.hid (Below.refl wc.heap.size wc)
          have HRDE := HRD.out
          obtain ⟨VD, hVD⟩ : ∃ VD, (if pc = k then PA else Option.map (fun x => x.add k) PA) = VD := ⟨_, rfl⟩
          rw [hVD] at HRDE
          have HRD := Lib.hid HRDE
          clear HRDE
          all_goals
            go_region_held3 (fun w' => w'.cell? ⟨g17, 0, none⟩ = some (.slice Ah lh.length ch) ∧ w'.cell? ⟨g17, 1, none⟩ = some (.int .i64 rh) ∧ w'.cell? ⟨hx, 0, none⟩ = some (.slice XA xs.length xc) ∧ w'.cell? ⟨hx, 1, none⟩ = some (.int .i64 xroot))
              (exact HSB.out _ (by first | exact HBs.out | exact HBs.out.drew | exact below_al18 HBs.out _ (Nat.le_refl _) | exact below_al18 HBs.out.drew _ (Nat.le_refl _) | exact (below_al18 HBs.out _ (Nat.le_refl _)).drew | exact (HBs.out.setCell (p := ⟨_, 0, none⟩) (Nat.le_refl _) _).setCell (p := ⟨_, 1, none⟩) (Nat.le_refl _) _))
              (first
                | (go_at_call 11; (with_reducible refine (put_not (c := ch) (xc := xc) HCD (HVh.out.below (by first | exact HBs.out | exact HBs.out.drew | exact below_al18 HBs.out _ (Nat.le_refl _) | exact below_al18 HBs.out.drew _ (Nat.le_refl _) | exact (below_al18 HBs.out _ (Nat.le_refl _)).drew | exact (HBs.out.setCell (p := ⟨_, 0, none⟩) (Nat.le_refl _) _).setCell (p := ⟨_, 1, none⟩) (Nat.le_refl _) _)) (HRD.out.below (by first | exact HBs.out | exact HBs.out.drew | exact below_al18 HBs.out _ (Nat.le_refl _) | exact below_al18 HBs.out.drew _ (Nat.le_refl _) | exact (below_al18 HBs.out _ (Nat.le_refl _)).drew | exact (HBs.out.setCell (p := ⟨_, 0, none⟩) (Nat.le_refl _) _).setCell (p := ⟨_, 1, none⟩) (Nat.le_refl _) _)) (HVx.out.below (by first | exact HBs.out | exact HBs.out.drew | exact below_al18 HBs.out _ (Nat.le_refl _) | exact below_al18 HBs.out.drew _ (Nat.le_refl _) | exact (below_al18 HBs.out _ (Nat.le_refl _)).drew | exact (HBs.out.setCell (p := ⟨_, 0, none⟩) (Nat.le_refl _) _).setCell (p := ⟨_, 1, none⟩) (Nat.le_refl _) _)) (by have := HLH.out; omega) (by omega) (HCc.out.below (by first | exact HBs.out | exact HBs.out.drew | exact below_al18 HBs.out _ (Nat.le_refl _) | exact below_al18 HBs.out.drew _ (Nat.le_refl _) | exact (below_al18 HBs.out _ (Nat.le_refl _)).drew | exact (HBs.out.setCell (p := ⟨_, 0, none⟩) (Nat.le_refl _) _).setCell (p := ⟨_, 1, none⟩) (Nat.le_refl _) _)) HU.out).mono ?_); rintro e wd ⟨rfl, hbq⟩; have HBS' := Lib.hid (Below.step (by first | exact HBs.out | exact HBs.out.drew | exact below_al18 HBs.out _ (Nat.le_refl _) | exact below_al18 HBs.out.drew _ (Nat.le_refl _) | exact (below_al18 HBs.out _ (Nat.le_refl _)).drew | exact (HBs.out.setCell (p := ⟨_, 0, none⟩) (Nat.le_refl _) _).setCell (p := ⟨_, 1, none⟩) (Nat.le_refl _) _) hbq); clear HBs; have HBs := HBS'; clear HBS'; (first | ((with_reducible have HXg := Lib.hid (keptA0 hbq)); obtain ⟨s0, s1, s2, s3⟩ := blk2 HXg.out) | ((with_reducible have HXg := Lib.hid (keptB0 hbq)); obtain ⟨s0, s1, s2, s3⟩ := blk2 HXg.out) | skip); clear hbq)
                | fail)
            all_goals go_wp2_with fail
            all_goals go_meet
          all_goals exact ⟨rfl, Lib.hid (by first | exact HBs.out | exact HBs.out.drew | exact below_al18 HBs.out _ (Nat.le_refl _) | exact below_al18 HBs.out.drew _ (Nat.le_refl _) | exact (below_al18 HBs.out _ (Nat.le_refl _)).drew | exact (HBs.out.setCell (p := ⟨_, 0, none⟩) (Nat.le_refl _) _).setCell (p := ⟨_, 1, none⟩) (Nat.le_refl _) _)⟩
        case rest =>
          obtain ⟨rfl, HR⟩ := hcut
          have HB' := Lib.hid (Below.step HB.out HR.out)
          go_wp2_with fail
          go_ret
          exact ⟨rfl, HB'.out⟩
  · -- X is right
    obtain ⟨HKt0, HKt1, HKt2, HKt3⟩ := blk2 HKt.out
    obtain ⟨HKx0, HKx1, HKx2, HKx3⟩ := blk2 HKx.out
    go_wp2_with fail
    refine (at_lies (c := c) (pc := pc) rfl HVt.out HPp.out (by omega) (by omega) HCc.out hat).mono ?_
    rintro e wq ⟨Ay, cy, ly, ry, rfl, hlq, hbq⟩
    have HR := Lib.hid (Below.step hbq (bx1 wq (.cells #[.slice Ay ly.length cy, .int .i64 ry] 24)))
    have hkq := bx_new wq (.cells #[.slice Ay ly.length cy, .int .i64 ry] 24)
    have HVy := Lib.hid (hlq.lies.below (bx1 wq (.cells #[.slice Ay ly.length cy, .int .i64 ry] 24))); clear hlq
    clear HKt0 HKt1 HKt2 HKt3 HKx0 HKx1 HKx2 HKx3
    go_upto_region 4 with (fail)
    generalize wq.alloc (.cells #[.slice Ay ly.length cy, .int .i64 ry] 24) = W9 at *
    generalize wq.heap.size = p9 at *
    have HK9 := Lib.hid hkq; clear hkq hbq
    have HVt' := Lib.hid (HVt.out.below HR.out); clear HVt; have HVt := HVt'; clear HVt'
    have HVx' := Lib.hid (HVx.out.below HR.out); clear HVx; have HVx := HVx'; clear HVx'
    have HPp' := Lib.hid (HPp.out.below HR.out); clear HPp; have HPp := HPp'; clear HPp'
    have HCc' := Lib.hid (HCc.out.below HR.out); clear HCc; have HCc := HCc'; clear HCc'
    have HKt' := Lib.hid (bx_kept HR.out HKt.out); clear HKt; have HKt := HKt'; clear HKt'
    have HKx' := Lib.hid (bx_kept HR.out HKx.out); clear HKx; have HKx := HKx'; clear HKx'
    have HB' := Lib.hid (Below.step HB.out HR.out); clear HB; have HB := HB'; clear HB'
    clear HR
    have HLY := Lib.hid (show ly.length ≤ 1500 from by have h1 := HVy.out.len; have h2 := HSY.out; rw [sz_treeOf] at h1; have h3 := HSZ.out.1; omega)
    obtain ⟨z, hz⟩ : ∃ z, putT T p X = some z := Option.isSome_iff_exists.1 (by rw [HAS.out]; exact hrx)
    have HZ := Lib.hid hz; clear hz
    have HSZZ := Lib.hid (show (treeOf (makeTT z)).nodes.length ≤ 3000 from by have h1 := sz_putT HZ.out; have h2 := sz_make z; have h3 := HSZ.out; rw [sz_treeOf]; omega)
    obtain ⟨HKt0, HKt1, HKt2, HKt3⟩ := blk2 HKt.out
    obtain ⟨HKx0, HKx1, HKx2, HKx3⟩ := blk2 HKx.out
    obtain ⟨HK90, HK91, HK92, HK93⟩ := blk2 HK9.out
    go_wp2_with fail
    refine (put_lies (c := c) (pc := pc) (xc := xc) rfl HVt.out HPp.out HVx.out (by omega) (by omega) HCc.out HZ.out).mono ?_
    rintro e wq ⟨Az, cz, lz, rz, rfl, hlq, hbq⟩
    have HR := Lib.hid (Below.step hbq (bx1 wq (.cells #[.slice Az lz.length cz, .int .i64 rz] 24)))
    have hkq := bx_new wq (.cells #[.slice Az lz.length cz, .int .i64 rz] 24)
    have HVz := Lib.hid (hlq.lies.below (bx1 wq (.cells #[.slice Az lz.length cz, .int .i64 rz] 24))); clear hlq
    clear HKt0 HKt1 HKt2 HKt3 HKx0 HKx1 HKx2 HKx3 HK90 HK91 HK92 HK93
    go_upto_region 5 with (fail)
    generalize wq.alloc (.cells #[.slice Az lz.length cz, .int .i64 rz] 24) = W11 at *
    generalize wq.heap.size = p11 at *
    have HK11 := Lib.hid hkq; clear hkq hbq
    have HVt' := Lib.hid (HVt.out.below HR.out); clear HVt; have HVt := HVt'; clear HVt'
    have HVx' := Lib.hid (HVx.out.below HR.out); clear HVx; have HVx := HVx'; clear HVx'
    have HPp' := Lib.hid (HPp.out.below HR.out); clear HPp; have HPp := HPp'; clear HPp'
    have HCc' := Lib.hid (HCc.out.below HR.out); clear HCc; have HCc := HCc'; clear HCc'
    have HVy' := Lib.hid (HVy.out.below HR.out); clear HVy; have HVy := HVy'; clear HVy'
    have HKt' := Lib.hid (bx_kept HR.out HKt.out); clear HKt; have HKt := HKt'; clear HKt'
    have HKx' := Lib.hid (bx_kept HR.out HKx.out); clear HKx; have HKx := HKx'; clear HKx'
    have HK9' := Lib.hid (bx_kept HR.out HK9.out); clear HK9; have HK9 := HK9'; clear HK9'
    have HB' := Lib.hid (Below.step HB.out HR.out); clear HB; have HB := HB'; clear HB'
    clear HR
    have HLZ := Lib.hid (show lz.length ≤ 3000 from by have h1 := HVz.out.len; have h2 := HSZZ.out; omega)
    obtain ⟨HKt0, HKt1, HKt2, HKt3⟩ := blk2 HKt.out
    obtain ⟨HKx0, HKx1, HKx2, HKx3⟩ := blk2 HKx.out
    obtain ⟨HK90, HK91, HK92, HK93⟩ := blk2 HK9.out
    obtain ⟨HK110, HK111, HK112, HK113⟩ := blk2 HK11.out
    go_wp2_with fail
    refine (right_lies (c := xc) HVx.out (by omega) HCc.out).mono ?_
    rintro e W12 ⟨rfl, hbq⟩
    rw [hrx]
    have HR := Lib.hid hbq; clear hbq
    clear HKt0 HKt1 HKt2 HKt3 HKx0 HKx1 HKx2 HKx3 HK90 HK91 HK92 HK93 HK110 HK111 HK112 HK113
    have HVt' := Lib.hid (HVt.out.below HR.out); clear HVt; have HVt := HVt'; clear HVt'
    have HVx' := Lib.hid (HVx.out.below HR.out); clear HVx; have HVx := HVx'; clear HVx'
    have HPp' := Lib.hid (HPp.out.below HR.out); clear HPp; have HPp := HPp'; clear HPp'
    have HCc' := Lib.hid (HCc.out.below HR.out); clear HCc; have HCc := HCc'; clear HCc'
    have HVy' := Lib.hid (HVy.out.below HR.out); clear HVy; have HVy := HVy'; clear HVy'
    have HVz' := Lib.hid (HVz.out.below HR.out); clear HVz; have HVz := HVz'; clear HVz'
    have HKt' := Lib.hid (bx_kept HR.out HKt.out); clear HKt; have HKt := HKt'; clear HKt'
    have HKx' := Lib.hid (bx_kept HR.out HKx.out); clear HKx; have HKx := HKx'; clear HKx'
    have HK9' := Lib.hid (bx_kept HR.out HK9.out); clear HK9; have HK9 := HK9'; clear HK9'
    have HK11' := Lib.hid (bx_kept HR.out HK11.out); clear HK11; have HK11 := HK11'; clear HK11'
    have HB' := Lib.hid (Below.step HB.out HR.out); clear HB; have HB := HB'; clear HB'
    clear HR
    obtain ⟨HKt0, HKt1, HKt2, HKt3⟩ := blk2 HKt.out
    obtain ⟨HKx0, HKx1, HKx2, HKx3⟩ := blk2 HKx.out
    obtain ⟨HK90, HK91, HK92, HK93⟩ := blk2 HK9.out
    obtain ⟨HK110, HK111, HK112, HK113⟩ := blk2 HK11.out
    go_wp2_with fail
    refine (normal_lies (c := cz) HVz.out (by have := HLZ.out; omega) HCc.out).mono ?_
    rintro e W13 ⟨rfl, hbq⟩
    rw [put_normal HZ.out]
    have HR := Lib.hid hbq; clear hbq
    clear HKt0 HKt1 HKt2 HKt3 HKx0 HKx1 HKx2 HKx3 HK90 HK91 HK92 HK93 HK110 HK111 HK112 HK113
    have HVt' := Lib.hid (HVt.out.below HR.out); clear HVt; have HVt := HVt'; clear HVt'
    have HVx' := Lib.hid (HVx.out.below HR.out); clear HVx; have HVx := HVx'; clear HVx'
    have HPp' := Lib.hid (HPp.out.below HR.out); clear HPp; have HPp := HPp'; clear HPp'
    have HCc' := Lib.hid (HCc.out.below HR.out); clear HCc; have HCc := HCc'; clear HCc'
    have HVy' := Lib.hid (HVy.out.below HR.out); clear HVy; have HVy := HVy'; clear HVy'
    have HVz' := Lib.hid (HVz.out.below HR.out); clear HVz; have HVz := HVz'; clear HVz'
    have HKt' := Lib.hid (bx_kept HR.out HKt.out); clear HKt; have HKt := HKt'; clear HKt'
    have HKx' := Lib.hid (bx_kept HR.out HKx.out); clear HKx; have HKx := HKx'; clear HKx'
    have HK9' := Lib.hid (bx_kept HR.out HK9.out); clear HK9; have HK9 := HK9'; clear HK9'
    have HK11' := Lib.hid (bx_kept HR.out HK11.out); clear HK11; have HK11 := HK11'; clear HK11'
    have HB' := Lib.hid (Below.step HB.out HR.out); clear HB; have HB := HB'; clear HB'
    clear HR
    go_upto_region 11 with (fail)
    have HPB := Lib.hid (put_back hat)
    obtain ⟨hrt, _⟩ := atT_some hat
    have HRT := Lib.hid hrt; clear hrt
    have HSM := Lib.hid (show (treeOf (makeTT (denT T))).nodes.length ≤ 1500 from by have h1 := sz_make (denT T); have h2 : szTT (denT T) ≤ T.nodes.length := sz_den ((rightT_iff _).1 HRT.out); have h3 := HSZ.out; rw [sz_treeOf]; omega)
    obtain ⟨HKt0, HKt1, HKt2, HKt3⟩ := blk2 HKt.out
    obtain ⟨HKx0, HKx1, HKx2, HKx3⟩ := blk2 HKx.out
    obtain ⟨HK90, HK91, HK92, HK93⟩ := blk2 HK9.out
    obtain ⟨HK110, HK111, HK112, HK113⟩ := blk2 HK11.out
    go_wp2_with fail
    refine (put_lies (c := c) (pc := pc) (xc := cy) rfl HVt.out HPp.out HVy.out (by have := HLY.out; omega) (by omega) HCc.out HPB.out).mono ?_
    rintro e wq ⟨As, cs, lS, rs, rfl, hlq, hbq⟩
    have HR := Lib.hid (Below.step hbq (bx1 wq (.cells #[.slice As lS.length cs, .int .i64 rs] 24)))
    have hkq := bx_new wq (.cells #[.slice As lS.length cs, .int .i64 rs] 24)
    have HVs := Lib.hid (hlq.lies.below (bx1 wq (.cells #[.slice As lS.length cs, .int .i64 rs] 24))); clear hlq
    clear HKt0 HKt1 HKt2 HKt3 HKx0 HKx1 HKx2 HKx3 HK90 HK91 HK92 HK93 HK110 HK111 HK112 HK113
    go_upto_region 12 with (fail)
    generalize wq.alloc (.cells #[.slice As lS.length cs, .int .i64 rs] 24) = W14 at *
    generalize wq.heap.size = p14 at *
    have HK14 := Lib.hid hkq; clear hkq hbq
    have HVt' := Lib.hid (HVt.out.below HR.out); clear HVt; have HVt := HVt'; clear HVt'
    have HVx' := Lib.hid (HVx.out.below HR.out); clear HVx; have HVx := HVx'; clear HVx'
    have HPp' := Lib.hid (HPp.out.below HR.out); clear HPp; have HPp := HPp'; clear HPp'
    have HCc' := Lib.hid (HCc.out.below HR.out); clear HCc; have HCc := HCc'; clear HCc'
    have HVy' := Lib.hid (HVy.out.below HR.out); clear HVy; have HVy := HVy'; clear HVy'
    have HVz' := Lib.hid (HVz.out.below HR.out); clear HVz; have HVz := HVz'; clear HVz'
    have HKt' := Lib.hid (bx_kept HR.out HKt.out); clear HKt; have HKt := HKt'; clear HKt'
    have HKx' := Lib.hid (bx_kept HR.out HKx.out); clear HKx; have HKx := HKx'; clear HKx'
    have HK9' := Lib.hid (bx_kept HR.out HK9.out); clear HK9; have HK9 := HK9'; clear HK9'
    have HK11' := Lib.hid (bx_kept HR.out HK11.out); clear HK11; have HK11 := HK11'; clear HK11'
    have HB' := Lib.hid (Below.step HB.out HR.out); clear HB; have HB := HB'; clear HB'
    clear HR
    have HLS := Lib.hid (show lS.length ≤ 1500 from by have h1 := HVs.out.len; have h2 := HSM.out; omega)
    obtain ⟨HKt0, HKt1, HKt2, HKt3⟩ := blk2 HKt.out
    obtain ⟨HKx0, HKx1, HKx2, HKx3⟩ := blk2 HKx.out
    obtain ⟨HK90, HK91, HK92, HK93⟩ := blk2 HK9.out
    obtain ⟨HK110, HK111, HK112, HK113⟩ := blk2 HK11.out
    obtain ⟨HK140, HK141, HK142, HK143⟩ := blk2 HK14.out
    go_wp2_with fail
    refine (make_lies (c := c) HVt.out (by omega) HCc.out HRT.out).mono ?_
    rintro e wq ⟨Aw, cw, lw, rw', rfl, hlq, hbq⟩
    have HR := Lib.hid (Below.step hbq (bx1 wq (.cells #[.slice Aw lw.length cw, .int .i64 rw'] 24)))
    have hkq := bx_new wq (.cells #[.slice Aw lw.length cw, .int .i64 rw'] 24)
    have HVw := Lib.hid (hlq.lies.below (bx1 wq (.cells #[.slice Aw lw.length cw, .int .i64 rw'] 24))); clear hlq
    clear HKt0 HKt1 HKt2 HKt3 HKx0 HKx1 HKx2 HKx3 HK90 HK91 HK92 HK93 HK110 HK111 HK112 HK113 HK140 HK141 HK142 HK143
    go_upto_region 13 with (fail)
    generalize wq.alloc (.cells #[.slice Aw lw.length cw, .int .i64 rw'] 24) = W16 at *
    generalize wq.heap.size = p16 at *
    have HK16 := Lib.hid hkq; clear hkq hbq
    have HVt' := Lib.hid (HVt.out.below HR.out); clear HVt; have HVt := HVt'; clear HVt'
    have HVx' := Lib.hid (HVx.out.below HR.out); clear HVx; have HVx := HVx'; clear HVx'
    have HPp' := Lib.hid (HPp.out.below HR.out); clear HPp; have HPp := HPp'; clear HPp'
    have HCc' := Lib.hid (HCc.out.below HR.out); clear HCc; have HCc := HCc'; clear HCc'
    have HVy' := Lib.hid (HVy.out.below HR.out); clear HVy; have HVy := HVy'; clear HVy'
    have HVz' := Lib.hid (HVz.out.below HR.out); clear HVz; have HVz := HVz'; clear HVz'
    have HVs' := Lib.hid (HVs.out.below HR.out); clear HVs; have HVs := HVs'; clear HVs'
    have HKt' := Lib.hid (bx_kept HR.out HKt.out); clear HKt; have HKt := HKt'; clear HKt'
    have HKx' := Lib.hid (bx_kept HR.out HKx.out); clear HKx; have HKx := HKx'; clear HKx'
    have HK9' := Lib.hid (bx_kept HR.out HK9.out); clear HK9; have HK9 := HK9'; clear HK9'
    have HK11' := Lib.hid (bx_kept HR.out HK11.out); clear HK11; have HK11 := HK11'; clear HK11'
    have HK14' := Lib.hid (bx_kept HR.out HK14.out); clear HK14; have HK14 := HK14'; clear HK14'
    have HB' := Lib.hid (Below.step HB.out HR.out); clear HB; have HB := HB'; clear HB'
    clear HR
    go_cut [92] from 75 to 92 (fun v wx => v = .bool false ∧ Hid (Below W16.heap.size W16 wx))
    case first =>
      have HQ := Lib.hid (fun h => (norm_same (t := T) h).2)
      obtain ⟨HKt0, HKt1, HKt2, HKt3⟩ := blk2 HKt.out
      obtain ⟨HKx0, HKx1, HKx2, HKx3⟩ := blk2 HKx.out
      obtain ⟨HK90, HK91, HK92, HK93⟩ := blk2 HK9.out
      obtain ⟨HK110, HK111, HK112, HK113⟩ := blk2 HK11.out
      obtain ⟨HK140, HK141, HK142, HK143⟩ := blk2 HK14.out
      obtain ⟨HK160, HK161, HK162, HK163⟩ := blk2 HK16.out
      go_wp2_with fail
      refine (exact_lies HVs.out HVw.out (by have := HLS.out; omega)).mono ?_
      rintro e W17 ⟨rfl, hbq⟩
      have HR := Lib.hid hbq; have HR0 := Lib.hid hbq; clear hbq
      clear HKt0 HKt1 HKt2 HKt3 HKx0 HKx1 HKx2 HKx3 HK90 HK91 HK92 HK93 HK110 HK111 HK112 HK113 HK140 HK141 HK142 HK143 HK160 HK161 HK162 HK163
      have HVt' := Lib.hid (HVt.out.below HR.out); clear HVt; have HVt := HVt'; clear HVt'
      have HVx' := Lib.hid (HVx.out.below HR.out); clear HVx; have HVx := HVx'; clear HVx'
      have HPp' := Lib.hid (HPp.out.below HR.out); clear HPp; have HPp := HPp'; clear HPp'
      have HCc' := Lib.hid (HCc.out.below HR.out); clear HCc; have HCc := HCc'; clear HCc'
      have HVy' := Lib.hid (HVy.out.below HR.out); clear HVy; have HVy := HVy'; clear HVy'
      have HVz' := Lib.hid (HVz.out.below HR.out); clear HVz; have HVz := HVz'; clear HVz'
      have HVs' := Lib.hid (HVs.out.below HR.out); clear HVs; have HVs := HVs'; clear HVs'
      have HVw' := Lib.hid (HVw.out.below HR.out); clear HVw; have HVw := HVw'; clear HVw'
      have HKt' := Lib.hid (bx_kept HR.out HKt.out); clear HKt; have HKt := HKt'; clear HKt'
      have HKx' := Lib.hid (bx_kept HR.out HKx.out); clear HKx; have HKx := HKx'; clear HKx'
      have HK9' := Lib.hid (bx_kept HR.out HK9.out); clear HK9; have HK9 := HK9'; clear HK9'
      have HK11' := Lib.hid (bx_kept HR.out HK11.out); clear HK11; have HK11 := HK11'; clear HK11'
      have HK14' := Lib.hid (bx_kept HR.out HK14.out); clear HK14; have HK14 := HK14'; clear HK14'
      have HK16' := Lib.hid (bx_kept HR.out HK16.out); clear HK16; have HK16 := HK16'; clear HK16'
      have HB' := Lib.hid (Below.step HB.out HR.out); clear HB; have HB := HB'; clear HB'
      clear HR
      obtain ⟨HKt0, HKt1, HKt2, HKt3⟩ := blk2 HKt.out
      obtain ⟨HKx0, HKx1, HKx2, HKx3⟩ := blk2 HKx.out
      obtain ⟨HK90, HK91, HK92, HK93⟩ := blk2 HK9.out
      obtain ⟨HK110, HK111, HK112, HK113⟩ := blk2 HK11.out
      obtain ⟨HK140, HK141, HK142, HK143⟩ := blk2 HK14.out
      obtain ⟨HK160, HK161, HK162, HK163⟩ := blk2 HK16.out
      go_wp2_with fail
      refine (normal_lies (c := c) HVt.out (by omega) HCc.out).mono ?_
      rintro e W18 ⟨rfl, hbq⟩
      have HR := Lib.hid hbq; have HR1 := Lib.hid (Below.step HR0.out hbq); clear hbq HR0
      clear HKt0 HKt1 HKt2 HKt3 HKx0 HKx1 HKx2 HKx3 HK90 HK91 HK92 HK93 HK110 HK111 HK112 HK113 HK140 HK141 HK142 HK143 HK160 HK161 HK162 HK163
      have HVt' := Lib.hid (HVt.out.below HR.out); clear HVt; have HVt := HVt'; clear HVt'
      have HVx' := Lib.hid (HVx.out.below HR.out); clear HVx; have HVx := HVx'; clear HVx'
      have HPp' := Lib.hid (HPp.out.below HR.out); clear HPp; have HPp := HPp'; clear HPp'
      have HCc' := Lib.hid (HCc.out.below HR.out); clear HCc; have HCc := HCc'; clear HCc'
      have HVy' := Lib.hid (HVy.out.below HR.out); clear HVy; have HVy := HVy'; clear HVy'
      have HVz' := Lib.hid (HVz.out.below HR.out); clear HVz; have HVz := HVz'; clear HVz'
      have HVs' := Lib.hid (HVs.out.below HR.out); clear HVs; have HVs := HVs'; clear HVs'
      have HVw' := Lib.hid (HVw.out.below HR.out); clear HVw; have HVw := HVw'; clear HVw'
      have HKt' := Lib.hid (bx_kept HR.out HKt.out); clear HKt; have HKt := HKt'; clear HKt'
      have HKx' := Lib.hid (bx_kept HR.out HKx.out); clear HKx; have HKx := HKx'; clear HKx'
      have HK9' := Lib.hid (bx_kept HR.out HK9.out); clear HK9; have HK9 := HK9'; clear HK9'
      have HK11' := Lib.hid (bx_kept HR.out HK11.out); clear HK11; have HK11 := HK11'; clear HK11'
      have HK14' := Lib.hid (bx_kept HR.out HK14.out); clear HK14; have HK14 := HK14'; clear HK14'
      have HK16' := Lib.hid (bx_kept HR.out HK16.out); clear HK16; have HK16 := HK16'; clear HK16'
      have HB' := Lib.hid (Below.step HB.out HR.out); clear HB; have HB := HB'; clear HB'
      clear HR
      obtain ⟨HKt0, HKt1, HKt2, HKt3⟩ := blk2 HKt.out
      obtain ⟨HKx0, HKx1, HKx2, HKx3⟩ := blk2 HKx.out
      obtain ⟨HK90, HK91, HK92, HK93⟩ := blk2 HK9.out
      obtain ⟨HK110, HK111, HK112, HK113⟩ := blk2 HK11.out
      obtain ⟨HK140, HK141, HK142, HK143⟩ := blk2 HK14.out
      obtain ⟨HK160, HK161, HK162, HK163⟩ := blk2 HK16.out
      rcases hnt : normT T with _ | _
      · go_wp2_with fail
        go_meet
        exact ⟨rfl, HR1⟩
      · have HQ' := Lib.hid (HQ.out hnt)
        clear HQ hnt
        go_wp2_with fail
        refine (same_lies (c := cs) (xc := c) HVs.out HVt.out (by have := HLS.out; omega) (by omega) HCc.out).mono ?_
        rintro e W19 ⟨rfl, hbq⟩
        rw [HQ'.out]
        have HR2 := Lib.hid (Below.step HR1.out hbq); clear hbq
        go_wp2_with fail
        go_meet
        exact ⟨rfl, HR2⟩
    case rest =>
      obtain ⟨rfl, HR⟩ := hcut
      have HVt' := Lib.hid (HVt.out.below HR.out); clear HVt; have HVt := HVt'; clear HVt'
      have HVx' := Lib.hid (HVx.out.below HR.out); clear HVx; have HVx := HVx'; clear HVx'
      have HPp' := Lib.hid (HPp.out.below HR.out); clear HPp; have HPp := HPp'; clear HPp'
      have HCc' := Lib.hid (HCc.out.below HR.out); clear HCc; have HCc := HCc'; clear HCc'
      have HVy' := Lib.hid (HVy.out.below HR.out); clear HVy; have HVy := HVy'; clear HVy'
      have HVz' := Lib.hid (HVz.out.below HR.out); clear HVz; have HVz := HVz'; clear HVz'
      have HVs' := Lib.hid (HVs.out.below HR.out); clear HVs; have HVs := HVs'; clear HVs'
      have HVw' := Lib.hid (HVw.out.below HR.out); clear HVw; have HVw := HVw'; clear HVw'
      have HKt' := Lib.hid (bx_kept HR.out HKt.out); clear HKt; have HKt := HKt'; clear HKt'
      have HKx' := Lib.hid (bx_kept HR.out HKx.out); clear HKx; have HKx := HKx'; clear HKx'
      have HK9' := Lib.hid (bx_kept HR.out HK9.out); clear HK9; have HK9 := HK9'; clear HK9'
      have HK11' := Lib.hid (bx_kept HR.out HK11.out); clear HK11; have HK11 := HK11'; clear HK11'
      have HK14' := Lib.hid (bx_kept HR.out HK14.out); clear HK14; have HK14 := HK14'; clear HK14'
      have HK16' := Lib.hid (bx_kept HR.out HK16.out); clear HK16; have HK16 := HK16'; clear HK16'
      have HB' := Lib.hid (Below.step HB.out HR.out); clear HB; have HB := HB'; clear HB'
      clear HR
      go_upto_region 16 with (fail)
      obtain ⟨k, hk, hke⟩ := part_is part p.length h3
      rw [hke]
      clear hke
      obtain ⟨h0, hh0, hh1, hh2⟩ := put_steps (p := p.take k) (q := p.drop k) (x := X) (by rw [List.take_append_drop]; exact hat)
      rw [List.take_append_drop] at hh1 hh2
      have HH0 := Lib.hid hh0; have HH1 := Lib.hid hh1; have HH2 := Lib.hid hh2; clear hh0 hh1 hh2
      have i1 : (k : Int) ≤ (pc : Int) := by omega
      have i2 : (0 : Int) ≤ (k : Int) := by omega
      have i3 : (k : Int) ≤ (p.length : Int) := by omega
      have HRT' := Lib.hid (show intL.row wc (fun _ => True) PA (p.take k) from row_take HPp.out k)
      have HCU : (p.take k).length = k := by rw [List.length_take]; omega
      go_cut [17] from 101 to 108 (fun v17 wx => ∃ (g : Nat) (Ah : Option Addr) (ch : Nat) (lh : List Ln) (rh : Int), v17 = .pointer (some ⟨g, 0, none⟩) ∧ Hid (wx.heap[g]? = some (.cells #[.slice Ah lh.length ch, .int .i64 rh] 24 (0, 0))) ∧ Hid (Lies wx (treeOf h0) Ah ch lh rh) ∧ Hid (Below wc.heap.size wc wx))
      case first =>
        have HSB := Lib.hid (show ∀ w', Below wc.heap.size wc w' → w'.cell? ⟨W.heap.size, 0, none⟩ = some (.slice A ls.length c) ∧ w'.cell? ⟨W.heap.size, 1, none⟩ = some (.int .i64 root) from fun w' h => by obtain ⟨x0, x1, _, _⟩ := blk2 (bx_kept h HKt.out); exact ⟨x0, x1⟩)
        have HBs := Lib.hid (Below.refl wc.heap.size wc)
        obtain ⟨wa, hwa⟩ : ∃ wa, wa = wc := ⟨_, rfl⟩
        go_region_held3 (fun w' => w'.cell? ⟨W.heap.size, 0, none⟩ = some (.slice A ls.length c) ∧ w'.cell? ⟨W.heap.size, 1, none⟩ = some (.int .i64 root))
          (exact HSB.out _ (by first | exact HBs.out | exact HBs.out.drew | exact below_al18 HBs.out _ (Nat.le_refl _) | exact below_al18 HBs.out.drew _ (Nat.le_refl _) | exact (below_al18 HBs.out _ (Nat.le_refl _)).drew | exact (HBs.out.setCell (p := ⟨_, 0, none⟩) (Nat.le_refl _) _).setCell (p := ⟨_, 1, none⟩) (Nat.le_refl _) _))
          (first
            | (go_at_call 9; (with_reducible refine (at_lies (c := c) (pc := pc) HCU (HVt.out.below (by first | exact HBs.out | exact HBs.out.drew | exact below_al18 HBs.out _ (Nat.le_refl _) | exact below_al18 HBs.out.drew _ (Nat.le_refl _) | exact (below_al18 HBs.out _ (Nat.le_refl _)).drew | exact (HBs.out.setCell (p := ⟨_, 0, none⟩) (Nat.le_refl _) _).setCell (p := ⟨_, 1, none⟩) (Nat.le_refl _) _)) (HRT'.out.below (by first | exact HBs.out | exact HBs.out.drew | exact below_al18 HBs.out _ (Nat.le_refl _) | exact below_al18 HBs.out.drew _ (Nat.le_refl _) | exact (below_al18 HBs.out _ (Nat.le_refl _)).drew | exact (HBs.out.setCell (p := ⟨_, 0, none⟩) (Nat.le_refl _) _).setCell (p := ⟨_, 1, none⟩) (Nat.le_refl _) _)) (by omega) (by omega) (HCc.out.below (by first | exact HBs.out | exact HBs.out.drew | exact below_al18 HBs.out _ (Nat.le_refl _) | exact below_al18 HBs.out.drew _ (Nat.le_refl _) | exact (below_al18 HBs.out _ (Nat.le_refl _)).drew | exact (HBs.out.setCell (p := ⟨_, 0, none⟩) (Nat.le_refl _) _).setCell (p := ⟨_, 1, none⟩) (Nat.le_refl _) _)) HH0.out).mono ?_); rintro e wd ⟨Ah, ch, lh, rh, rfl, hlq, hbq⟩; have HLh := Lib.hid hlq; have HBS' := Lib.hid (Below.step (by first | exact HBs.out | exact HBs.out.drew | exact below_al18 HBs.out _ (Nat.le_refl _) | exact below_al18 HBs.out.drew _ (Nat.le_refl _) | exact (below_al18 HBs.out _ (Nat.le_refl _)).drew | exact (HBs.out.setCell (p := ⟨_, 0, none⟩) (Nat.le_refl _) _).setCell (p := ⟨_, 1, none⟩) (Nat.le_refl _) _) hbq); clear HBs; have HBs := HBS'; clear HBS'; (first | ((with_reducible have HXg := Lib.hid (keptA hbq hlq)); obtain ⟨s0, s1, s2, s3⟩ := blk2 HXg.out.1) | ((with_reducible have HXg := Lib.hid (keptB hbq hlq)); obtain ⟨s0, s1, s2, s3⟩ := blk2 HXg.out.1) | skip); clear hbq hlq)
            | fail)
        all_goals go_wp2_with fail
        all_goals go_meet
        all_goals first
          | (have hq := box_new HLh.out HBs.out HBs.out.size; exact ⟨_, Ah, ch, lh, rh, rfl, Lib.hid hq.1, Lib.hid hq.2.1, Lib.hid hq.2.2⟩)
          | (have hq := box_late HXg.out.1 (Nat.lt_succ_self _) HXg.out.2 HBs.out (Nat.le_refl _); exact ⟨_, Ah, ch, lh, rh, rfl, Lib.hid hq.1, Lib.hid hq.2.1, Lib.hid hq.2.2⟩)
      case rest =>
        obtain ⟨g17, Ah, ch, lh, rh, rfl, HK17, HVh, HR⟩ := hcut
        clear HRT'
        have HVt' := Lib.hid (HVt.out.below HR.out); clear HVt; have HVt := HVt'; clear HVt'
        have HVx' := Lib.hid (HVx.out.below HR.out); clear HVx; have HVx := HVx'; clear HVx'
        have HPp' := Lib.hid (HPp.out.below HR.out); clear HPp; have HPp := HPp'; clear HPp'
        have HCc' := Lib.hid (HCc.out.below HR.out); clear HCc; have HCc := HCc'; clear HCc'
        have HVy' := Lib.hid (HVy.out.below HR.out); clear HVy; have HVy := HVy'; clear HVy'
        have HVz' := Lib.hid (HVz.out.below HR.out); clear HVz; have HVz := HVz'; clear HVz'
        have HVs' := Lib.hid (HVs.out.below HR.out); clear HVs; have HVs := HVs'; clear HVs'
        have HVw' := Lib.hid (HVw.out.below HR.out); clear HVw; have HVw := HVw'; clear HVw'
        have HKt' := Lib.hid (bx_kept HR.out HKt.out); clear HKt; have HKt := HKt'; clear HKt'
        have HKx' := Lib.hid (bx_kept HR.out HKx.out); clear HKx; have HKx := HKx'; clear HKx'
        have HK9' := Lib.hid (bx_kept HR.out HK9.out); clear HK9; have HK9 := HK9'; clear HK9'
        have HK11' := Lib.hid (bx_kept HR.out HK11.out); clear HK11; have HK11 := HK11'; clear HK11'
        have HK14' := Lib.hid (bx_kept HR.out HK14.out); clear HK14; have HK14 := HK14'; clear HK14'
        have HK16' := Lib.hid (bx_kept HR.out HK16.out); clear HK16; have HK16 := HK16'; clear HK16'
        have HB' := Lib.hid (Below.step HB.out HR.out); clear HB; have HB := HB'; clear HB'
        clear HR
        have HLH := Lib.hid (show lh.length ≤ 1500 from by have h1 := HVh.out.len; have h2 := sz_atT HH0.out; have h3 := HSZ.out; rw [sz_treeOf] at h1; omega)
        have HCD : (p.drop k).length = p.length - k := by rw [List.length_drop]
        have HRD := Lib.hid (row_drop HPp.out k pc hpc.1)
        obtain ⟨u, v, hu, hv, huv⟩ := HH2.out z HZ.out
        have HU := Lib.hid hu; have HVV := Lib.hid hv; have HUV := Lib.hid huv; clear hu hv huv
        have HSU := Lib.hid (show szTT (makeTT u) ≤ 3000 from by have h1 := sz_putT HU.out; have h2 := sz_make u; have h3 := HSZ.out; have h4 := sz_atT HH0.out; rw [sz_treeOf] at h1; omega)
        go_upto_region 17 with (fail)
        go_cut [19, 20] from 109 to 117 (fun v19 v20 wx => ∃ (g : Nat) (Au : Option Addr) (cu : Nat) (lu : List Ln) (ru : Int), v19 = .pointer (some ⟨g, 0, none⟩) ∧ v20 = .bool true ∧ Hid (wx.heap[g]? = some (.cells #[.slice Au lu.length cu, .int .i64 ru] 24 (0, 0))) ∧ Hid (Lies wx (treeOf (makeTT u)) Au cu lu ru) ∧ Hid (Below wc.heap.size wc wx))
        case first =>
          have HSB := Lib.hid (show ∀ w', Below wc.heap.size wc w' → w'.cell? ⟨g17, 0, none⟩ = some (.slice Ah lh.length ch) ∧ w'.cell? ⟨g17, 1, none⟩ = some (.int .i64 rh) ∧ w'.cell? ⟨hx, 0, none⟩ = some (.slice XA xs.length xc) ∧ w'.cell? ⟨hx, 1, none⟩ = some (.int .i64 xroot) from fun w' h => by obtain ⟨x0, x1, _, _⟩ := blk2 (bx_kept h HK17.out); obtain ⟨x2, x3, _, _⟩ := blk2 (bx_kept h HKx.out); exact ⟨x0, x1, x2, x3⟩)
          have HBs := Lib.hid (Below.refl wc.heap.size wc)
          have HRDE := HRD.out
          obtain ⟨VD, hVD⟩ : ∃ VD, (if pc = k then PA else Option.map (fun x => x.add k) PA) = VD := ⟨_, rfl⟩
          rw [hVD] at HRDE
          have HRD := Lib.hid HRDE
          clear HRDE
          all_goals
            go_region_held3 (fun w' => w'.cell? ⟨g17, 0, none⟩ = some (.slice Ah lh.length ch) ∧ w'.cell? ⟨g17, 1, none⟩ = some (.int .i64 rh) ∧ w'.cell? ⟨hx, 0, none⟩ = some (.slice XA xs.length xc) ∧ w'.cell? ⟨hx, 1, none⟩ = some (.int .i64 xroot))
              (exact HSB.out _ (by first | exact HBs.out | exact HBs.out.drew | exact below_al18 HBs.out _ (Nat.le_refl _) | exact below_al18 HBs.out.drew _ (Nat.le_refl _) | exact (below_al18 HBs.out _ (Nat.le_refl _)).drew | exact (HBs.out.setCell (p := ⟨_, 0, none⟩) (Nat.le_refl _) _).setCell (p := ⟨_, 1, none⟩) (Nat.le_refl _) _))
              (first
                | (go_at_call 11; (with_reducible refine (put_lies (c := ch) (xc := xc) HCD (HVh.out.below (by first | exact HBs.out | exact HBs.out.drew | exact below_al18 HBs.out _ (Nat.le_refl _) | exact below_al18 HBs.out.drew _ (Nat.le_refl _) | exact (below_al18 HBs.out _ (Nat.le_refl _)).drew | exact (HBs.out.setCell (p := ⟨_, 0, none⟩) (Nat.le_refl _) _).setCell (p := ⟨_, 1, none⟩) (Nat.le_refl _) _)) (HRD.out.below (by first | exact HBs.out | exact HBs.out.drew | exact below_al18 HBs.out _ (Nat.le_refl _) | exact below_al18 HBs.out.drew _ (Nat.le_refl _) | exact (below_al18 HBs.out _ (Nat.le_refl _)).drew | exact (HBs.out.setCell (p := ⟨_, 0, none⟩) (Nat.le_refl _) _).setCell (p := ⟨_, 1, none⟩) (Nat.le_refl _) _)) (HVx.out.below (by first | exact HBs.out | exact HBs.out.drew | exact below_al18 HBs.out _ (Nat.le_refl _) | exact below_al18 HBs.out.drew _ (Nat.le_refl _) | exact (below_al18 HBs.out _ (Nat.le_refl _)).drew | exact (HBs.out.setCell (p := ⟨_, 0, none⟩) (Nat.le_refl _) _).setCell (p := ⟨_, 1, none⟩) (Nat.le_refl _) _)) (by have := HLH.out; omega) (by omega) (HCc.out.below (by first | exact HBs.out | exact HBs.out.drew | exact below_al18 HBs.out _ (Nat.le_refl _) | exact below_al18 HBs.out.drew _ (Nat.le_refl _) | exact (below_al18 HBs.out _ (Nat.le_refl _)).drew | exact (HBs.out.setCell (p := ⟨_, 0, none⟩) (Nat.le_refl _) _).setCell (p := ⟨_, 1, none⟩) (Nat.le_refl _) _)) HU.out).mono ?_); rintro e wd ⟨Au, cu, lu, ru, rfl, hlq, hbq⟩; have HLh := Lib.hid hlq; have HBS' := Lib.hid (Below.step (by first | exact HBs.out | exact HBs.out.drew | exact below_al18 HBs.out _ (Nat.le_refl _) | exact below_al18 HBs.out.drew _ (Nat.le_refl _) | exact (below_al18 HBs.out _ (Nat.le_refl _)).drew | exact (HBs.out.setCell (p := ⟨_, 0, none⟩) (Nat.le_refl _) _).setCell (p := ⟨_, 1, none⟩) (Nat.le_refl _) _) hbq); clear HBs; have HBs := HBS'; clear HBS'; (first | ((with_reducible have HXg := Lib.hid (keptA hbq hlq)); obtain ⟨s0, s1, s2, s3⟩ := blk2 HXg.out.1) | ((with_reducible have HXg := Lib.hid (keptB hbq hlq)); obtain ⟨s0, s1, s2, s3⟩ := blk2 HXg.out.1) | skip); clear hbq hlq)
                | fail)
            all_goals go_wp2_with fail
            all_goals go_meet
          all_goals first
            | (have hq := box_new HLh.out HBs.out HBs.out.size; exact ⟨_, Au, cu, lu, ru, rfl, rfl, Lib.hid hq.1, Lib.hid hq.2.1, Lib.hid hq.2.2⟩)
            | (have hq := box_late HXg.out.1 (Nat.lt_succ_self _) HXg.out.2 HBs.out (Nat.le_refl _); exact ⟨_, Au, cu, lu, ru, rfl, rfl, Lib.hid hq.1, Lib.hid hq.2.1, Lib.hid hq.2.2⟩)
        case rest =>
          obtain ⟨g19, Au, cu, lu, ru, rfl, rfl, HK19, HVu, HR⟩ := hcut
          clear HRD
          have HVt' := Lib.hid (HVt.out.below HR.out); clear HVt; have HVt := HVt'; clear HVt'
          have HVx' := Lib.hid (HVx.out.below HR.out); clear HVx; have HVx := HVx'; clear HVx'
          have HPp' := Lib.hid (HPp.out.below HR.out); clear HPp; have HPp := HPp'; clear HPp'
          have HCc' := Lib.hid (HCc.out.below HR.out); clear HCc; have HCc := HCc'; clear HCc'
          have HVy' := Lib.hid (HVy.out.below HR.out); clear HVy; have HVy := HVy'; clear HVy'
          have HVz' := Lib.hid (HVz.out.below HR.out); clear HVz; have HVz := HVz'; clear HVz'
          have HVs' := Lib.hid (HVs.out.below HR.out); clear HVs; have HVs := HVs'; clear HVs'
          have HVw' := Lib.hid (HVw.out.below HR.out); clear HVw; have HVw := HVw'; clear HVw'
          have HVh' := Lib.hid (HVh.out.below HR.out); clear HVh; have HVh := HVh'; clear HVh'
          have HKt' := Lib.hid (bx_kept HR.out HKt.out); clear HKt; have HKt := HKt'; clear HKt'
          have HKx' := Lib.hid (bx_kept HR.out HKx.out); clear HKx; have HKx := HKx'; clear HKx'
          have HK9' := Lib.hid (bx_kept HR.out HK9.out); clear HK9; have HK9 := HK9'; clear HK9'
          have HK11' := Lib.hid (bx_kept HR.out HK11.out); clear HK11; have HK11 := HK11'; clear HK11'
          have HK14' := Lib.hid (bx_kept HR.out HK14.out); clear HK14; have HK14 := HK14'; clear HK14'
          have HK16' := Lib.hid (bx_kept HR.out HK16.out); clear HK16; have HK16 := HK16'; clear HK16'
          have HK17' := Lib.hid (bx_kept HR.out HK17.out); clear HK17; have HK17 := HK17'; clear HK17'
          have HB' := Lib.hid (Below.step HB.out HR.out); clear HB; have HB := HB'; clear HB'
          clear HR
          have HLU := Lib.hid (show lu.length ≤ 3000 from by have h1 := HVu.out.len; have h2 := HSU.out; rw [sz_treeOf] at h1; omega)
          have HRT' := Lib.hid (show intL.row wc (fun _ => True) PA (p.take k) from row_take HPp.out k)
          go_upto_region 22 with (fail)
          go_cut [21] from 123 to 131 (fun v21 wx => ∃ (g : Nat) (Av : Option Addr) (cv : Nat) (lv : List Ln) (rv : Int), v21 = .pointer (some ⟨g, 0, none⟩) ∧ Hid (wx.heap[g]? = some (.cells #[.slice Av lv.length cv, .int .i64 rv] 24 (0, 0))) ∧ Hid (Lies wx (treeOf (makeTT v)) Av cv lv rv) ∧ Hid (Below wc.heap.size wc wx))
          case first =>
            have HSB := Lib.hid (show ∀ w', Below wc.heap.size wc w' → w'.cell? ⟨W.heap.size, 0, none⟩ = some (.slice A ls.length c) ∧ w'.cell? ⟨W.heap.size, 1, none⟩ = some (.int .i64 root) ∧ w'.cell? ⟨g19, 0, none⟩ = some (.slice Au lu.length cu) ∧ w'.cell? ⟨g19, 1, none⟩ = some (.int .i64 ru) from fun w' h => by obtain ⟨x0, x1, _, _⟩ := blk2 (bx_kept h HKt.out); obtain ⟨x2, x3, _, _⟩ := blk2 (bx_kept h HK19.out); exact ⟨x0, x1, x2, x3⟩)
            have HBs := Lib.hid (Below.refl wc.heap.size wc)
            go_region_held3 (fun w' => w'.cell? ⟨W.heap.size, 0, none⟩ = some (.slice A ls.length c) ∧ w'.cell? ⟨W.heap.size, 1, none⟩ = some (.int .i64 root) ∧ w'.cell? ⟨g19, 0, none⟩ = some (.slice Au lu.length cu) ∧ w'.cell? ⟨g19, 1, none⟩ = some (.int .i64 ru))
              (exact HSB.out _ (by first | exact HBs.out | exact HBs.out.drew | exact below_al18 HBs.out _ (Nat.le_refl _) | exact below_al18 HBs.out.drew _ (Nat.le_refl _) | exact (below_al18 HBs.out _ (Nat.le_refl _)).drew | exact (HBs.out.setCell (p := ⟨_, 0, none⟩) (Nat.le_refl _) _).setCell (p := ⟨_, 1, none⟩) (Nat.le_refl _) _))
              (first
                | (go_at_call 11; (with_reducible refine (put_lies (c := c) (pc := pc) (xc := cu) HCU (HVt.out.below (by first | exact HBs.out | exact HBs.out.drew | exact below_al18 HBs.out _ (Nat.le_refl _) | exact below_al18 HBs.out.drew _ (Nat.le_refl _) | exact (below_al18 HBs.out _ (Nat.le_refl _)).drew | exact (HBs.out.setCell (p := ⟨_, 0, none⟩) (Nat.le_refl _) _).setCell (p := ⟨_, 1, none⟩) (Nat.le_refl _) _)) (HRT'.out.below (by first | exact HBs.out | exact HBs.out.drew | exact below_al18 HBs.out _ (Nat.le_refl _) | exact below_al18 HBs.out.drew _ (Nat.le_refl _) | exact (below_al18 HBs.out _ (Nat.le_refl _)).drew | exact (HBs.out.setCell (p := ⟨_, 0, none⟩) (Nat.le_refl _) _).setCell (p := ⟨_, 1, none⟩) (Nat.le_refl _) _)) (HVu.out.below (by first | exact HBs.out | exact HBs.out.drew | exact below_al18 HBs.out _ (Nat.le_refl _) | exact below_al18 HBs.out.drew _ (Nat.le_refl _) | exact (below_al18 HBs.out _ (Nat.le_refl _)).drew | exact (HBs.out.setCell (p := ⟨_, 0, none⟩) (Nat.le_refl _) _).setCell (p := ⟨_, 1, none⟩) (Nat.le_refl _) _)) (by have := HLU.out; omega) (by omega) (HCc.out.below (by first | exact HBs.out | exact HBs.out.drew | exact below_al18 HBs.out _ (Nat.le_refl _) | exact below_al18 HBs.out.drew _ (Nat.le_refl _) | exact (below_al18 HBs.out _ (Nat.le_refl _)).drew | exact (HBs.out.setCell (p := ⟨_, 0, none⟩) (Nat.le_refl _) _).setCell (p := ⟨_, 1, none⟩) (Nat.le_refl _) _)) HVV.out).mono ?_); rintro e wd ⟨Av, cv, lv, rv, rfl, hlq, hbq⟩; have HLh := Lib.hid hlq; have HBS' := Lib.hid (Below.step (by first | exact HBs.out | exact HBs.out.drew | exact below_al18 HBs.out _ (Nat.le_refl _) | exact below_al18 HBs.out.drew _ (Nat.le_refl _) | exact (below_al18 HBs.out _ (Nat.le_refl _)).drew | exact (HBs.out.setCell (p := ⟨_, 0, none⟩) (Nat.le_refl _) _).setCell (p := ⟨_, 1, none⟩) (Nat.le_refl _) _) hbq); clear HBs; have HBs := HBS'; clear HBS'; (first | ((with_reducible have HXg := Lib.hid (keptA hbq hlq)); obtain ⟨s0, s1, s2, s3⟩ := blk2 HXg.out.1) | ((with_reducible have HXg := Lib.hid (keptB hbq hlq)); obtain ⟨s0, s1, s2, s3⟩ := blk2 HXg.out.1) | skip); clear hbq hlq)
                | fail)
            all_goals go_wp2_with fail
            all_goals go_meet
            all_goals first
              | (have hq := box_new HLh.out HBs.out HBs.out.size; exact ⟨_, Av, cv, lv, rv, rfl, Lib.hid hq.1, Lib.hid hq.2.1, Lib.hid hq.2.2⟩)
              | (have hq := box_late HXg.out.1 (Nat.lt_succ_self _) HXg.out.2 HBs.out (Nat.le_refl _); exact ⟨_, Av, cv, lv, rv, rfl, Lib.hid hq.1, Lib.hid hq.2.1, Lib.hid hq.2.2⟩)
          case rest =>
            obtain ⟨g21, Av, cv, lv, rv, rfl, HK21, HVv, HR⟩ := hcut
            rw [HUV.out] at HVv
            have HVt' := Lib.hid (HVt.out.below HR.out); clear HVt; have HVt := HVt'; clear HVt'
            have HVx' := Lib.hid (HVx.out.below HR.out); clear HVx; have HVx := HVx'; clear HVx'
            have HPp' := Lib.hid (HPp.out.below HR.out); clear HPp; have HPp := HPp'; clear HPp'
            have HCc' := Lib.hid (HCc.out.below HR.out); clear HCc; have HCc := HCc'; clear HCc'
            have HVy' := Lib.hid (HVy.out.below HR.out); clear HVy; have HVy := HVy'; clear HVy'
            have HVz' := Lib.hid (HVz.out.below HR.out); clear HVz; have HVz := HVz'; clear HVz'
            have HVs' := Lib.hid (HVs.out.below HR.out); clear HVs; have HVs := HVs'; clear HVs'
            have HVw' := Lib.hid (HVw.out.below HR.out); clear HVw; have HVw := HVw'; clear HVw'
            have HVh' := Lib.hid (HVh.out.below HR.out); clear HVh; have HVh := HVh'; clear HVh'
            have HVu' := Lib.hid (HVu.out.below HR.out); clear HVu; have HVu := HVu'; clear HVu'
            have HKt' := Lib.hid (bx_kept HR.out HKt.out); clear HKt; have HKt := HKt'; clear HKt'
            have HKx' := Lib.hid (bx_kept HR.out HKx.out); clear HKx; have HKx := HKx'; clear HKx'
            have HK9' := Lib.hid (bx_kept HR.out HK9.out); clear HK9; have HK9 := HK9'; clear HK9'
            have HK11' := Lib.hid (bx_kept HR.out HK11.out); clear HK11; have HK11 := HK11'; clear HK11'
            have HK14' := Lib.hid (bx_kept HR.out HK14.out); clear HK14; have HK14 := HK14'; clear HK14'
            have HK16' := Lib.hid (bx_kept HR.out HK16.out); clear HK16; have HK16 := HK16'; clear HK16'
            have HK17' := Lib.hid (bx_kept HR.out HK17.out); clear HK17; have HK17 := HK17'; clear HK17'
            have HK19' := Lib.hid (bx_kept HR.out HK19.out); clear HK19; have HK19 := HK19'; clear HK19'
            have HB' := Lib.hid (Below.step HB.out HR.out); clear HB; have HB := HB'; clear HB'
            obtain ⟨y0, y1, _, _⟩ := blk2 HK21.out
            obtain ⟨y2, y3, _, _⟩ := blk2 HK11.out
            go_wp2_with fail
            refine (exact_lies HVv.out HVz.out (by have h1 := HVv.out.len; have h2 := HSZZ.out; omega)).mono ?_
            rintro e wl ⟨rfl, hbl⟩
            have HB' := Lib.hid (Below.step HB.out hbl)
            clear hbl
            go_wp2_with fail
            go_ret
            exact ⟨rfl, HB'.out⟩
end Go.Proofs.YtfncfmiccomgcaaDoor
