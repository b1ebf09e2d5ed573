/- Trees that lie there: the contracts of what is done with a tree, told of such. -/
import Derived.Test.YtfncfmiccomgcaaDoorBd
import Derived.Test.YtfncfmiccomgcaaDoorNm
namespace Go.Proofs.YtfncfmiccomgcaaDoor
open Go.RowKit
set_option linter.unusedSimpArgs false
set_option linter.unusedVariables false

/-- A tree that lies there. -/
def Lies (w : World) (T : Tr) (A : Option Addr) (c : Nat) (ls : List Ln) (r : Int) : Prop := ndL.row w (fun _ => True) A ls ∧ (⟨ls.map Ln.nd, r⟩ : Tr) = T
theorem Lies.below {w w' : World} {T : Tr} {A : Option Addr} {c : Nat} {ls : List Ln} {r : Int} (h : Lies w T A c ls r) (hb : Below w.heap.size w w') : Lies w' T A c ls r := ⟨h.1.below hb, h.2⟩
theorem Lies.len {w : World} {T : Tr} {A : Option Addr} {c : Nat} {ls : List Ln} {r : Int} (h : Lies w T A c ls r) : ls.length = T.nodes.length := by rw [← h.2]; simp
/-- A tree just made, that lies in new memory. -/
def LiesO (b : Nat) (w : World) (T : Tr) (A : Option Addr) (c : Nat) (ls : List Ln) (r : Int) : Prop := ndL.row w (b ≤ ·) A ls ∧ (⟨ls.map Ln.nd, r⟩ : Tr) = T
theorem LiesO.lies {b : Nat} {w : World} {T : Tr} {A : Option Addr} {c : Nat} {ls : List Ln} {r : Int} (h : LiesO b w T A c ls r) : Lies w T A c ls r := ⟨h.1.mono (fun _ _ _ => trivial), h.2⟩
def TupPost (R : Tr) (w : World) (e : Ending) (w' : World) : Prop := ∃ A c ls r, e = .returned (.tuple #[.agg #[.slice A ls.length c, .int .i64 r], .bool true]) ∧ LiesO w.heap.size w' R A c ls r ∧ Below w.heap.size w w'
theorem GotPost.tup {R : Tr} {w w' : World} {e : Ending} (h : GotPost R w e w') : TupPost R w e w' := by
  obtain ⟨⟨A, c, ls, r⟩, rfl, h1, h2, h3⟩ := h
  exact ⟨A, c, ls, r, rfl, ⟨h2.inn.2, h1⟩, h3⟩
theorem exact_lies {w : World} {T : Tr} {A B : Option Addr} {c d : Nat} {ls ms : List Ln} {r s : Int} (ha : Lies w T A c ls r) (hb : Lies w T B d ms s) (hl : ls.length ≤ 281474976710656) :
    Calls Tryd.prog 13 #[.agg #[.slice A ls.length c, .int .i64 r], .agg #[.slice B ms.length d, .int .i64 s]] w fun e w' => e = .returned (.bool true) ∧ Below w.heap.size w w' := by
  have e := ha.2.trans hb.2.symm
  have e1 : r = s := congrArg Tr.root e
  subst e1
  exact exact4_any A B c d ls ms r _ _ w ha.1 hb.1 (congrArg Tr.nodes e) hl
theorem at_lies {w : World} {T : Tr} {A PA : Option Addr} {c pc : Nat} {ls : List Ln} {r : Int} {p : List Int} {n : Nat} (hn : p.length = n) (hT : Lies w T A c ls r) (hP : intL.row w (fun _ => True) PA p) (hl : ls.length ≤ 4294967296) (hpl : p.length ≤ 4611686018427387904) (ht : CntTab w) {y : TT} (h : atT T p = some y) :
    Calls Tryd.prog 9 #[.agg #[.slice A ls.length c, .int .i64 r], .slice PA n pc] w (TupPost (treeOf y) w) := by
  subst hn
  refine (at_any A c ls r PA pc p _ _ w hT.1 hP hl hpl ht).mono ?_
  rintro e w' hq
  rw [hT.2] at hq
  exact (hq.1 y h).tup
theorem put_lies {w : World} {T X : Tr} {A PA XA : Option Addr} {c pc xc : Nat} {ls xs : List Ln} {r xr : Int} {p : List Int} {n : Nat} (hn : p.length = n) (hT : Lies w T A c ls r) (hP : intL.row w (fun _ => True) PA p) (hX : Lies w X XA xc xs xr) (hl : xs.length + ls.length ≤ 16777216) (hpl : p.length ≤ 4611686018427387904) (ht : CntTab w) {y : TT} (h : putT T p X = some y) :
    Calls Tryd.prog 11 #[.agg #[.slice A ls.length c, .int .i64 r], .slice PA n pc, .agg #[.slice XA xs.length xc, .int .i64 xr]] w (TupPost (treeOf (makeTT y)) w) := by
  subst hn
  refine (put_any A c ls r PA pc p XA xc xs xr _ _ _ w hT.1 hP hX.1 hl hpl ht).mono ?_
  rintro e w' hq
  rw [hT.2, hX.2] at hq
  exact (hq.1 y h).tup
theorem at_not {w : World} {T : Tr} {A PA : Option Addr} {c pc : Nat} {ls : List Ln} {r : Int} {p : List Int} {n : Nat} (hn : p.length = n) (hT : Lies w T A c ls r) (hP : intL.row w (fun _ => True) PA p) (hl : ls.length ≤ 4294967296) (hpl : p.length ≤ 4611686018427387904) (ht : CntTab w) (h : atT T p = none) :
    Calls Tryd.prog 9 #[.agg #[.slice A ls.length c, .int .i64 r], .slice PA n pc] w (NotPost w) := by
  subst hn
  refine (at_any A c ls r PA pc p _ _ w hT.1 hP hl hpl ht).mono ?_
  rintro e w' hq
  rw [hT.2] at hq
  exact hq.2 h
theorem put_not {w : World} {T X : Tr} {A PA XA : Option Addr} {c pc xc : Nat} {ls xs : List Ln} {r xr : Int} {p : List Int} {n : Nat} (hn : p.length = n) (hT : Lies w T A c ls r) (hP : intL.row w (fun _ => True) PA p) (hX : Lies w X XA xc xs xr) (hl : xs.length + ls.length ≤ 16777216) (hpl : p.length ≤ 4611686018427387904) (ht : CntTab w) (h : putT T p X = none) :
    Calls Tryd.prog 11 #[.agg #[.slice A ls.length c, .int .i64 r], .slice PA n pc, .agg #[.slice XA xs.length xc, .int .i64 xr]] w (NotPost w) := by
  subst hn
  refine (put_any A c ls r PA pc p XA xc xs xr _ _ _ w hT.1 hP hX.1 hl hpl ht).mono ?_
  rintro e w' hq
  rw [hT.2, hX.2] at hq
  exact hq.2 h
theorem right_lies {w : World} {T : Tr} {A : Option Addr} {c : Nat} {ls : List Ln} {r : Int} (hT : Lies w T A c ls r) (hl : ls.length ≤ 281474976710656) (ht : CntTab w) :
    Calls Tryd.prog 17 #[.agg #[.slice A ls.length c, .int .i64 r]] w fun e w' => e = .returned (.bool (rightT T)) ∧ Below w.heap.size w w' := by
  rw [← hT.2]; exact right_any A c ls r _ w hT.1 hl ht
theorem normal_lies {w : World} {T : Tr} {A : Option Addr} {c : Nat} {ls : List Ln} {r : Int} (hT : Lies w T A c ls r) (hl : ls.length ≤ 4294967296) (ht : CntTab w) :
    Calls Tryd.prog 18 #[.agg #[.slice A ls.length c, .int .i64 r]] w fun e w' => e = .returned (.bool (normT T)) ∧ Below w.heap.size w w' := by
  rw [← hT.2]; exact normal_any A c ls r _ w hT.1 hl ht
theorem same_lies {w : World} {T X : Tr} {A XA : Option Addr} {c xc : Nat} {ls xs : List Ln} {r xr : Int} (hT : Lies w T A c ls r) (hX : Lies w X XA xc xs xr) (hl : ls.length ≤ 4294967296) (hm : xs.length ≤ 4294967296) (ht : CntTab w) :
    Calls Tryd.prog 20 #[.agg #[.slice A ls.length c, .int .i64 r], .agg #[.slice XA xs.length xc, .int .i64 xr]] w fun e w' => e = .returned (.bool (sameT T X)) ∧ Below w.heap.size w w' := by
  rw [← hT.2, ← hX.2]; exact tsame_any A XA c xc ls xs r xr _ _ w hT.1 hX.1 hl hm ht
theorem make_lies {w : World} {T : Tr} {A : Option Addr} {c : Nat} {ls : List Ln} {r : Int} (hT : Lies w T A c ls r) (hl : ls.length ≤ 16777216) (ht : CntTab w) (h : rightT T = true) :
    Calls Tryd.prog 19 #[.agg #[.slice A ls.length c, .int .i64 r]] w (TupPost (treeOf (makeTT (denT T))) w) := by
  refine (make_any A c ls r _ w hT.1 hl ht).mono ?_
  rintro e w' hq
  rw [← hT.2] at h ⊢
  obtain ⟨⟨A, c, ls, r⟩, rfl, h1, h2, h3⟩ := hq.1 h
  exact ⟨A, c, ls, r, rfl, ⟨h2.inn.2, h1⟩, h3⟩
/-- A box that was there ahead of the call is filled behind it. -/
theorem box_late {B g : Nat} {wc wd : World} {b : Nat} {x y : Value} {R : Tr} {A : Option Addr} {c : Nat} {ls : List Ln} {r : Int} (hg : wd.heap[g]? = some (.cells #[x, y] 24 (0, 0))) (hgl : g < b) (hl : LiesO b wd R A c ls r) (hb : Below B wc wd) (hB : B ≤ g) :
    ((wd.setCell ⟨g, 0, none⟩ (.slice A ls.length c)).setCell ⟨g, 1, none⟩ (.int .i64 r)).heap[g]? = some (.cells #[.slice A ls.length c, .int .i64 r] 24 (0, 0)) ∧ Lies ((wd.setCell ⟨g, 0, none⟩ (.slice A ls.length c)).setCell ⟨g, 1, none⟩ (.int .i64 r)) R A c ls r ∧ Below B wc ((wd.setCell ⟨g, 0, none⟩ (.slice A ls.length c)).setCell ⟨g, 1, none⟩ (.int .i64 r)) := by
  have hs : ∀ y, y ≠ g → ((wd.setCell ⟨g, 0, none⟩ (.slice A ls.length c)).setCell ⟨g, 1, none⟩ (.int .i64 r)).heap[y]? = wd.heap[y]? := fun y hy => (Below.heap_setCell _ _ _ _ hy).trans (Below.heap_setCell _ _ _ _ hy)
  refine ⟨set_two hg, ⟨(hl.1.agree (fun y hy _ => hs y (by have hy : b ≤ y := hy; omega))).mono (fun _ _ _ => trivial), hl.2⟩, (hb.setCell (p := ⟨g, 0, none⟩) hB _).setCell (p := ⟨g, 1, none⟩) hB _⟩
theorem box_new {B : Nat} {wc wd : World} {R : Tr} {A : Option Addr} {c : Nat} {ls : List Ln} {r : Int} {b : Nat} (hl : LiesO b wd R A c ls r) (hb : Below B wc wd) (hB : B ≤ wd.heap.size) :
    (wd.alloc (.cells #[.slice A ls.length c, .int .i64 r] 24)).heap[wd.heap.size]? = some (.cells #[.slice A ls.length c, .int .i64 r] 24 (0, 0)) ∧ Lies (wd.alloc (.cells #[.slice A ls.length c, .int .i64 r] 24)) R A c ls r ∧ Below B wc (wd.alloc (.cells #[.slice A ls.length c, .int .i64 r] 24)) :=
  ⟨bx_new wd _, hl.lies.below (bx1 wd _), hb.alloc hB _⟩
theorem keptA {w w' : World} {x y : Value} {R : Tr} {A : Option Addr} {c : Nat} {ls : List Ln} {r : Int} (hb : Below (w.alloc (.cells #[x, y] 24)).drew.heap.size (w.alloc (.cells #[x, y] 24)).drew w') (hl : LiesO (w.alloc (.cells #[x, y] 24)).drew.heap.size w' R A c ls r) : w'.heap[w.heap.size]? = some (.cells #[x, y] 24 (0, 0)) ∧ LiesO (w.heap.size + 1) w' R A c ls r := by
  refine ⟨keptD hb, ?_⟩
  have e : (w.alloc (.cells #[x, y] 24)).drew.heap.size = (w.alloc (.cells #[x, y] 24)).heap.size := rfl
  rw [e, World.size_alloc] at hl
  exact hl
theorem keptB {w w' : World} {x y : Value} {R : Tr} {A : Option Addr} {c : Nat} {ls : List Ln} {r : Int} (hb : Below (w.drew.alloc (.cells #[x, y] 24)).heap.size (w.drew.alloc (.cells #[x, y] 24)) w') (hl : LiesO (w.drew.alloc (.cells #[x, y] 24)).heap.size w' R A c ls r) : w'.heap[w.heap.size]? = some (.cells #[x, y] 24 (0, 0)) ∧ LiesO (w.heap.size + 1) w' R A c ls r := by
  refine ⟨bx_kept hb (bx_new w.drew _), ?_⟩
  rw [World.size_alloc] at hl
  exact hl
theorem row_take {w : World} {S : Nat → Prop} {A : Option Addr} {p : List Int} (h : intL.row w S A p) (k : Nat) : intL.row w S A (p.take k) := by
  have h1 := h.1
  rw [intL_all] at h1
  refine ⟨?_, fun _ _ => trivial⟩
  rw [intL_all]
  refine ⟨fun j u hj => h1.1 j u ?_, fun hne => h1.2 fun e => hne ?_⟩
  · rw [List.map_take, List.getElem?_take] at hj
    split at hj
    · exact hj
    · cases hj
  · rw [List.map_take, e, List.take_nil]
theorem addr_add (a : Addr) (i j : Nat) : (a.add i).add j = a.add (i + j) ∧ (a.add i).block = a.block := by
  cases i with
  | zero => cases j <;> simp [Addr.add]
  | succ i => cases j <;> simp [Addr.add] <;> omega
theorem row_drop {w : World} {S : Nat → Prop} {A : Option Addr} {p : List Int} (h : intL.row w S A p) (k pc : Nat) (hpc : p.length ≤ pc) : intL.row w S (if pc = k then A else Option.map (fun x => x.add k) A) (p.drop k) := by
  have h1 := h.1
  rw [intL_all] at h1
  by_cases hk : pc = k
  · have e : p.drop k = [] := List.drop_eq_nil_of_le (by omega)
    rw [e]; exact Lay.row.nil _ _ _
  · rw [if_neg hk]
    refine ⟨?_, fun _ _ => trivial⟩
    rw [intL_all]
    refine ⟨fun j u hj => ?_, fun hne ad had => ?_⟩
    · rw [List.map_drop, List.getElem?_drop] at hj
      obtain ⟨ad, rfl, hc⟩ := h1.1 (k + j) u hj
      exact ⟨ad.add k, rfl, by rw [(addr_add ad k j).1]; exact hc⟩
    · obtain ⟨a, rfl, rfl⟩ := Option.map_eq_some_iff.1 had
      rw [(addr_add a k 0).2]
      exact h1.2 (fun e => hne (by rw [List.map_drop, e, List.drop_nil])) a rfl
theorem keptA0 {w w' : World} {x y : Value} (hb : Below (w.alloc (.cells #[x, y] 24)).drew.heap.size (w.alloc (.cells #[x, y] 24)).drew w') : w'.heap[w.heap.size]? = some (.cells #[x, y] 24 (0, 0)) := keptD hb
theorem keptB0 {w w' : World} {x y : Value} (hb : Below (w.drew.alloc (.cells #[x, y] 24)).heap.size (w.drew.alloc (.cells #[x, y] 24)) w') : w'.heap[w.heap.size]? = some (.cells #[x, y] 24 (0, 0)) := bx_kept hb (bx_new w.drew _)
end Go.Proofs.YtfncfmiccomgcaaDoor
