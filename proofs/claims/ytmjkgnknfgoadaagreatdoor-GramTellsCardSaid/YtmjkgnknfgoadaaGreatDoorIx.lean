/- Plain laws of rows that are written over from a place on, and of a row cut short. -/
import Derived.Test.YtmjkgnknfgoadaaGreatDoorIr
import Derived.Deep.RegionLaw
import Derived.Lib.SliceRun
import Derived.Test.YtmjkgnknfgoadaaGreatDoorIo
import Derived.Test.YtmjkgnknfgoadaaGreatDoorIh
import Derived.Test.YtmjkgnknfgoadaaGreatDoorIq
import Derived.Test.YtmjkgnknfgoadaaGreatDoorIe
import Derived.Deep.RegionHeld3
import Derived.Deep.DeepCutAuto
import Derived.Deep.Cut
import Derived.Deep.CutRange
namespace Go.Proofs.YtmjkgnknfgoadaaGreatDoor
open Go.RowKit
set_option linter.unusedSimpArgs false
set_option linter.unusedVariables false

theorem own_setCells {w : World} {base : Nat} {e : TypeId} {size g n cap : Nat} : ∀ (vs : List Value) (o : Nat) (w : World) (xs : List Value), o + vs.length ≤ xs.length → w.ownsRow base e size (.slice (some ⟨g, 0, none⟩) n cap) n xs →
    (w.setCells g o vs).ownsRow base e size (.slice (some ⟨g, 0, none⟩) n cap) n (xs.take o ++ vs ++ xs.drop (o + vs.length))
  | [], o, w, xs, _, h => by
    show w.ownsRow base e size _ n _
    simpa using h
  | v :: vs, o, w, xs, hl, h => by
    have h1 := (World.ownsRow.stored h o v).1
    have h2 := own_setCells (w := w) vs (o + 1) _ (xs.set o v) (by simp at hl ⊢; omega) h1
    have e1 : (xs.set o v).take (o + 1) ++ vs ++ (xs.set o v).drop (o + 1 + vs.length) = xs.take o ++ (v :: vs) ++ xs.drop (o + (v :: vs).length) := by
      simp only [List.length_cons] at hl ⊢
      have hx : xs.set o v = xs.take o ++ v :: xs.drop (o + 1) := by rw [List.set_eq_take_append_cons_drop, if_pos (by omega)]
      have hA : (xs.take o).length = o := by rw [List.length_take]; omega
      have hB : xs.drop (o + (vs.length + 1)) = (xs.drop (o + 1)).drop vs.length := by rw [List.drop_drop]; congr 1; omega
      rw [hx, hB]
      generalize xs.take o = X at *
      generalize xs.drop (o + 1) = Y at *
      subst hA
      rw [List.take_length_add_append, show X.length + 1 + vs.length = X.length + (1 + vs.length) by omega, List.drop_length_add_append, Nat.add_comm 1 vs.length, List.drop_succ_cons]
      simp
    rw [e1] at h2
    exact h2
theorem heap_setCells {g : Nat} : ∀ (vs : List Value) (o : Nat) (w : World) (x : Nat), x ≠ g → (w.setCells g o vs).heap[x]? = w.heap[x]?
  | [], _, _, _, _ => rfl
  | v :: vs, o, w, x, hx => (heap_setCells vs (o + 1) (w.setCell ⟨g, o, none⟩ v) x hx).trans (Below.heap_setCell w ⟨g, o, none⟩ v x hx)
theorem below_setCellsD {B g : Nat} (hg : B ≤ g) : ∀ (vs : List Value) (o : Nat) (w w0 : World), Below B w0 w → Below B w0 (w.setCells g o vs)
  | [], _, _, _, h => h
  | v :: vs, o, w, w0, h => below_setCellsD hg vs (o + 1) (w.setCell ⟨g, o, none⟩ v) w0 (h.setCell (p := ⟨g, o, none⟩) hg v)
theorem Lay.all_take {α : Type} (L : Lay α) (l : List α) (k : Nat) (hk : k ≤ l.length) : (L.all l).take (k * L.size) = L.all (l.take k) := by
  have e2 : L.all l = L.all (l.take k) ++ L.all (l.drop k) := by rw [← L.all_append, List.take_append_drop]
  rw [e2, List.take_left' (by rw [L.all_length, List.length_take]; congr 1; omega)]
theorem Lay.all_drop {α : Type} (L : Lay α) (l : List α) (k : Nat) (hk : k ≤ l.length) : (L.all l).drop (k * L.size) = L.all (l.drop k) := by
  have e2 : L.all l = L.all (l.take k) ++ L.all (l.drop k) := by rw [← L.all_append, List.take_append_drop]
  rw [e2, List.drop_left' (by rw [L.all_length, List.length_take]; congr 1; omega)]
theorem erase_row (ds : List Ld) (r : Nat) (hr : r < ds.length) : (dfL.all ds).take (r * 3) ++ dfL.all (ds.drop (r + 1)) ++ (dfL.all ds).drop (r * 3 + (dfL.all (ds.drop (r + 1))).length) = dfL.all (ds.eraseIdx r) ++ dfL.all (ds.drop (ds.length - 1)) := by
  have h1 := dfL.all_take ds r (by omega)
  have h2 := dfL.all_drop ds (ds.length - 1) (by omega)
  have h3 : (dfL.all (ds.drop (r + 1))).length = (ds.length - (r + 1)) * 3 := by rw [dfL.all_length, List.length_drop]; rfl
  have h4 : r * 3 + (dfL.all (ds.drop (r + 1))).length = (ds.length - 1) * 3 := by rw [h3]; omega
  have e1 : (dfL.all ds).take (r * 3) = dfL.all (ds.take r) := h1
  have e2 : (dfL.all ds).drop ((ds.length - 1) * 3) = dfL.all (ds.drop (ds.length - 1)) := h2
  rw [h4, e1, e2, List.eraseIdx_eq_take_drop_succ, dfL.all_append]
theorem clear_row (ds : List Ld) (r : Nat) (hr : r < ds.length) (zs : List Value) (hz : zs.length = 3) : ((dfL.all (ds.eraseIdx r) ++ dfL.all (ds.drop (ds.length - 1))).take ((ds.length - 1) * 3) ++ zs ++ (dfL.all (ds.eraseIdx r) ++ dfL.all (ds.drop (ds.length - 1))).drop ((ds.length - 1) * 3 + zs.length)).take ((ds.length - 1) * 3) = dfL.all (ds.eraseIdx r) := by
  have h1 : (dfL.all (ds.eraseIdx r)).length = (ds.length - 1) * 3 := by rw [dfL.all_length, List.length_eraseIdx, if_pos hr]; rfl
  rw [← h1, List.take_left, List.append_assoc, List.take_left]

theorem run_clear1 (w : World) (ty : TypeId) (g o c : Nat) (h1 : ∀ j, j < 3 → (w.cell? ⟨g, o + j, none⟩).isSome = true) (h2 : ∀ j, j < 3 → w.frozen? ⟨g, o + j, none⟩ = false) :
    (Builtin.clear_ #[22] ty #[.slice (some ⟨g, o, none⟩) 1 c]).run Tryz.prog w = .ok (.tuple #[]) (w.setCells g o [.string ⟨#[]⟩, .slice none 0 0, .int .i64 0]) := by
  have ht := Tryz.underlying22
  have hv : ∀ w, (zeroValue 50).run Tryz.prog w = .ok (.agg #[.string ⟨#[]⟩, .slice none 0 0, .int .i64 0]) w := fun w => by go_simp
  have hzc : (Builtin.zeroCells (Value.agg #[.string ⟨#[]⟩, .slice none 0 0, .int .i64 0]).cells 1).toList = [.string ⟨#[]⟩, .slice none 0 0, .int .i64 0] := by
    show ((Array.range 3).map fun i => (#[Value.string ⟨#[]⟩, Value.slice none 0 0, Value.int .i64 0] : Array Value)[i % 3]!).toList = _
    rw [Array.toList_map, Array.toList_range]
    rfl
  have hst := run_storeCells_cells (P := Tryz.prog) g o [.string ⟨#[]⟩, .slice none 0 0, .int .i64 0] 0 w (by simpa using h1) (by simpa using h2) (by decide)
  simp only [Nat.add_zero] at hst
  simp [Builtin.clear_, run_underlying ht, hv, hzc, hst]

set_option maxRecDepth 1000000 in
set_option maxHeartbeats 4000000 in
/-- slices.Delete of one rule. -/
theorem del_any (g vc r : Nat) (ds : List Ld) (w : World) (hown : w.ownsRow 0 50 3 (.slice (some ⟨g, 0, none⟩) ds.length vc) ds.length (dfL.all ds)) (hr : r < ds.length) :
    Calls Tryz.prog 101 #[.slice (some ⟨g, 0, none⟩) ds.length vc, .int .i64 r, .int .i64 ((r : Int) + 1)] w fun e w' =>
      e = .returned (.slice (some ⟨g, 0, none⟩) (ds.length - 1) vc) ∧ w'.ownsRow 0 50 3 (.slice (some ⟨g, 0, none⟩) (ds.length - 1) vc) (ds.length - 1) (dfL.all (ds.eraseIdx r)) ∧ (∀ x, x ≠ g → w'.heap[x]? = w.heap[x]?) ∧ ∀ B, B ≤ g → Below B w w' := by
  obtain ⟨hcap, hm⟩ : ds.length ≤ vc ∧ vc ≤ 9223372036854775807 := by
    rcases hown.2 with ⟨hv, _⟩ | ⟨g', cap', cur, hv, hb, hh, hn, hc, hs, ht⟩
    · cases hv
    · cases hv; exact ⟨hn, hc⟩
  obtain ⟨i0, hi0⟩ := Option.isSome_iff_exists.1 (show (Tryz.prog.info? 50).isSome = true by kernel_rfl)
  have hz1 : i0.size = 3 := by
    have h : (Tryz.prog.info? 50).map (·.size) = some 3 := by kernel_rfl
    rw [hi0] at h; simpa using h
  have e0 : r + (ds.length - (r + 1)) = ds.length - 1 := by omega
  obtain ⟨news, hnews⟩ : ∃ news, news = dfL.all (ds.drop (r + 1)) := ⟨_, rfl⟩
  have hlen : news.length = (ds.length - (r + 1)) * 3 := by rw [hnews, dfL.all_length, List.length_drop]; rfl
  have hcell : ∀ t u, news[t]? = some u → w.drew.cell? ⟨g, (r + 1) * 3 + t, none⟩ = some u := fun t u hu => by
    have ht := (List.getElem?_eq_some_iff.1 hu).1
    have h := World.ownsRow.cellAt hown ((r + 1) * 3 + t) (by rw [hlen] at ht; omega)
    have h2 := dfL.all_drop ds (r + 1) (by omega)
    rw [hnews, ← h2, List.getElem?_drop] at hu
    exact h.trans hu
  obtain ⟨A, hA, hsrc⟩ : ∃ A : Addr, (if vc = r + 1 then some (⟨g, 0, none⟩ : Addr) else some ⟨g, (r + 1) * 3, none⟩) = some A ∧ Hid (∀ t u, news[t]? = some u → w.drew.cell? (A.add t) = some u) := by
    by_cases h : vc = r + 1
    · refine ⟨⟨g, 0, none⟩, by simp [h], fun t u hu => ?_⟩
      have ht := (List.getElem?_eq_some_iff.1 hu).1
      rw [hlen] at ht
      omega
    · refine ⟨⟨g, (r + 1) * 3, none⟩, by simp [h], fun t u hu => ?_⟩
      rw [Addr.add_lit]
      exact hcell t u hu
  have s2 : Hid (∀ u ∈ news, u.oneCell' = true) := by
    rw [hnews]; exact dfL.all_one' _
  have s3 : Hid (∀ t, t < news.length → (w.drew.cell? ⟨g, 0 + r * 3 + t, none⟩).isSome = true ∧ w.drew.frozen? ⟨g, 0 + r * 3 + t, none⟩ = false) := by
    intro t ht
    rw [hlen] at ht
    have h := World.ownsRow.cellAt hown (r * 3 + t) (by omega)
    have h3 : (dfL.all ds).length = ds.length * 3 := dfL.all_length ds
    rw [Nat.zero_add]
    refine ⟨?_, World.ownsRow.frozenAt hown _⟩
    show (w.cell? _).isSome = true
    rw [h, List.getElem?_eq_getElem (by omega)]; rfl
  obtain ⟨W1, hW1⟩ : ∃ W1, W1 = w.drew.setCells g (0 + r * 3) news := ⟨_, rfl⟩
  have h3 : (dfL.all ds).length = ds.length * 3 := dfL.all_length ds
  have hown1 : W1.ownsRow 0 50 3 (.slice (some ⟨g, 0, none⟩) ds.length vc) ds.length (dfL.all (ds.eraseIdx r) ++ dfL.all (ds.drop (ds.length - 1))) := by
    have h1 := own_setCells (w := w) news (0 + r * 3) w.drew (dfL.all ds) (by rw [hlen, h3]; omega) hown
    rw [← hW1, Nat.zero_add, hnews, erase_row ds r hr] at h1
    exact h1
  have h4 : (dfL.all (ds.eraseIdx r) ++ dfL.all (ds.drop (ds.length - 1))).length = ds.length * 3 := hown1.1
  have hcl : ∀ ty c, (Builtin.clear_ #[22] ty #[.slice (some ⟨g, (ds.length - 1) * 3, none⟩) (ds.length - (ds.length - 1)) c]).run Tryz.prog W1 = .ok (.tuple #[]) (W1.setCells g ((ds.length - 1) * 3) [.string ⟨#[]⟩, .slice none 0 0, .int .i64 0]) := fun ty c => by
    rw [show ds.length - (ds.length - 1) = 1 by omega]
    refine run_clear1 W1 ty g ((ds.length - 1) * 3) c (fun j hj => ?_) (fun j hj => World.ownsRow.frozenAt hown1 _)
    rw [World.ownsRow.cellAt hown1 _ (by omega), List.getElem?_eq_getElem (by omega)]; rfl
  have HO2 := Lib.hid (own_setCells (w := w) [.string ⟨#[]⟩, .slice none 0 0, .int .i64 0] ((ds.length - 1) * 3) W1 _ (by rw [h4]; simp; omega) hown1)
  have HW := Lib.hid hW1
  have s1 := Lib.hid hlen
  clear hW1 hown hcell hnews hlen h3 h4
  have hic : r ≤ vc := by omega
  have hjc : r + 1 ≤ vc := by omega
  have hj1 : (0 : Int) ≤ (r : Int) + 1 := by omega
  have hj2 : (r : Int) + 1 ≤ (ds.length : Int) := by omega
  go_enter Tryz.func101, Tryz.ntmps101
  go_wp2_with fail
  have mixed : Tryz.prog.follows .mixedOrders = true := by kernel_rfl
  go_region_law_o (refine step_append_room rfl (.tmp 22) (.tmp 25) 22 rfl 50 i0 3 Tryz.underlying22 hi0 hz1 g 0 r vc (by simp [Act.eval, Act.put]) A (ds.length - (r + 1)) (vc - (r + 1)) news (by simp [Act.eval, Act.put]) s1.out hsrc.out s2.out (by omega) s3.out ?_; rw [← HW.out])
  go_wp2_with fail
  go_ret
  refine ⟨rfl, ?_, fun x hx => ?_, fun B hB => ?_⟩
  · have h := own_cut HO2.out (m := ds.length - 1) (by omega)
    rw [clear_row ds r hr _ rfl] at h
    exact h
  · rw [heap_setCells _ _ _ _ hx, HW.out, heap_setCells _ _ _ _ hx]; rfl
  · refine below_setCellsD hB _ _ _ _ ?_
    rw [HW.out]
    exact below_setCellsD hB _ _ _ _ (Below.refl _ _).drew

/-- What gram.Drop tells where there is such a rule. -/
def DropPost (g : List Df) (r : Nat) (w : World) (e : Ending) (w' : World) : Prop := ∃ (V : Option Addr) (vc : Nat) (ds : List Ld), e = .returned (.tuple #[.agg #[.slice V ds.length vc], .bool true]) ∧
  ds.map Ld.df = g.eraseIdx r ∧ GramOwn w' (w.heap.size ≤ ·) V vc ds ∧ Below w.heap.size w w'
theorem GramOwn.erase {W : World} {S T : Nat → Prop} {V : Option Addr} {vc g r : Nat} {ds : List Ld} (h : GramOwn W S V vc ds) (hr : r < ds.length) {cs : Array Value} (hg : W.heap[g]? = some (.cells cs 50 (0, 0))) (w5 : World) (hT : ∀ x, S x → x ≠ g → T x) (hE : ∀ x, S x → x < W.heap.size → x ≠ g → w5.heap[x]? = W.heap[x]?)
    (hrow : OwnS w5 T 50 3 (some ⟨g, 0, none⟩) (ds.length - 1) vc (dfL.all (ds.eraseIdx r))) : GramOwn w5 T (some ⟨g, 0, none⟩) vc (ds.eraseIdx r) := by
  have hln : (ds.eraseIdx r).length = ds.length - 1 := by rw [List.length_eraseIdx, if_pos hr]
  obtain ⟨h1, h2, Q, h3, h4, h5⟩ := h
  refine ⟨by rw [hln]; omega, by rw [hln]; exact hrow, fun i x => Q (if i < r then i else i + 1) x ∧ x ≠ g, fun i hi => ?_, fun i x hx => hT x (h4 _ x hx.1) hx.2, fun i j x hij hi hj => ?_⟩
  · have hi2 : (if i < r then i else i + 1) < ds.length := by split <;> omega
    have e : (ds.eraseIdx r)[i] = ds[if i < r then i else i + 1] := by
      rw [List.getElem_eraseIdx]
      split <;> rfl
    rw [e]
    refine ⟨(h3 _ hi2).1, ?_⟩
    exact ((h3 _ hi2).2.ne hg).agree (fun x hx hxl => hE x (h4 _ x hx.1) hxl hx.2)
  · refine h5 _ _ x ?_ hi.1 hj.1
    intro e
    split at e <;> split at e <;> omega

set_option maxRecDepth 100000 in
set_option maxHeartbeats 3200000 in
theorem drop_no (A : Option Addr) (c : Nat) (ds : List Ld) (r : Int) (w : World) (hr : r < 0 ∨ (ds.length : Int) ≤ r) :
    Calls Tryz.prog 55 #[.agg #[.slice A ds.length c], .int .i64 r] w (NoRule w) := by
  unfold NoRule
  have HB := Lib.hid (bx2 w (.cells #[.slice A ds.length c] 24) (.cells #[.slice none 0 0] 24))
  have hk := bx_new (w.alloc (.cells #[.slice A ds.length c] 24)) (.cells #[.slice none 0 0] 24)
  rw [World.size_alloc] at hk
  obtain ⟨s1, s2⟩ := blk1 hk
  clear hk
  go_enter Tryz.func55, Tryz.ntmps55
  by_cases h0 : r < 0
  · have e0 : decide (r < 0) = true := by simpa using h0
    go_wp2_with fail
    exact bodyPost_ret (v := .tuple #[.agg #[.slice none 0 0], .bool false]) (by simp [results, Tryz.results55, go_sem, s1]) rfl ⟨rfl, HB.out⟩
  · have e0 : decide (r < 0) = false := by simpa using h0
    have h1 : (ds.length : Int) ≤ r := by omega
    have e1 : decide ((ds.length : Int) ≤ r) = true := by simpa using h1
    go_wp2_with fail
    exact bodyPost_ret (v := .tuple #[.agg #[.slice none 0 0], .bool false]) (by simp [results, Tryz.results55, go_sem, s1]) rfl ⟨rfl, HB.out⟩

set_option maxRecDepth 100000 in
set_option maxHeartbeats 6400000 in
theorem drop_any (A : Option Addr) (c : Nat) (ds : List Ld) (r : Nat) (S : Nat → Prop) (w : World) (hA : dfL.row w S A ds) (hl : ds.length ≤ 4294967296) (hm : ∀ d ∈ ds, DMod d) (hr : r < ds.length) :
    Calls Tryz.prog 55 #[.agg #[.slice A ds.length c], .int .i64 r] w (DropPost (ds.map Ld.df) r w) := by
  have HA := Lib.hid hA; have HM := Lib.hid hm
  clear hA hm
  unfold DropPost
  have HB0 := Lib.hid (bx2 w (.cells #[.slice A ds.length c] 24) (.cells #[.slice none 0 0] 24))
  have HK0 := Lib.hid (show ∀ w', Below ((w.alloc (.cells #[.slice A ds.length c] 24)).alloc (.cells #[.slice none 0 0] 24)).heap.size ((w.alloc (.cells #[.slice A ds.length c] 24)).alloc (.cells #[.slice none 0 0] 24)) w' →
      w'.heap[w.heap.size]? = some (.cells #[.slice A ds.length c] 24 (0, 0)) ∧ w'.heap[w.heap.size + 1]? = some (.cells #[.slice none 0 0] 24 (0, 0)) from fun w' hb => by
    refine ⟨bx_kept hb (bx_old (bx_new w _)), bx_kept hb ?_⟩
    have h := bx_new (w.alloc (.cells #[.slice A ds.length c] 24)) (.cells #[.slice none 0 0] 24)
    rw [World.size_alloc] at h; exact h)
  go_enter Tryz.func55, Tryz.ntmps55
  have i1 : decide ((r : Int) < 0) = false := by simp
  have i2 : decide ((ds.length : Int) ≤ (r : Int)) = false := by simp; omega
  have i3 : (r : Int) < (ds.length : Int) := by omega
  have i4 : (0 : Int) ≤ (r : Int) := by omega
  go_wp2_with fail
  refine (gcopy_any A c ds S _ (HA.out.below HB0.out) hl HM.out).mono ?_
  rintro e w1 ⟨V, vc, d1, rfl, hd1, hgo, hb1⟩
  have hn1 : d1.length = ds.length := by have h := congrArg List.length hd1; simpa using h
  rw [hn1]
  have HN1 := Lib.hid hn1; have HD1 := Lib.hid hd1; have HG1 := Lib.hid hgo; have HB1 := Lib.hid (Below.step HB0.out hb1); have HK1 := Lib.hid (HK0.out _ hb1)
  have HZ1 := Lib.hid (show w.heap.size + 2 ≤ w1.heap.size ∧ ∀ x, (((w.alloc (.cells #[.slice A ds.length c] 24)).alloc (.cells #[.slice none 0 0] 24)).heap.size ≤ x ↔ w.heap.size + 2 ≤ x) from ⟨by have := hb1.size; simp at this; omega, fun x => by simp⟩)
  clear hn1 hd1 hgo hb1 HB0 HK0
  obtain ⟨p1, p2⟩ := blk1 HK1.out.1
  go_upto_region 4 with (fail)
  have HX := Lib.hid (set_blk1 (u := .slice V ds.length vc) HK1.out.1)
  have HE := Lib.hid (show ∀ x, x ≠ w.heap.size → (w1.setCell ⟨w.heap.size, 0, none⟩ (.slice V ds.length vc)).heap[x]? = w1.heap[x]? from fun x hx => Below.heap_setCell _ _ _ _ hx)
  have HZW := Lib.hid (show (w1.setCell ⟨w.heap.size, 0, none⟩ (.slice V ds.length vc)).heap.size = w1.heap.size from by simp)
  have HBW := Lib.hid (show Below w.heap.size w (w1.setCell ⟨w.heap.size, 0, none⟩ (.slice V ds.length vc)) from HB1.out.setCell (p := ⟨w.heap.size, 0, none⟩) (Nat.le_refl _) _)
  generalize w1.setCell ⟨w.heap.size, 0, none⟩ (.slice V ds.length vc) = W at *
  clear p1 p2
  have HR := Lib.hid ((HE.out (w.heap.size + 1) (by omega)).trans HK1.out.2)
  have hgw : GramOwn W (fun x => w.heap.size + 2 ≤ x) V vc d1 := by
    have h := HG1.out.agree (w' := W) (fun x hx _ => HE.out x (by have := (HZ1.out.2 x).1 hx; omega))
    obtain ⟨h1, h2, Q, h3, h4, h5⟩ := h
    exact ⟨h1, h2.mono (fun x _ hx => (HZ1.out.2 x).1 hx), Q, h3, fun i x hx => (HZ1.out.2 x).1 (h4 i x hx), h5⟩
  have hrow := hgw.row
  have hr1 : r < d1.length := by rw [HN1.out]; exact hr
  obtain ⟨g, rfl, _, hg2⟩ := own_some hrow.1 (by omega)
  have hg3 : w.heap.size + 2 ≤ g := hrow.2 g rfl
  have HGW := Lib.hid hgw
  have HDL := Lib.hid (del_any g vc r d1 W hrow.1 hr1)
  rw [HN1.out] at HDL
  have HCS := Lib.hid (show ∃ cs, W.heap[g]? = some (.cells cs 50 (0, 0)) from by
    rcases hrow.1.2 with ⟨hv, _⟩ | ⟨g', cap, cur, hv, _, hh, _⟩
    · cases hv
    · cases hv; exact ⟨_, hh⟩)
  clear hgw hrow HG1 HB1 HK1 HE
  obtain ⟨q1, q2⟩ := blk1 HX.out
  go_wp2_with (go_at_call 101; (with_reducible refine HDL.out.mono ?_); rintro e w3 ⟨rfl, ho, he, hb⟩; have HO3 := Lib.hid ho; have HE3 := Lib.hid he; have HB3 := Lib.hid (hb w.heap.size (by omega)); obtain ⟨s1, s2⟩ := blk1 ((he w.heap.size (by omega)).trans HX.out); obtain ⟨s3, s4⟩ := blk1 ((he (w.heap.size + 1) (by omega)).trans HR.out); clear ho he hb)
  refine bodyPost_ret (v := .tuple #[.agg #[.slice (some ⟨g, 0, none⟩) (ds.length - 1) vc], .bool true]) (by simp [results, Tryz.results55, go_sem, s3]) rfl ?_
  have hE : ∀ x, x ≠ w.heap.size → x ≠ w.heap.size + 1 → ((w3.setCell ⟨w.heap.size, 0, none⟩ (.slice (some ⟨g, 0, none⟩) (ds.length - 1) vc)).setCell ⟨w.heap.size + 1, 0, none⟩ (.slice (some ⟨g, 0, none⟩) (ds.length - 1) vc)).heap[x]? = w3.heap[x]? := fun x h1 h2 => (Below.heap_setCell _ _ _ _ h2).trans (Below.heap_setCell _ _ _ _ h1)
  have hln : (d1.eraseIdx r).length = ds.length - 1 := by rw [List.length_eraseIdx, if_pos hr1, HN1.out]
  refine ⟨some ⟨g, 0, none⟩, vc, d1.eraseIdx r, by rw [hln], ?_, ?_, ((Below.trans HBW.out (HB3.out)).setCell (p := ⟨w.heap.size, 0, none⟩) (Nat.le_refl _) _).setCell (p := ⟨w.heap.size + 1, 0, none⟩) (by simp) _⟩
  · rw [List.eraseIdx_eq_take_drop_succ, List.map_append, List.map_take, List.map_drop, HD1.out, ← List.map_take, ← List.map_drop, ← List.map_append, ← List.eraseIdx_eq_take_drop_succ]
    rw [List.eraseIdx_eq_take_drop_succ, List.map_append, List.map_take, List.map_drop, ← List.eraseIdx_eq_take_drop_succ]
  · obtain ⟨cs, hcs⟩ := HCS.out
    refine GramOwn.erase HGW.out hr1 hcs _ (fun x hx _ => by have hx : w.heap.size + 2 ≤ x := hx; show w.heap.size ≤ x; omega) (fun x hx _ hxg => ?_) ?_
    · have hx : w.heap.size + 2 ≤ x := hx
      exact (hE x (by omega) (by omega)).trans (HE3.out x hxg)
    · rw [HN1.out]
      exact ⟨own_agree HO3.out (fun x hx => by cases hx; exact hE g (by omega) (by omega)), fun x hx => by cases hx; show w.heap.size ≤ g; omega⟩
end Go.Proofs.YtmjkgnknfgoadaaGreatDoor

/- The grammar of the examples of layer 9. -/
namespace Go.Proofs.YtmjkgnknfgoadaaGreatDoor
open Go.RowKit
set_option linter.unusedSimpArgs false
set_option linter.unusedVariables false

def seqN : Nd := ⟨4, 0, 0, 0, 0, ⟨#[]⟩, 0, 0, []⟩
def body9 : Tr := ofT seqN [⟨[ruleLf ⟨#[98]⟩], 0⟩, ⟨[textLf ⟨#[120]⟩], 0⟩]
def some9 : List Df := [⟨⟨#[97]⟩, body9⟩, ⟨⟨#[98]⟩, ⟨[emptyLf], 0⟩⟩]
theorem ok9 : okT seqN [⟨[ruleLf ⟨#[98]⟩], 0⟩, ⟨[textLf ⟨#[120]⟩], 0⟩] = true := by kernel_rfl
theorem may9 : mayG some9 = 0 := by kernel_rfl
theorem nodes9 : nodesG some9 = 4 := by kernel_rfl

theorem dmod_of {d : Ld} (h : d.df.body.nodes.length ≤ 1000 ∧ ∀ n ∈ d.df.body.nodes, n.kids.length ≤ 1000) : DMod d := ⟨by
  have h1 : (d.t.ls.map Ln.nd).length ≤ 1000 := h.1
  rw [List.length_map] at h1; omega, fun l hl => by
  have h1 := h.2 l.nd (List.mem_map.2 ⟨l, hl, rfl⟩); omega⟩
/-- The grammar of the examples, just made. -/
def SomePost (w : World) (e : Ending) (w' : World) : Prop := ∃ (g : Nat) (d1 d2 : Ld), e = .returned (.agg #[.slice (some ⟨g, 0, none⟩) 2 2]) ∧ [d1, d2].map Ld.df = some9 ∧ w.heap.size ≤ g ∧ w'.heap[g]? = some (.cells (dfL.all [d1, d2]).toArray 50 (0, 0)) ∧
  (∀ d ∈ [d1, d2], dfL.inn w' (fun x => w.heap.size ≤ x ∧ x ≠ g) d) ∧ Below w.heap.size w w'
set_option maxRecDepth 100000 in
set_option maxHeartbeats 3200000 in
theorem some_any (w : World) (ht : CntTab w) :
    Calls Tryz.prog 54 #[] w (SomePost w) := by
  have HT := Lib.hid ht; clear ht
  unfold SomePost
  go_enter Tryz.func54, Tryz.ntmps54
  have HB0 := Lib.hid (bx1 w (.cells #[.slice none 0 0] 24))
  have HK0 := Lib.hid (bx_new w (.cells #[.slice none 0 0] 24))
  go_wp2_with fail
  refine (rule_any ⟨#[98]⟩ _ (by decide)).mono ?_
  rintro e w1 ⟨b1, rfl, hto1, hb1⟩
  have HB1 := Lib.hid (Below.step HB0.out hb1); have HK1 := Lib.hid (bx_kept hb1 HK0.out); have HZ1 := Lib.hid (show w.heap.size + 1 ≤ w1.heap.size from by have := hb1.size; simp at this; omega)
  have HO1 := Lib.hid (hto1.mono (T := fun x => w.heap.size + 1 ≤ x ∧ x < w1.heap.size) (fun x h1 h2 => ⟨by have h2 : (w.alloc _).heap.size ≤ x := h2; rw [World.size_alloc] at h2; exact h2, h1⟩))
  clear hto1 hb1 HB0 HK0
  go_wp2_with fail
  refine (text_any ⟨#[120]⟩ _ (by decide)).mono ?_
  rintro e w2 ⟨b2, rfl, hto2, hb2⟩
  have HB2 := Lib.hid (Below.step HB1.out hb2); have HK2 := Lib.hid (bx_kept hb2 HK1.out); have HZ2 := Lib.hid hb2.size
  have HO12 := Lib.hid (HO1.out.below hb2)
  have HO2 := Lib.hid hto2
  clear hto2 hb2 HB1 HK1 HO1
  have HRW := Lib.hid (show ttL.row (w2.alloc (.cells #[.slice (some ⟨b1, 0, none⟩) 1 1, .int .i64 0, .slice (some ⟨b2, 0, none⟩) 1 1, .int .i64 0] 48)) (fun _ => True) (some ⟨w2.heap.size, 0, none⟩) [⟨some ⟨b1, 0, none⟩, 1, [⟨ruleLf ⟨#[98]⟩, none, 0⟩], 0⟩, ⟨some ⟨b2, 0, none⟩, 1, [⟨textLf ⟨#[120]⟩, none, 0⟩], 0⟩] from by
    refine ⟨⟨?_, fun _ _ _ => trivial⟩, fun t ht => ?_⟩
    · exact row_blk (cs := [.slice (some ⟨b1, 0, none⟩) 1 1, .int .i64 0, .slice (some ⟨b2, 0, none⟩) 1 1, .int .i64 0]) (bx_new w2 _)
    · simp only [List.mem_cons, List.not_mem_nil, or_false] at ht
      rcases ht with rfl | rfl
      · exact ((HO12.out.below (bx1 w2 _)).inn).mono (fun _ _ _ => trivial)
      · exact ((HO2.out.below (bx1 w2 _)).inn).mono (fun _ _ _ => trivial))
  have HC := Lib.hid (of9_any seqN (.slice none 0 0) (some ⟨w2.heap.size, 0, none⟩) 2 [⟨some ⟨b1, 0, none⟩, 1, [⟨ruleLf ⟨#[98]⟩, none, 0⟩], 0⟩, ⟨some ⟨b2, 0, none⟩, 1, [⟨textLf ⟨#[120]⟩, none, 0⟩], 0⟩] _ _ (by refine ⟨?_, ?_, ?_, ?_, ?_, ?_, ?_⟩ <;> first | decide | (simp [seqN, U64])) HRW.out (by simp) (by simp) (HT.out.below (HB2.out.trans ((bx1 w2 _).mono HB2.out.size))) ok9)
  clear HO12 HO2 HRW
  go_wp2_with fail
  refine HC.out.mono ?_
  rintro e w3 ⟨⟨A, c, ls, root⟩, he, htr, hto3, hb3⟩
  simp only [Lt.val] at he; subst he
  have HZ3 := Lib.hid (show w2.heap.size + 1 ≤ w3.heap.size from by have := hb3.size; simp at this; omega)
  have HB3 := Lib.hid (Below.step (HB2.out.trans ((bx1 w2 (.cells #[.slice (some ⟨b1, 0, none⟩) 1 1, .int .i64 0, .slice (some ⟨b2, 0, none⟩) 1 1, .int .i64 0] 48)).mono HB2.out.size)) hb3)
  have HK3 := Lib.hid (bx_kept hb3 (bx_old HK2.out))
  have HTR := Lib.hid (show Lt.tr ⟨A, c, ls, root⟩ = body9 from htr)
  have HO3 := Lib.hid (hto3.mono (T := fun x => w.heap.size + 1 ≤ x ∧ x < w3.heap.size) (fun x h1 h2 => ⟨by have h2 : (w2.alloc _).heap.size ≤ x := h2; rw [World.size_alloc] at h2; have := HZ1.out; have := HZ2.out; omega, h1⟩))
  clear htr hto3 hb3 HB2 HK2 HC
  go_wp2_with fail
  refine (empty_any _).mono ?_
  rintro e w4 ⟨b4, rfl, hto4, hb4⟩
  have HB4 := Lib.hid (Below.step HB3.out hb4); have HK4 := Lib.hid (bx_kept hb4 HK3.out); have HZ4 := Lib.hid hb4.size
  have HO34 := Lib.hid (HO3.out.below hb4)
  have HO4 := Lib.hid (hto4.mono (T := fun x => w3.heap.size ≤ x ∧ x < w4.heap.size) (fun x h1 h2 => ⟨h2, h1⟩))
  clear hto4 hb4 HB3 HK3 HO3
  have HB5 := Lib.hid (bx1 w4 (.cells #[.string ⟨#[97]⟩, .slice A ls.length c, .int .i64 root, .string ⟨#[98]⟩, .slice (some ⟨b4, 0, none⟩) 1 1, .int .i64 0] 50))
  have HN5 := Lib.hid (bx_new w4 (.cells #[.string ⟨#[97]⟩, .slice A ls.length c, .int .i64 root, .string ⟨#[98]⟩, .slice (some ⟨b4, 0, none⟩) 1 1, .int .i64 0] 50))
  obtain ⟨t1, t2⟩ := blk1 (bx_old (p := .cells #[.string ⟨#[97]⟩, .slice A ls.length c, .int .i64 root, .string ⟨#[98]⟩, .slice (some ⟨b4, 0, none⟩) 1 1, .int .i64 0] 50) HK4.out)
  go_wp2_with fail
  refine bodyPost_ret (v := .agg #[.slice (some ⟨w4.heap.size, 0, none⟩) 2 2]) (by simp [results, Tryz.results54, go_sem, t1]) rfl ?_
  have hz1 := HZ1.out; have hz2 := HZ2.out; have hz3 := HZ3.out; have hz4 := HZ4.out
  have hx : ∀ x, x ≠ w.heap.size → x < w4.heap.size + 1 → ((w4.alloc (.cells #[.string ⟨#[97]⟩, .slice A ls.length c, .int .i64 root, .string ⟨#[98]⟩, .slice (some ⟨b4, 0, none⟩) 1 1, .int .i64 0] 50)).setCell ⟨w.heap.size, 0, none⟩ (.slice (some ⟨w4.heap.size, 0, none⟩) 2 2)).heap[x]? = (w4.alloc (.cells #[.string ⟨#[97]⟩, .slice A ls.length c, .int .i64 root, .string ⟨#[98]⟩, .slice (some ⟨b4, 0, none⟩) 1 1, .int .i64 0] 50)).heap[x]? := fun x h1 _ => Below.heap_setCell _ _ _ _ h1
  refine ⟨w4.heap.size, ⟨⟨#[97]⟩, ⟨A, c, ls, root⟩⟩, ⟨⟨#[98]⟩, ⟨some ⟨b4, 0, none⟩, 1, [⟨emptyLf, none, 0⟩], 0⟩⟩, rfl, ?_, by omega, (hx _ (by omega) (by omega)).trans HN5.out, ?_, ?_⟩
  · show [Df.mk _ (Lt.tr ⟨A, c, ls, root⟩), _] = some9
    rw [HTR.out]; rfl
  · intro d hd
    simp only [List.mem_cons, List.not_mem_nil, or_false] at hd
    rcases hd with rfl | rfl
    · refine ⟨show (⟨#[97]⟩ : ByteArray).size ≤ 281474976710656 by decide, ?_⟩
      exact (((HO34.out.below HB5.out).agree (fun x hy _ => Below.heap_setCell _ _ _ _ (by show x ≠ w.heap.size; omega))).inn).mono (fun x _ hy => ⟨by omega, by omega⟩)
    · refine ⟨show (⟨#[98]⟩ : ByteArray).size ≤ 281474976710656 by decide, ?_⟩
      exact (((HO4.out.below HB5.out).agree (fun x hy _ => Below.heap_setCell _ _ _ _ (by show x ≠ w.heap.size; omega))).inn).mono (fun x _ hy => ⟨by omega, by omega⟩)
  · exact (HB4.out.trans (HB5.out.mono HB4.out.size)).setCell (p := ⟨w.heap.size, 0, none⟩) (Nat.le_refl _) _
end Go.Proofs.YtmjkgnknfgoadaaGreatDoor

/- The examples of layer 9. -/
namespace Go.Proofs.YtmjkgnknfgoadaaGreatDoor
open Go.RowKit
set_option linter.unusedSimpArgs false
set_option linter.unusedVariables false

def one9 : List Df := some9.eraseIdx 1
def two9 : List Df := some9.set 1 ⟨⟨#[97]⟩, ⟨[emptyLf], 0⟩⟩
def bodyB9 : Tr := ofT seqN [⟨[emptyLf], 0⟩, ⟨[textLf ⟨#[120]⟩], 0⟩]
def odd9 : List Df := some9.set 1 ⟨⟨#[98]⟩, bodyB9⟩
theorem okB9 : okT seqN [⟨[emptyLf], 0⟩, ⟨[textLf ⟨#[120]⟩], 0⟩] = true := by kernel_rfl
theorem may90 : mayG [] = 4 := by kernel_rfl
theorem may91 : mayG one9 = 41 := by kernel_rfl
theorem may92 : mayG two9 = 6 := by kernel_rfl
theorem may93 : mayG odd9 = 4 := by kernel_rfl
theorem same90 : sameG some9 some9 = true := by kernel_rfl
theorem same91 : sameG some9 one9 = false := by kernel_rfl
theorem find9b : findG some9 ⟨#[98]⟩ = 1 := by kernel_rfl
theorem find9c : findG some9 ⟨#[99]⟩ = -1 := by kernel_rfl
def smallEx (G : List Df) : Bool := decide (G.length ≤ 1000) && G.all fun d => decide (d.body.nodes.length ≤ 1000) && d.body.nodes.all fun n => decide (n.kids.length ≤ 1000)
theorem small_of {e : List Ld} {G : List Df} (h : e.map Ld.df = G) (hG : smallEx G = true) : e.length ≤ 1000 ∧ (∀ d ∈ e, d.t.ls.length ≤ 1000) ∧ ∀ d ∈ e, DMod d := by
  simp only [smallEx, Bool.and_eq_true, List.all_eq_true, decide_eq_true_eq] at hG
  have h1 : ∀ d ∈ e, d.df.body.nodes.length ≤ 1000 ∧ ∀ n ∈ d.df.body.nodes, n.kids.length ≤ 1000 := fun d hd => hG.2 d.df (by rw [← h]; exact List.mem_map.2 ⟨d, hd, rfl⟩)
  refine ⟨by have := congrArg List.length h; rw [List.length_map] at this; omega, fun d hd => ?_, fun d hd => dmod_of (h1 d hd)⟩
  have h2 : (d.t.ls.map Ln.nd).length ≤ 1000 := (h1 d hd).1
  rwa [List.length_map] at h2
/-- An example in memory: rows of these rules. -/
structure Ex (w : World) (G : List Df) (A : Option Addr) (n : Nat) (e : List Ld) : Prop where
  row : dfL.row w (fun _ => True) A e
  df : e.map Ld.df = G
  len : e.length = n
  small : smallEx G = true
theorem Ex.below {w w' : World} {G : List Df} {A : Option Addr} {n : Nat} {e : List Ld} (h : Ex w G A n e) (hb : Below w.heap.size w w') : Ex w' G A n e := ⟨h.row.below hb, h.df, h.len, h.small⟩
theorem Ex.may {w : World} {G : List Df} {A : Option Addr} {n c : Nat} {e : List Ld} (h : Ex w G A n e) (hp : PTabs w) {r : Int} (hr : mayG G = r) :
    Calls Tryz.prog 14 #[.agg #[.slice A n c]] w fun e' w' => e' = .returned (.int .i64 r) ∧ Below w.heap.size w w' := by
  obtain ⟨h1, h2, h3⟩ := small_of h.df h.small
  have h4 := gmay_any A c e _ w h.row (by omega) (fun d hd => by have := h2 d hd; omega) hp
  rw [h.df, hr, h.len] at h4
  exact h4
theorem Ex.nodes {w : World} {G : List Df} {A : Option Addr} {n c : Nat} {e : List Ld} (h : Ex w G A n e) (hp : PTabs w) {r : Nat} (hr : nodesG G = r) :
    Calls Tryz.prog 16 #[.agg #[.slice A n c]] w fun e' w' => e' = .returned (.int .i64 (r : Int)) ∧ Below w.heap.size w w' := by
  obtain ⟨h1, h2, h3⟩ := small_of h.df h.small
  have h4 := gnodes_any A c e _ w h.row (by omega) (fun d hd => by have := h2 d hd; omega) hp.cn
  rw [h.df, hr, h.len] at h4
  exact h4
theorem Ex.find {w : World} {G : List Df} {A : Option Addr} {n c : Nat} {e : List Ld} (h : Ex w G A n e) (s : ByteArray) {r : Int} (hr : findG G s = r) :
    Calls Tryz.prog 12 #[.agg #[.slice A n c], .string s] w fun e' w' => e' = .returned (.int .i64 r) ∧ Below w.heap.size w w' := by
  obtain ⟨h1, h2, h3⟩ := small_of h.df h.small
  have h4 := find_any A c e s _ w h.row (by omega)
  rw [h.df, hr, h.len] at h4
  exact h4
theorem Ex.names {w : World} {G : List Df} {A : Option Addr} {n c : Nat} {e : List Ld} (h : Ex w G A n e) :
    Calls Tryz.prog 10 #[.agg #[.slice A n c]] w fun e' w' => (∃ V vc, e' = .returned (.slice V n vc)) ∧ Below w.heap.size w w' := by
  obtain ⟨h1, h2, h3⟩ := small_of h.df h.small
  have h4 := gnames_any A c e _ w h.row (by omega)
  rw [h.len] at h4
  refine h4.mono ?_
  rintro e' w' ⟨V, vc, rfl, _, hb⟩
  refine ⟨⟨V, vc, ?_⟩, hb⟩
  rw [List.length_map, h.len]
theorem Ex.same {w : World} {G H : List Df} {A B : Option Addr} {n m c d : Nat} {e f : List Ld} (h : Ex w G A n e) (k : Ex w H B m f) (hp : PTabs w) {r : Bool} (hr : sameG G H = r) :
    Calls Tryz.prog 18 #[.agg #[.slice A n c], .agg #[.slice B m d]] w fun e' w' => e' = .returned (.bool r) ∧ Below w.heap.size w w' := by
  obtain ⟨h1, h2, h3⟩ := small_of h.df h.small
  obtain ⟨k1, k2, k3⟩ := small_of k.df k.small
  have h4 := gsame_any e f A B c d _ _ w h.row k.row (by omega) (by omega) (fun x hx => by have := h2 x hx; omega) (fun x hx => by have := k2 x hx; omega) hp.cn
  rw [h.df, k.df, hr, h.len, k.len] at h4
  exact h4
theorem Ex.drop {w : World} {G : List Df} {A : Option Addr} {n c : Nat} {e : List Ld} (h : Ex w G A n e) (r : Nat) (hr : r < n) (hs : smallEx (G.eraseIdx r) = true) :
    Calls Tryz.prog 55 #[.agg #[.slice A n c], .int .i64 r] w fun e' w' => ∃ V vc f, e' = .returned (.tuple #[.agg #[.slice V (n - 1) vc], .bool true]) ∧ Ex w' (G.eraseIdx r) V (n - 1) f ∧ Below w.heap.size w w' := by
  obtain ⟨h1, h2, h3⟩ := small_of h.df h.small
  have h4 := drop_any A c e r _ w h.row (by omega) h3 (by rw [h.len]; exact hr)
  rw [h.df, h.len] at h4
  refine h4.mono ?_
  rintro e' w' ⟨V, vc, f, rfl, hf, ho, hb⟩
  have hl : f.length = n - 1 := by
    have h5 := congrArg List.length hf
    rw [List.length_map, List.length_eraseIdx, ← h.df, List.length_map, h.len, if_pos hr] at h5
    exact h5
  exact ⟨V, vc, f, by rw [hl], ⟨ho.inn.mono (fun _ _ _ => trivial), hf, hl, hs⟩, hb⟩
theorem Ex.with {w : World} {G : List Df} {A : Option Addr} {n c : Nat} {e : List Ld} (h : Ex w G A n e) (r : Nat) (hr : r < n) (t : Lt) (T : Nat → Prop) (ht : t.inn w T) (htl : t.ls.length ≤ 4294967296) (htk : ∀ l ∈ t.ls, l.nd.kids.length ≤ 4294967296) {G' : List Df} (hG : G.set r ⟨(G[r]?.map Df.name).getD ⟨#[]⟩, t.tr⟩ = G') (hs : smallEx G' = true) :
    Calls Tryz.prog 56 #[.agg #[.slice A n c], .int .i64 r, .agg #[.slice t.A t.ls.length t.c, .int .i64 t.root]] w fun e' w' => ∃ V vc f, e' = .returned (.tuple #[.agg #[.slice V n vc], .bool true]) ∧ Ex w' G' V n f ∧ dfL.row w' (fun x => w.heap.size ≤ x) V f ∧ Below w.heap.size w w' := by
  obtain ⟨h1, h2, h3⟩ := small_of h.df h.small
  have h4 := with_any A c e r t _ T w h.row ht (by omega) h3 (by rw [h.len]; exact hr) htl htk
  rw [h.df, h.len] at h4
  refine h4.mono ?_
  rintro e' w' ⟨V, vc, f, rfl, hf, ho, hb⟩
  have hl : f.length = n := by
    have h5 := congrArg List.length hf
    rw [List.length_map, List.length_set, ← h.df, List.length_map, h.len] at h5
    exact h5
  exact ⟨V, vc, f, by rw [hl], ⟨ho.inn.mono (fun _ _ _ => trivial), hf.trans hG, hl, hs⟩, ho.inn, hb⟩
theorem some_ex (w : World) (ht : CntTab w) :
    Calls Tryz.prog 54 #[] w fun e w' => ∃ (g : Nat) (d1 d2 : Ld), e = .returned (.agg #[.slice (some ⟨g, 0, none⟩) 2 2]) ∧ Ex w' some9 (some ⟨g, 0, none⟩) 2 [d1, d2] ∧ w.heap.size ≤ g ∧ w'.heap[g]? = some (.cells (dfL.all [d1, d2]).toArray 50 (0, 0)) ∧ (∀ d ∈ [d1, d2], dfL.inn w' (fun x => w.heap.size ≤ x ∧ x ≠ g) d) ∧ Below w.heap.size w w' := by
  refine (some_any w ht).mono ?_
  rintro e w' ⟨g, d1, d2, rfl, hd, hg, hh, hi, hb⟩
  exact ⟨g, d1, d2, rfl, ⟨⟨⟨row_blk hh, fun _ _ _ => trivial⟩, fun d hd => dfL.mono (hi d hd) (fun _ _ _ => trivial)⟩, hd, rfl, by kernel_rfl⟩, hg, hh, hi, hb⟩

theorem below_al {w w' : World} (h : Below w.heap.size w w') (o : Obj) : Below w.heap.size w (w'.alloc o) := h.alloc h.size o
theorem bx_new2 (w : World) (o p : Obj) : ((w.alloc o).alloc p).heap[w.heap.size + 1]? = some p := by
  have h := bx_new (w.alloc o) p
  rw [World.size_alloc] at h; exact h

set_option maxRecDepth 100000 in
set_option maxHeartbeats 12800000 in
theorem awake9_any (w : World) (hp : PTabs w) :
    Calls Tryz.prog 9 #[] w fun e w' => e = .returned (.bool true) ∧ Below w.heap.size w w' := by
  have HP := Lib.hid hp; clear hp
  go_enter Tryz.func9, Tryz.ntmps9
  go_wp2_with fail
  refine (some_ex w HP.out.cn).mono ?_
  rintro e w1 ⟨g, d1, d2, rfl, hx, -, -, -, hb⟩
  have HX1 := Lib.hid hx; have HB1 := Lib.hid hb; clear hx hb
  go_upto_region 2 with (fail)
  have HG2 := Lib.hid (HX1.out.below (bx1 w1 (.cells #[.slice (some ⟨g, 0, none⟩) 2 2] 24)))
  have HK2 := Lib.hid (bx_new w1 (.cells #[.slice (some ⟨g, 0, none⟩) 2 2] 24))
  have HB2 := Lib.hid (Below.step HB1.out (bx1 w1 (.cells #[.slice (some ⟨g, 0, none⟩) 2 2] 24)))
  have HZ := Lib.hid HB1.out.size
  clear HX1 HB1
  generalize w1.alloc (.cells #[.slice (some ⟨g, 0, none⟩) 2 2] 24) = w2 at *
  generalize w1.heap.size = b1 at *
  clear w1
  obtain ⟨p1, p2⟩ := blk1 HK2.out
  go_wp2_with fail
  refine (HG2.out.may (HP.out.below HB2.out) may9).mono ?_
  rintro e w3 ⟨rfl, hb⟩
  have HG3 := Lib.hid (HG2.out.below hb); have HK3 := Lib.hid (bx_kept hb HK2.out); have HB3 := Lib.hid (Below.step HB2.out hb)
  clear p1 p2
  obtain ⟨p1, p2⟩ := blk1 HK3.out
  clear hb HG2 HK2 HB2
  go_wp2_with fail
  refine (HG3.out.nodes (HP.out.below HB3.out) nodes9).mono ?_
  rintro e w4 ⟨rfl, hb⟩
  have HG4 := Lib.hid (HG3.out.below hb); have HK4 := Lib.hid (bx_kept hb HK3.out); have HB4 := Lib.hid (Below.step HB3.out hb)
  clear p1 p2
  obtain ⟨p1, p2⟩ := blk1 HK4.out
  clear hb HG3 HK3 HB3
  go_wp2_with fail
  refine (HG4.out.find ⟨#[98]⟩ find9b).mono ?_
  rintro e w5 ⟨rfl, hb⟩
  have HG5 := Lib.hid (HG4.out.below hb); have HK5 := Lib.hid (bx_kept hb HK4.out); have HB5 := Lib.hid (Below.step HB4.out hb)
  clear p1 p2
  obtain ⟨p1, p2⟩ := blk1 HK5.out
  clear hb HG4 HK4 HB4
  go_wp2_with fail
  refine (HG5.out.find ⟨#[99]⟩ find9c).mono ?_
  rintro e w6 ⟨rfl, hb⟩
  have HG6 := Lib.hid (HG5.out.below hb); have HK6 := Lib.hid (bx_kept hb HK5.out); have HB6 := Lib.hid (Below.step HB5.out hb)
  clear p1 p2
  obtain ⟨p1, p2⟩ := blk1 HK6.out
  clear hb HG5 HK5 HB5
  go_wp2_with fail
  refine (HG6.out.names).mono ?_
  rintro e w7 ⟨⟨V, vc, rfl⟩, hb⟩
  have HG7 := Lib.hid (HG6.out.below hb); have HK7 := Lib.hid (bx_kept hb HK6.out); have HB7 := Lib.hid (Below.step HB6.out hb)
  clear p1 p2
  obtain ⟨p1, p2⟩ := blk1 HK7.out
  clear hb HG6 HK6 HB6
  go_wp2_with fail
  refine (HG7.out.drop 1 (by decide) (by kernel_rfl)).mono ?_
  rintro e w8 ⟨V2, vc2, e2, rfl, hx, hb⟩
  have HD8 := Lib.hid hx
  have HG8 := Lib.hid (HG7.out.below hb); have HK8 := Lib.hid (bx_kept hb HK7.out); have HB8 := Lib.hid (Below.step HB7.out hb)
  clear hx hb HG7 HK7 HB7 p1 p2
  go_upto_region 5 with (fail)
  have HD9 := Lib.hid (HD8.out.below (bx1 w8 (.cells #[.slice V2 1 vc2] 24)))
  have HG9 := Lib.hid (HG8.out.below (bx1 w8 (.cells #[.slice V2 1 vc2] 24)))
  have HK9 := Lib.hid (show (w8.alloc (.cells #[.slice V2 1 vc2] 24)).heap[b1]? = some (.cells #[.slice (some ⟨g, 0, none⟩) 2 2] 24 (0, 0)) ∧ (w8.alloc (.cells #[.slice V2 1 vc2] 24)).heap[w8.heap.size]? = some (.cells #[.slice V2 1 vc2] 24 (0, 0)) from ⟨bx_old HK8.out, bx_new w8 _⟩)
  have HB9 := Lib.hid (Below.step HB8.out (bx1 w8 (.cells #[.slice V2 1 vc2] 24)))
  have HZ9 := Lib.hid HB8.out.size
  clear HD8 HG8 HK8 HB8
  generalize w8.alloc (.cells #[.slice V2 1 vc2] 24) = w9 at *
  generalize w8.heap.size = b2 at *
  clear w8
  go_wp2_with fail
  refine (some_ex w9 (HP.out.below HB9.out).cn).mono ?_
  rintro e w10 ⟨g2, d3, d4, rfl, hx, hg2, hh, hi, hb⟩
  have HBS := Lib.hid hb
  have HK10 := Lib.hid (And.intro (bx_kept hb HK9.out.1) (bx_kept hb HK9.out.2))
  have HB10 := Lib.hid (Below.step HB9.out hb)
  have HF10 := Lib.hid (show (w9.heap.size ≤ g2 ∧ b1 < w9.heap.size ∧ b2 < w9.heap.size ∧ w.heap.size ≤ w9.heap.size) from ⟨hg2, (Array.getElem?_eq_some_iff.1 HK9.out.1).1, (Array.getElem?_eq_some_iff.1 HK9.out.2).1, HB9.out.size⟩)
  have HX10 := Lib.hid hx; have HH10 := Lib.hid hh; have HI10 := Lib.hid hi
  clear hx hg2 hh hi hb HK9 HB9
  go_upto_region 6 with (fail)
  have HBX := Lib.hid (bx1 w10 (.cells #[.slice (some ⟨g2, 0, none⟩) 2 2] 24))
  have HK11 := Lib.hid (bx_new w10 (.cells #[.slice (some ⟨g2, 0, none⟩) 2 2] 24))
  have HZ10 := Lib.hid (show b1 < w10.heap.size ∧ b2 < w10.heap.size ∧ g2 < w10.heap.size from ⟨(Array.getElem?_eq_some_iff.1 HK10.out.1).1, (Array.getElem?_eq_some_iff.1 HK10.out.2).1, (Array.getElem?_eq_some_iff.1 HH10.out).1⟩)
  have HH11 := Lib.hid ((HBX.out.block g2 HZ10.out.2.2).trans HH10.out)
  have hc := row_cellAt (j := 3) HH11.out (u := .string d4.name) rfl
  obtain ⟨p1, p2⟩ := hc
  generalize hw11 : w10.alloc (.cells #[.slice (some ⟨g2, 0, none⟩) 2 2] 24) = w11 at *
  obtain ⟨q1, q2⟩ := blk1 HK11.out
  go_upto_region 7 with (fail)
  clear p1 p2 q1 q2
  have HK12 := Lib.hid (show (w11.setCell ⟨g2, 3, none⟩ (.string ⟨#[97]⟩)).heap[b1]? = some (.cells #[.slice (some ⟨g, 0, none⟩) 2 2] 24 (0, 0)) ∧ (w11.setCell ⟨g2, 3, none⟩ (.string ⟨#[97]⟩)).heap[b2]? = some (.cells #[.slice V2 1 vc2] 24 (0, 0)) ∧ (w11.setCell ⟨g2, 3, none⟩ (.string ⟨#[97]⟩)).heap[w10.heap.size]? = some (.cells #[.slice (some ⟨g2, 0, none⟩) 2 2] 24 (0, 0)) from by
    have hf := HF10.out
    have hz := HZ10.out
    exact ⟨(Below.heap_setCell _ _ _ _ (show b1 ≠ g2 by omega)).trans ((HBX.out.block b1 hz.1).trans HK10.out.1), (Below.heap_setCell _ _ _ _ (show b2 ≠ g2 by omega)).trans ((HBX.out.block b2 hz.2.1).trans HK10.out.2), (Below.heap_setCell _ _ _ _ (show w10.heap.size ≠ g2 by omega)).trans HK11.out⟩)
  have HXR := Lib.hid (row_set (j := 3) HH11.out (.string ⟨#[97]⟩))
  have HBT := Lib.hid (show Below w9.heap.size w9 (w11.setCell ⟨g2, 3, none⟩ (.string ⟨#[97]⟩)) from (Below.step HBS.out HBX.out).setCell (p := ⟨g2, 3, none⟩) HF10.out.1 _)
  have HB12 := Lib.hid (show Below w.heap.size w (w11.setCell ⟨g2, 3, none⟩ (.string ⟨#[97]⟩)) from (Below.step HB10.out HBX.out).setCell (p := ⟨g2, 3, none⟩) (by have := HF10.out; show w.heap.size ≤ g2; omega) _)
  have HG12 := Lib.hid (HG9.out.below HBT.out)
  have HD12 := Lib.hid (HD9.out.below HBT.out)
  have HT12 := Lib.hid (show Ex (w11.setCell ⟨g2, 3, none⟩ (.string ⟨#[97]⟩)) two9 (some ⟨g2, 0, none⟩) 2 [d3, ⟨⟨#[97]⟩, d4.t⟩] from by
    have h1 : d3.df = ⟨⟨#[97]⟩, body9⟩ ∧ d4.df = ⟨⟨#[98]⟩, ⟨[emptyLf], 0⟩⟩ := by
      have h := HX10.out.df
      simp only [List.map_cons, List.map_nil, some9, List.cons.injEq, and_true] at h
      exact h
    have h2 : d4.t.tr = ⟨[emptyLf], 0⟩ := congrArg Df.body h1.2
    refine ⟨⟨⟨row_blk (cs := dfL.all [d3, ⟨⟨#[97]⟩, d4.t⟩]) HXR.out, fun _ _ _ => trivial⟩, fun d hd => ?_⟩, ?_, rfl, by kernel_rfl⟩
    · have hE : ∀ x, x ≠ g2 → x < w10.heap.size → (w11.setCell ⟨g2, 3, none⟩ (.string ⟨#[97]⟩)).heap[x]? = w10.heap[x]? := fun x hx hl => (Below.heap_setCell _ _ _ _ hx).trans (HBX.out.block x hl)
      simp only [List.mem_cons, List.not_mem_nil, or_false] at hd
      rcases hd with rfl | rfl
      · exact dfL.mono (dfL.agree (HI10.out d (by simp)) (fun x hx hl => hE x hx.2 hl)) (fun _ _ _ => trivial)
      · have h3 := dfL.mono (dfL.agree (HI10.out d4 (by simp)) (fun x hx hl => hE x hx.2 hl)) (T := fun _ => True) (fun _ _ _ => trivial)
        exact ⟨by show (⟨#[97]⟩ : ByteArray).size ≤ _; decide, h3.2⟩
    · show [d3.df, Df.mk ⟨#[97]⟩ d4.t.tr] = two9
      rw [h1.1, h2]; rfl)
  have HZ12 := Lib.hid (show w10.heap.size < (w11.setCell ⟨g2, 3, none⟩ (.string ⟨#[97]⟩)).heap.size from (Array.getElem?_eq_some_iff.1 HK12.out.2.2).1)
  clear HXR HBT HG9 HD9 HBS HX10 HI10 HH10 HH11 HK11 HBX HK10 HF10 HB10 hw11
  generalize w11.setCell ⟨g2, 3, none⟩ (.string ⟨#[97]⟩) = W at *
  generalize w10.heap.size = b4 at *
  have HPC := Lib.hid (show ∀ w', Below W.heap.size W w' → CntTab w' from fun w' h => (HP.out.below (Below.step HB12.out h)).cn)
  have HSZ := Lib.hid (show ∀ t : Lt, t.tr = bodyB9 → t.ls.length ≤ 4294967296 ∧ ∀ l ∈ t.ls, l.nd.kids.length ≤ 4294967296 from fun t h => by
    have h1 := small_of (e := [(⟨⟨#[98]⟩, t⟩ : Ld)]) (G := [⟨⟨#[98]⟩, bodyB9⟩]) (by show [Df.mk _ t.tr] = _; rw [h]) (by kernel_rfl)
    exact h1.2.2 ⟨⟨#[98]⟩, t⟩ (List.mem_singleton.2 rfl))
  have HOD := Lib.hid (show ∀ t : Tr, t = bodyB9 → some9.set 1 ⟨(some9[1]?.map Df.name).getD ⟨#[]⟩, t⟩ = odd9 from fun t h => by rw [h]; rfl)
  have HSB := Lib.hid (show ∀ w', Below W.heap.size W w' → w'.cell? ⟨b1, 0, none⟩ = some (.slice (some ⟨g, 0, none⟩) 2 2) from fun w' h => (blk1 (bx_kept h HK12.out.1)).1)
  have HB := Lib.hid (Below.refl W.heap.size W)
  go_cut [5, 6] (fun v5 v6 wx => ∃ (nb : Nat) (V5 : Option Addr) (vc5 : Nat) (e5 : List Ld), v5 = .pointer (some ⟨nb, 0, none⟩) ∧ v6 = .bool true ∧ Hid (wx.heap[nb]? = some (.cells #[.slice V5 2 vc5] 24 (0, 0))) ∧ Hid (Ex wx odd9 V5 2 e5) ∧ Hid (Below W.heap.size W wx))
  case first =>
    go_region_held3 (fun w' => w'.cell? ⟨b1, 0, none⟩ = some (.slice (some ⟨g, 0, none⟩) 2 2))
      (exact HSB.out _ (by first | exact HB.out.setCell (p := ⟨_, 0, none⟩) HXN.out _ | exact HB.out.setCell (p := ⟨_, 0, none⟩) (Nat.le_succ_of_le HXN.out) _ | exact HB.out | exact HB.out.drew | exact below_al HB.out _ | exact below_al HB.out.drew _ | exact below_al (below_al HB.out _) _ | exact below_al (below_al HB.out.drew _) _))
      (first
        | (go_at_call 41; (with_reducible refine (empty_any _).mono ?_); rintro e wa ⟨be, rfl, hto, hb⟩; (first | (have HX' := Lib.hid (bx_kept hb HX.out); clear HX; have HX := HX'; clear HX') | (have HX' := Lib.hid (bx_kept hb (bx_old HX.out)); clear HX; have HX := HX'; clear HX') | (have HX := Lib.hid (bx_kept hb (bx_new2 _ _ (.cells #[.slice none 0 0] 24))); have HXN := Lib.hid HB.out.size) | (have HX := Lib.hid (bx_kept hb (bx_new _ (.cells #[.slice none 0 0] 24))); have HXN := Lib.hid HB.out.size) | (have HX := Lib.hid (bx_kept hb (bx_old (bx_new _ (.cells #[.slice none 0 0] 24)))); have HXN := Lib.hid HB.out.size) | skip); have HB' := Lib.hid (Below.step (by first | exact HB.out | exact HB.out.drew | exact below_al HB.out _ | exact below_al HB.out.drew _ | exact below_al (below_al HB.out _) _ | exact below_al (below_al HB.out.drew _) _) hb); clear HB; have HB := HB'; clear HB'; have HTE := Lib.hid (show ∀ w', Below wa.heap.size wa w' → Lt.inn w' (fun _ => True) ⟨some ⟨be, 0, none⟩, 1, [⟨emptyLf, none, 0⟩], 0⟩ from fun w' h => ((hto.inn).below h).mono (fun _ _ _ => trivial)); clear hto hb)
        | (go_at_call 39; (with_reducible refine (text_any ⟨#[120]⟩ _ (by decide)).mono ?_); rintro e wb ⟨bt, rfl, hto, hb⟩; (first | (have HX' := Lib.hid (bx_kept hb HX.out); clear HX; have HX := HX'; clear HX') | (have HX' := Lib.hid (bx_kept hb (bx_old HX.out)); clear HX; have HX := HX'; clear HX') | (have HX := Lib.hid (bx_kept hb (bx_new2 _ _ (.cells #[.slice none 0 0] 24))); have HXN := Lib.hid HB.out.size) | (have HX := Lib.hid (bx_kept hb (bx_new _ (.cells #[.slice none 0 0] 24))); have HXN := Lib.hid HB.out.size) | (have HX := Lib.hid (bx_kept hb (bx_old (bx_new _ (.cells #[.slice none 0 0] 24)))); have HXN := Lib.hid HB.out.size) | skip); have HB' := Lib.hid (Below.step (by first | exact HB.out | exact HB.out.drew | exact below_al HB.out _ | exact below_al HB.out.drew _ | exact below_al (below_al HB.out _) _ | exact below_al (below_al HB.out.drew _) _) hb); clear HB; have HB := HB'; clear HB'; have HTE' := Lib.hid (show ∀ w', Below wb.heap.size wb w' → Lt.inn w' (fun _ => True) ⟨some ⟨be, 0, none⟩, 1, [⟨emptyLf, none, 0⟩], 0⟩ from fun w' h => HTE.out w' (Below.step (Below.step (by first | exact Below.refl _ _ | exact (Below.refl _ _).drew | exact bx1 _ _ | exact bx2 _ _ _) hb) h)); clear HTE; have HTE := HTE'; clear HTE'; have HTT := Lib.hid (show ∀ w', Below wb.heap.size wb w' → Lt.inn w' (fun _ => True) ⟨some ⟨bt, 0, none⟩, 1, [⟨textLf ⟨#[120]⟩, none, 0⟩], 0⟩ from fun w' h => ((hto.inn).below h).mono (fun _ _ _ => trivial)); clear hto hb)
        | (go_at_call 57; (refine (of9_any seqN (.slice none 0 0) _ 2 [⟨some ⟨be, 0, none⟩, 1, [⟨emptyLf, none, 0⟩], 0⟩, ⟨some ⟨bt, 0, none⟩, 1, [⟨textLf ⟨#[120]⟩, none, 0⟩], 0⟩] (fun _ => True) _ (by refine ⟨?_, ?_, ?_, ?_, ?_, ?_, ?_⟩ <;> first | decide | (simp [seqN, U64])) (by refine ⟨⟨row_blk (cs := [.slice (some ⟨be, 0, none⟩) 1 1, .int .i64 0, .slice (some ⟨bt, 0, none⟩) 1 1, .int .i64 0]) (by first | exact bx_new _ _ | exact bx_old (bx_new _ _) | exact bx_new2 _ _ _), fun _ _ _ => trivial⟩, fun t ht => ?_⟩; simp only [List.mem_cons, List.not_mem_nil, or_false] at ht; rcases ht with rfl | rfl; exact HTE.out _ (by first | exact Below.refl _ _ | exact (Below.refl _ _).drew | exact bx1 _ _ | exact bx2 _ _ _); exact HTT.out _ (by first | exact Below.refl _ _ | exact (Below.refl _ _).drew | exact bx1 _ _ | exact bx2 _ _ _)) (by simp) (by simp) (HPC.out _ (by first | exact HB.out | exact HB.out.drew | exact below_al HB.out _ | exact below_al HB.out.drew _ | exact below_al (below_al HB.out _) _ | exact below_al (below_al HB.out.drew _) _)) okB9).mono ?_); rintro e wc ⟨⟨A5, c5, l5, r5⟩, he, htr, hto, hb⟩; simp only [Lt.val] at he; subst he; (first | (have HX' := Lib.hid (bx_kept hb HX.out); clear HX; have HX := HX'; clear HX') | (have HX' := Lib.hid (bx_kept hb (bx_old HX.out)); clear HX; have HX := HX'; clear HX') | (have HX := Lib.hid (bx_kept hb (bx_new2 _ _ (.cells #[.slice none 0 0] 24))); have HXN := Lib.hid HB.out.size) | (have HX := Lib.hid (bx_kept hb (bx_new _ (.cells #[.slice none 0 0] 24))); have HXN := Lib.hid HB.out.size) | (have HX := Lib.hid (bx_kept hb (bx_old (bx_new _ (.cells #[.slice none 0 0] 24)))); have HXN := Lib.hid HB.out.size) | skip); have HB' := Lib.hid (Below.step (by first | exact HB.out | exact HB.out.drew | exact below_al HB.out _ | exact below_al HB.out.drew _ | exact below_al (below_al HB.out _) _ | exact below_al (below_al HB.out.drew _) _) hb); clear HB; have HB := HB'; clear HB'; have HTR := Lib.hid (show Lt.tr ⟨A5, c5, l5, r5⟩ = bodyB9 from htr); have HTO := Lib.hid (show ∀ w', Below wc.heap.size wc w' → Lt.inn w' (fun _ => True) ⟨A5, c5, l5, r5⟩ from fun w' h => ((hto.inn).below h).mono (fun _ _ _ => trivial)); clear htr hto hb HTE HTT)
        | (go_at_call 56; (refine ((HG12.out.below (by first | exact HB.out | exact HB.out.drew | exact below_al HB.out _ | exact below_al HB.out.drew _ | exact below_al (below_al HB.out _) _ | exact below_al (below_al HB.out.drew _) _)).with 1 (by decide) ⟨A5, c5, l5, r5⟩ (fun _ => True) (HTO.out _ (by first | exact Below.refl _ _ | exact (Below.refl _ _).drew | exact bx1 _ _ | exact bx2 _ _ _)) (HSZ.out _ HTR.out).1 (HSZ.out _ HTR.out).2 (HOD.out _ HTR.out) (by kernel_rfl)).mono ?_); rintro e wd ⟨V5, vc5, e5, rfl, hx, hy, hb⟩; (first | (have HNB := Lib.hid (heap_lt' HX.out)) | (have HNB := Lib.hid (heap_lt' (bx_new wc (.cells #[.slice none 0 0] 24)))) | skip); have HY5 := Lib.hid hy; clear hy; (first | (have HX' := Lib.hid (bx_kept hb HX.out); clear HX; have HX := HX'; clear HX') | (have HX' := Lib.hid (bx_kept hb (bx_old HX.out)); clear HX; have HX := HX'; clear HX') | (have HX := Lib.hid (bx_kept hb (bx_new2 _ _ (.cells #[.slice none 0 0] 24))); have HXN := Lib.hid HB.out.size) | (have HX := Lib.hid (bx_kept hb (bx_new _ (.cells #[.slice none 0 0] 24))); have HXN := Lib.hid HB.out.size) | (have HX := Lib.hid (bx_kept hb (bx_old (bx_new _ (.cells #[.slice none 0 0] 24)))); have HXN := Lib.hid HB.out.size) | skip); have HB' := Lib.hid (Below.step (by first | exact HB.out | exact HB.out.drew | exact below_al HB.out _ | exact below_al HB.out.drew _ | exact below_al (below_al HB.out _) _ | exact below_al (below_al HB.out.drew _) _) hb); clear HB; have HB := HB'; clear HB'; have HX5 := Lib.hid hx; clear hx hb HTR HTO; (first | (have hX9 := blk1 HX.out; obtain ⟨t1, t2⟩ := hX9) | skip))
        | fail)
    all_goals go_wp2_with fail
    all_goals go_meet
    all_goals first
      | exact ⟨_, V5, vc5, e5, rfl, rfl, Lib.hid (bx_new wd _), Lib.hid (HX5.out.below (bx1 wd _)), Lib.hid (below_al HB.out _)⟩
      | (refine ⟨_, V5, vc5, e5, rfl, rfl, Lib.hid (set_blk1 HX.out), Lib.hid ⟨(HY5.out.agree (fun x hx _ => Below.heap_setCell _ _ _ _ ?_)).mono (fun _ _ _ => trivial), HX5.out.df, HX5.out.len, HX5.out.small⟩, Lib.hid (HB.out.setCell (p := ⟨_, 0, none⟩) ?_ _)⟩
         · have h1 := HNB.out
           have hx := hx
           show x ≠ _
           intro e
           subst e
           exact absurd h1 (Nat.not_lt_of_le hx)
         · have h1 := HXN.out
           first | exact h1 | exact Nat.le_succ_of_le h1)
  case rest =>
    obtain ⟨nb, V5, vc5, e5, rfl, rfl, HN, HX5, HBC⟩ := hcut
    have HBW := Lib.hid (Below.step HB12.out HBC.out)
    have HPC8 := Lib.hid (show ∀ w', Below wc.heap.size wc w' → PTabs w' from fun w' h => HP.out.below (Below.step HBW.out h))
    have HM1 := Lib.hid (show ∀ w', Below wc.heap.size wc w' → Ex w' one9 V2 1 e2 from fun w' h => HD12.out.below (Below.step HBC.out h))
    have HM2 := Lib.hid (show ∀ w', Below wc.heap.size wc w' → Ex w' two9 (some ⟨g2, 0, none⟩) 2 [d3, ⟨⟨#[97]⟩, d4.t⟩] from fun w' h => HT12.out.below (Below.step HBC.out h))
    have HM3 := Lib.hid (show ∀ w', Below wc.heap.size wc w' → Ex w' some9 (some ⟨g, 0, none⟩) 2 [d1, d2] from fun w' h => HG12.out.below (Below.step HBC.out h))
    have HM5 := Lib.hid (show ∀ w', Below wc.heap.size wc w' → Ex w' odd9 V5 2 e5 from fun w' h => HX5.out.below h)
    have HM0 := Lib.hid (show ∀ w', Below wc.heap.size wc w' → Ex w' [] none 0 [] from fun w' _ => ⟨Lay.row.nil _ _ _, rfl, rfl, by kernel_rfl⟩)
    have HS8 := Lib.hid (show ∀ w', Below wc.heap.size wc w' → w'.cell? ⟨b1, 0, none⟩ = some (.slice (some ⟨g, 0, none⟩) 2 2) ∧ w'.cell? ⟨b2, 0, none⟩ = some (.slice V2 1 vc2) ∧ w'.cell? ⟨b4, 0, none⟩ = some (.slice (some ⟨g2, 0, none⟩) 2 2) ∧ w'.cell? ⟨nb, 0, none⟩ = some (.slice V5 2 vc5) from fun w' h => ⟨HSB.out w' (Below.step HBC.out h), (blk1 (bx_kept (Below.step HBC.out h) HK12.out.2.1)).1, (blk1 (bx_kept (Below.step HBC.out h) HK12.out.2.2)).1, (blk1 (bx_kept h HN.out)).1⟩)
    clear HB
    have HB := Lib.hid (Below.refl wc.heap.size wc)
    go_upto_region 8 with (fail)
    go_region_held3 (fun w' => w'.cell? ⟨b1, 0, none⟩ = some (.slice (some ⟨g, 0, none⟩) 2 2) ∧ w'.cell? ⟨b2, 0, none⟩ = some (.slice V2 1 vc2) ∧ w'.cell? ⟨b4, 0, none⟩ = some (.slice (some ⟨g2, 0, none⟩) 2 2) ∧ w'.cell? ⟨nb, 0, none⟩ = some (.slice V5 2 vc5))
      (exact HS8.out _ (by first | exact HB.out | exact HB.out.drew))
      (first
        | (go_at_call 14; (with_reducible refine ((HM1.out _ (by first | exact HB.out | exact HB.out.drew)).may (HPC8.out _ (by first | exact HB.out | exact HB.out.drew)) may91).mono ?_); rintro e wx ⟨rfl, hb⟩; have HB' := Lib.hid (Below.step (by first | exact HB.out | exact HB.out.drew) hb); clear HB; have HB := HB'; clear HB' hb)
        | (go_at_call 14; (with_reducible refine ((HM2.out _ (by first | exact HB.out | exact HB.out.drew)).may (HPC8.out _ (by first | exact HB.out | exact HB.out.drew)) may92).mono ?_); rintro e wx ⟨rfl, hb⟩; have HB' := Lib.hid (Below.step (by first | exact HB.out | exact HB.out.drew) hb); clear HB; have HB := HB'; clear HB' hb)
        | (go_at_call 14; (with_reducible refine ((HM5.out _ (by first | exact HB.out | exact HB.out.drew)).may (HPC8.out _ (by first | exact HB.out | exact HB.out.drew)) may93).mono ?_); rintro e wx ⟨rfl, hb⟩; have HB' := Lib.hid (Below.step (by first | exact HB.out | exact HB.out.drew) hb); clear HB; have HB := HB'; clear HB' hb)
        | (go_at_call 14; (with_reducible refine ((HM0.out _ (by first | exact HB.out | exact HB.out.drew)).may (HPC8.out _ (by first | exact HB.out | exact HB.out.drew)) may90).mono ?_); rintro e wx ⟨rfl, hb⟩; have HB' := Lib.hid (Below.step (by first | exact HB.out | exact HB.out.drew) hb); clear HB; have HB := HB'; clear HB' hb)
        | (go_at_call 54; (with_reducible refine (some_ex _ (HPC8.out _ (by first | exact HB.out | exact HB.out.drew)).cn).mono ?_); rintro e wx ⟨g6, d5, d6, rfl, hx, -, -, -, hb⟩; have HB' := Lib.hid (Below.step (by first | exact HB.out | exact HB.out.drew) hb); clear HB; have HB := HB'; clear HB' hb; have HM6 := Lib.hid hx; clear hx)
        | (go_at_call 18; (with_reducible refine (((HM3.out _ (by first | exact HB.out | exact HB.out.drew)).same HM6.out (HPC8.out _ (by first | exact HB.out | exact HB.out.drew)) same90).mono ?_)); rintro e wx ⟨rfl, hb⟩; have HB' := Lib.hid (Below.step (by first | exact HB.out | exact HB.out.drew) hb); clear HB; have HB := HB'; clear HB' hb)
        | (go_at_call 18; (with_reducible refine (((HM3.out _ (by first | exact HB.out | exact HB.out.drew)).same (HM1.out _ (by first | exact HB.out | exact HB.out.drew)) (HPC8.out _ (by first | exact HB.out | exact HB.out.drew)) same91).mono ?_)); rintro e wx ⟨rfl, hb⟩; have HB' := Lib.hid (Below.step (by first | exact HB.out | exact HB.out.drew) hb); clear HB; have HB := HB'; clear HB' hb)
        | fail)
    go_wp2_with fail
    go_ret
    exact ⟨rfl, Below.step HBW.out HB.out⟩
end Go.Proofs.YtmjkgnknfgoadaaGreatDoor
