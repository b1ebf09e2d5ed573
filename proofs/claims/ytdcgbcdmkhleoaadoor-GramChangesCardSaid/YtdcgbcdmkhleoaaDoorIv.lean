/- Plain laws of rows that are written over from a place on, and of a row cut short. -/
import Derived.Test.YtdcgbcdmkhleoaaDoorIr
import Derived.Deep.RegionLaw
import Derived.Lib.SliceRun
namespace Go.Proofs.YtdcgbcdmkhleoaaDoor
open Go.RowKit
set_option linter.unusedSimpArgs false
set_option linter.unusedVariables false

theorem own_setCells {w : World} {base : Nat} {e : TypeId} {size g n cap : Nat} : ∀ (vs : List Value) (o : Nat) (w : World) (xs : List Value), o + vs.length ≤ xs.length → w.ownsRow base e size (.slice (some ⟨g, 0, none⟩) n cap) n xs →
    (w.setCells g o vs).ownsRow base e size (.slice (some ⟨g, 0, none⟩) n cap) n (xs.take o ++ vs ++ xs.drop (o + vs.length))
  | [], o, w, xs, _, h => by
    show w.ownsRow base e size _ n _
    simpa using h
  | v :: vs, o, w, xs, hl, h => by
    have h1 := (World.ownsRow.stored h o v).1
    have h2 := own_setCells (w := w) vs (o + 1) _ (xs.set o v) (by simp at hl ⊢; omega) h1
    have e1 : (xs.set o v).take (o + 1) ++ vs ++ (xs.set o v).drop (o + 1 + vs.length) = xs.take o ++ (v :: vs) ++ xs.drop (o + (v :: vs).length) := by
      simp only [List.length_cons] at hl ⊢
      have hx : xs.set o v = xs.take o ++ v :: xs.drop (o + 1) := by rw [List.set_eq_take_append_cons_drop, if_pos (by omega)]
      have hA : (xs.take o).length = o := by rw [List.length_take]; omega
      have hB : xs.drop (o + (vs.length + 1)) = (xs.drop (o + 1)).drop vs.length := by rw [List.drop_drop]; congr 1; omega
      rw [hx, hB]
      generalize xs.take o = X at *
      generalize xs.drop (o + 1) = Y at *
      subst hA
      rw [List.take_length_add_append, show X.length + 1 + vs.length = X.length + (1 + vs.length) by omega, List.drop_length_add_append, Nat.add_comm 1 vs.length, List.drop_succ_cons]
      simp
    rw [e1] at h2
    exact h2
theorem heap_setCells {g : Nat} : ∀ (vs : List Value) (o : Nat) (w : World) (x : Nat), x ≠ g → (w.setCells g o vs).heap[x]? = w.heap[x]?
  | [], _, _, _, _ => rfl
  | v :: vs, o, w, x, hx => (heap_setCells vs (o + 1) (w.setCell ⟨g, o, none⟩ v) x hx).trans (Below.heap_setCell w ⟨g, o, none⟩ v x hx)
theorem below_setCellsD {B g : Nat} (hg : B ≤ g) : ∀ (vs : List Value) (o : Nat) (w w0 : World), Below B w0 w → Below B w0 (w.setCells g o vs)
  | [], _, _, _, h => h
  | v :: vs, o, w, w0, h => below_setCellsD hg vs (o + 1) (w.setCell ⟨g, o, none⟩ v) w0 (h.setCell (p := ⟨g, o, none⟩) hg v)
theorem Lay.all_take {α : Type} (L : Lay α) (l : List α) (k : Nat) (hk : k ≤ l.length) : (L.all l).take (k * L.size) = L.all (l.take k) := by
  have e2 : L.all l = L.all (l.take k) ++ L.all (l.drop k) := by rw [← L.all_append, List.take_append_drop]
  rw [e2, List.take_left' (by rw [L.all_length, List.length_take]; congr 1; omega)]
theorem Lay.all_drop {α : Type} (L : Lay α) (l : List α) (k : Nat) (hk : k ≤ l.length) : (L.all l).drop (k * L.size) = L.all (l.drop k) := by
  have e2 : L.all l = L.all (l.take k) ++ L.all (l.drop k) := by rw [← L.all_append, List.take_append_drop]
  rw [e2, List.drop_left' (by rw [L.all_length, List.length_take]; congr 1; omega)]
theorem erase_row (ds : List Ld) (r : Nat) (hr : r < ds.length) : (dfL.all ds).take (r * 3) ++ dfL.all (ds.drop (r + 1)) ++ (dfL.all ds).drop (r * 3 + (dfL.all (ds.drop (r + 1))).length) = dfL.all (ds.eraseIdx r) ++ dfL.all (ds.drop (ds.length - 1)) := by
  have h1 := dfL.all_take ds r (by omega)
  have h2 := dfL.all_drop ds (ds.length - 1) (by omega)
  have h3 : (dfL.all (ds.drop (r + 1))).length = (ds.length - (r + 1)) * 3 := by rw [dfL.all_length, List.length_drop]; rfl
  have h4 : r * 3 + (dfL.all (ds.drop (r + 1))).length = (ds.length - 1) * 3 := by rw [h3]; omega
  have e1 : (dfL.all ds).take (r * 3) = dfL.all (ds.take r) := h1
  have e2 : (dfL.all ds).drop ((ds.length - 1) * 3) = dfL.all (ds.drop (ds.length - 1)) := h2
  rw [h4, e1, e2, List.eraseIdx_eq_take_drop_succ, dfL.all_append]
theorem clear_row (ds : List Ld) (r : Nat) (hr : r < ds.length) (zs : List Value) (hz : zs.length = 3) : ((dfL.all (ds.eraseIdx r) ++ dfL.all (ds.drop (ds.length - 1))).take ((ds.length - 1) * 3) ++ zs ++ (dfL.all (ds.eraseIdx r) ++ dfL.all (ds.drop (ds.length - 1))).drop ((ds.length - 1) * 3 + zs.length)).take ((ds.length - 1) * 3) = dfL.all (ds.eraseIdx r) := by
  have h1 : (dfL.all (ds.eraseIdx r)).length = (ds.length - 1) * 3 := by rw [dfL.all_length, List.length_eraseIdx, if_pos hr]; rfl
  rw [← h1, List.take_left, List.append_assoc, List.take_left]

theorem run_clear1 (w : World) (ty : TypeId) (g o c : Nat) (h1 : ∀ j, j < 3 → (w.cell? ⟨g, o + j, none⟩).isSome = true) (h2 : ∀ j, j < 3 → w.frozen? ⟨g, o + j, none⟩ = false) :
    (Builtin.clear_ #[48] ty #[.slice (some ⟨g, o, none⟩) 1 c]).run Tryd.prog w = .ok (.tuple #[]) (w.setCells g o [.string ⟨#[]⟩, .slice none 0 0, .int .i64 0]) := by
  have ht := Tryd.underlying48
  have hv : ∀ w, (zeroValue 47).run Tryd.prog w = .ok (.agg #[.string ⟨#[]⟩, .slice none 0 0, .int .i64 0]) w := fun w => by go_simp
  have hzc : (Builtin.zeroCells (Value.agg #[.string ⟨#[]⟩, .slice none 0 0, .int .i64 0]).cells 1).toList = [.string ⟨#[]⟩, .slice none 0 0, .int .i64 0] := by
    show ((Array.range 3).map fun i => (#[Value.string ⟨#[]⟩, Value.slice none 0 0, Value.int .i64 0] : Array Value)[i % 3]!).toList = _
    rw [Array.toList_map, Array.toList_range]
    rfl
  have hst := run_storeCells_cells (P := Tryd.prog) g o [.string ⟨#[]⟩, .slice none 0 0, .int .i64 0] 0 w (by simpa using h1) (by simpa using h2) (by decide)
  simp only [Nat.add_zero] at hst
  simp [Builtin.clear_, run_underlying ht, hv, hzc, hst]

set_option maxRecDepth 1000000 in
set_option maxHeartbeats 4000000 in
/-- slices.Delete of one rule. -/
theorem del_any (g vc r : Nat) (ds : List Ld) (w : World) (hown : w.ownsRow 0 47 3 (.slice (some ⟨g, 0, none⟩) ds.length vc) ds.length (dfL.all ds)) (hr : r < ds.length) :
    Calls Tryd.prog 71 #[.slice (some ⟨g, 0, none⟩) ds.length vc, .int .i64 r, .int .i64 ((r : Int) + 1)] w fun e w' =>
      e = .returned (.slice (some ⟨g, 0, none⟩) (ds.length - 1) vc) ∧ w'.ownsRow 0 47 3 (.slice (some ⟨g, 0, none⟩) (ds.length - 1) vc) (ds.length - 1) (dfL.all (ds.eraseIdx r)) ∧ (∀ x, x ≠ g → w'.heap[x]? = w.heap[x]?) ∧ ∀ B, B ≤ g → Below B w w' := by
  obtain ⟨hcap, hm⟩ : ds.length ≤ vc ∧ vc ≤ 9223372036854775807 := by
    rcases hown.2 with ⟨hv, _⟩ | ⟨g', cap', cur, hv, hb, hh, hn, hc, hs, ht⟩
    · cases hv
    · cases hv; exact ⟨hn, hc⟩
  obtain ⟨i0, hi0⟩ := Option.isSome_iff_exists.1 (show (Tryd.prog.info? 47).isSome = true by kernel_rfl)
  have hz1 : i0.size = 3 := by
    have h : (Tryd.prog.info? 47).map (·.size) = some 3 := by kernel_rfl
    rw [hi0] at h; simpa using h
  have e0 : r + (ds.length - (r + 1)) = ds.length - 1 := by omega
  obtain ⟨news, hnews⟩ : ∃ news, news = dfL.all (ds.drop (r + 1)) := ⟨_, rfl⟩
  have hlen : news.length = (ds.length - (r + 1)) * 3 := by rw [hnews, dfL.all_length, List.length_drop]; rfl
  have hcell : ∀ t u, news[t]? = some u → w.drew.cell? ⟨g, (r + 1) * 3 + t, none⟩ = some u := fun t u hu => by
    have ht := (List.getElem?_eq_some_iff.1 hu).1
    have h := World.ownsRow.cellAt hown ((r + 1) * 3 + t) (by rw [hlen] at ht; omega)
    have h2 := dfL.all_drop ds (r + 1) (by omega)
    rw [hnews, ← h2, List.getElem?_drop] at hu
    exact h.trans hu
  obtain ⟨A, hA, hsrc⟩ : ∃ A : Addr, (if vc = r + 1 then some (⟨g, 0, none⟩ : Addr) else some ⟨g, (r + 1) * 3, none⟩) = some A ∧ Hid (∀ t u, news[t]? = some u → w.drew.cell? (A.add t) = some u) := by
    by_cases h : vc = r + 1
    · refine ⟨⟨g, 0, none⟩, by simp [h], fun t u hu => ?_⟩
      have ht := (List.getElem?_eq_some_iff.1 hu).1
      rw [hlen] at ht
      omega
    · refine ⟨⟨g, (r + 1) * 3, none⟩, by simp [h], fun t u hu => ?_⟩
      rw [Addr.add_lit]
      exact hcell t u hu
  have s2 : Hid (∀ u ∈ news, u.oneCell' = true) := by
    rw [hnews]; exact dfL.all_one' _
  have s3 : Hid (∀ t, t < news.length → (w.drew.cell? ⟨g, 0 + r * 3 + t, none⟩).isSome = true ∧ w.drew.frozen? ⟨g, 0 + r * 3 + t, none⟩ = false) := by
    intro t ht
    rw [hlen] at ht
    have h := World.ownsRow.cellAt hown (r * 3 + t) (by omega)
    have h3 : (dfL.all ds).length = ds.length * 3 := dfL.all_length ds
    rw [Nat.zero_add]
    refine ⟨?_, World.ownsRow.frozenAt hown _⟩
    show (w.cell? _).isSome = true
    rw [h, List.getElem?_eq_getElem (by omega)]; rfl
  obtain ⟨W1, hW1⟩ : ∃ W1, W1 = w.drew.setCells g (0 + r * 3) news := ⟨_, rfl⟩
  have h3 : (dfL.all ds).length = ds.length * 3 := dfL.all_length ds
  have hown1 : W1.ownsRow 0 47 3 (.slice (some ⟨g, 0, none⟩) ds.length vc) ds.length (dfL.all (ds.eraseIdx r) ++ dfL.all (ds.drop (ds.length - 1))) := by
    have h1 := own_setCells (w := w) news (0 + r * 3) w.drew (dfL.all ds) (by rw [hlen, h3]; omega) hown
    rw [← hW1, Nat.zero_add, hnews, erase_row ds r hr] at h1
    exact h1
  have h4 : (dfL.all (ds.eraseIdx r) ++ dfL.all (ds.drop (ds.length - 1))).length = ds.length * 3 := hown1.1
  have hcl : ∀ ty c, (Builtin.clear_ #[48] ty #[.slice (some ⟨g, (ds.length - 1) * 3, none⟩) (ds.length - (ds.length - 1)) c]).run Tryd.prog W1 = .ok (.tuple #[]) (W1.setCells g ((ds.length - 1) * 3) [.string ⟨#[]⟩, .slice none 0 0, .int .i64 0]) := fun ty c => by
    rw [show ds.length - (ds.length - 1) = 1 by omega]
    refine run_clear1 W1 ty g ((ds.length - 1) * 3) c (fun j hj => ?_) (fun j hj => World.ownsRow.frozenAt hown1 _)
    rw [World.ownsRow.cellAt hown1 _ (by omega), List.getElem?_eq_getElem (by omega)]; rfl
  have HO2 := Lib.hid (own_setCells (w := w) [.string ⟨#[]⟩, .slice none 0 0, .int .i64 0] ((ds.length - 1) * 3) W1 _ (by rw [h4]; simp; omega) hown1)
  have HW := Lib.hid hW1
  have s1 := Lib.hid hlen
  clear hW1 hown hcell hnews hlen h3 h4
  have hic : r ≤ vc := by omega
  have hjc : r + 1 ≤ vc := by omega
  have hj1 : (0 : Int) ≤ (r : Int) + 1 := by omega
  have hj2 : (r : Int) + 1 ≤ (ds.length : Int) := by omega
  go_enter Tryd.func71, Tryd.ntmps71
  go_wp2_with fail
  have mixed : Tryd.prog.follows .mixedOrders = true := by kernel_rfl
  go_region_law_o (refine step_append_room rfl (.tmp 22) (.tmp 25) 48 rfl 47 i0 3 Tryd.underlying48 hi0 hz1 g 0 r vc (by simp [Act.eval, Act.put]) A (ds.length - (r + 1)) (vc - (r + 1)) news (by simp [Act.eval, Act.put]) s1.out hsrc.out s2.out (by omega) s3.out ?_; rw [← HW.out])
  go_wp2_with fail
  go_ret
  refine ⟨rfl, ?_, fun x hx => ?_, fun B hB => ?_⟩
  · have h := own_cut HO2.out (m := ds.length - 1) (by omega)
    rw [clear_row ds r hr _ rfl] at h
    exact h
  · rw [heap_setCells _ _ _ _ hx, HW.out, heap_setCells _ _ _ _ hx]; rfl
  · refine below_setCellsD hB _ _ _ _ ?_
    rw [HW.out]
    exact below_setCellsD hB _ _ _ _ (Below.refl _ _).drew

/-- What gram.Drop tells where there is such a rule. -/
def DropPost (g : List Df) (r : Nat) (w : World) (e : Ending) (w' : World) : Prop := ∃ (V : Option Addr) (vc : Nat) (ds : List Ld), e = .returned (.tuple #[.agg #[.slice V ds.length vc], .bool true]) ∧
  ds.map Ld.df = g.eraseIdx r ∧ GramOwn w' (w.heap.size ≤ ·) V vc ds ∧ Below w.heap.size w w'
theorem GramOwn.erase {W : World} {S T : Nat → Prop} {V : Option Addr} {vc g r : Nat} {ds : List Ld} (h : GramOwn W S V vc ds) (hr : r < ds.length) {cs : Array Value} (hg : W.heap[g]? = some (.cells cs 47 (0, 0))) (w5 : World) (hT : ∀ x, S x → x ≠ g → T x) (hE : ∀ x, S x → x < W.heap.size → x ≠ g → w5.heap[x]? = W.heap[x]?)
    (hrow : OwnS w5 T 47 3 (some ⟨g, 0, none⟩) (ds.length - 1) vc (dfL.all (ds.eraseIdx r))) : GramOwn w5 T (some ⟨g, 0, none⟩) vc (ds.eraseIdx r) := by
  have hln : (ds.eraseIdx r).length = ds.length - 1 := by rw [List.length_eraseIdx, if_pos hr]
  obtain ⟨h1, h2, Q, h3, h4, h5⟩ := h
  refine ⟨by rw [hln]; omega, by rw [hln]; exact hrow, fun i x => Q (if i < r then i else i + 1) x ∧ x ≠ g, fun i hi => ?_, fun i x hx => hT x (h4 _ x hx.1) hx.2, fun i j x hij hi hj => ?_⟩
  · have hi2 : (if i < r then i else i + 1) < ds.length := by split <;> omega
    have e : (ds.eraseIdx r)[i] = ds[if i < r then i else i + 1] := by
      rw [List.getElem_eraseIdx]
      split <;> rfl
    rw [e]
    refine ⟨(h3 _ hi2).1, ?_⟩
    exact ((h3 _ hi2).2.ne hg).agree (fun x hx hxl => hE x (h4 _ x hx.1) hxl hx.2)
  · refine h5 _ _ x ?_ hi.1 hj.1
    intro e
    split at e <;> split at e <;> omega

set_option maxRecDepth 100000 in
set_option maxHeartbeats 3200000 in
theorem drop_no (A : Option Addr) (c : Nat) (ds : List Ld) (r : Int) (w : World) (hr : r < 0 ∨ (ds.length : Int) ≤ r) :
    Calls Tryd.prog 36 #[.agg #[.slice A ds.length c], .int .i64 r] w (NoRule w) := by
  unfold NoRule
  have HB := Lib.hid (bx2 w (.cells #[.slice A ds.length c] 50) (.cells #[.slice none 0 0] 50))
  have hk := bx_new (w.alloc (.cells #[.slice A ds.length c] 50)) (.cells #[.slice none 0 0] 50)
  rw [World.size_alloc] at hk
  obtain ⟨s1, s2⟩ := blk1 hk
  clear hk
  go_enter Tryd.func36, Tryd.ntmps36
  by_cases h0 : r < 0
  · have e0 : decide (r < 0) = true := by simpa using h0
    go_wp2_with fail
    exact bodyPost_ret (v := .tuple #[.agg #[.slice none 0 0], .bool false]) (by simp [results, Tryd.results36, go_sem, s1]) rfl ⟨rfl, HB.out⟩
  · have e0 : decide (r < 0) = false := by simpa using h0
    have h1 : (ds.length : Int) ≤ r := by omega
    have e1 : decide ((ds.length : Int) ≤ r) = true := by simpa using h1
    go_wp2_with fail
    exact bodyPost_ret (v := .tuple #[.agg #[.slice none 0 0], .bool false]) (by simp [results, Tryd.results36, go_sem, s1]) rfl ⟨rfl, HB.out⟩

set_option maxRecDepth 100000 in
set_option maxHeartbeats 6400000 in
theorem drop_any (A : Option Addr) (c : Nat) (ds : List Ld) (r : Nat) (S : Nat → Prop) (w : World) (hA : dfL.row w S A ds) (hl : ds.length ≤ 4294967296) (hm : ∀ d ∈ ds, DMod d) (hr : r < ds.length) :
    Calls Tryd.prog 36 #[.agg #[.slice A ds.length c], .int .i64 r] w (DropPost (ds.map Ld.df) r w) := by
  have HA := Lib.hid hA; have HM := Lib.hid hm
  clear hA hm
  unfold DropPost
  have HB0 := Lib.hid (bx2 w (.cells #[.slice A ds.length c] 50) (.cells #[.slice none 0 0] 50))
  have HK0 := Lib.hid (show ∀ w', Below ((w.alloc (.cells #[.slice A ds.length c] 50)).alloc (.cells #[.slice none 0 0] 50)).heap.size ((w.alloc (.cells #[.slice A ds.length c] 50)).alloc (.cells #[.slice none 0 0] 50)) w' →
      w'.heap[w.heap.size]? = some (.cells #[.slice A ds.length c] 50 (0, 0)) ∧ w'.heap[w.heap.size + 1]? = some (.cells #[.slice none 0 0] 50 (0, 0)) from fun w' hb => by
    refine ⟨bx_kept hb (bx_old (bx_new w _)), bx_kept hb ?_⟩
    have h := bx_new (w.alloc (.cells #[.slice A ds.length c] 50)) (.cells #[.slice none 0 0] 50)
    rw [World.size_alloc] at h; exact h)
  go_enter Tryd.func36, Tryd.ntmps36
  have i1 : decide ((r : Int) < 0) = false := by simp
  have i2 : decide ((ds.length : Int) ≤ (r : Int)) = false := by simp; omega
  have i3 : (r : Int) < (ds.length : Int) := by omega
  have i4 : (0 : Int) ≤ (r : Int) := by omega
  go_wp2_with fail
  refine (gcopy_any A c ds S _ (HA.out.below HB0.out) hl HM.out).mono ?_
  rintro e w1 ⟨V, vc, d1, rfl, hd1, hgo, hb1⟩
  have hn1 : d1.length = ds.length := by have h := congrArg List.length hd1; simpa using h
  rw [hn1]
  have HN1 := Lib.hid hn1; have HD1 := Lib.hid hd1; have HG1 := Lib.hid hgo; have HB1 := Lib.hid (Below.step HB0.out hb1); have HK1 := Lib.hid (HK0.out _ hb1)
  have HZ1 := Lib.hid (show w.heap.size + 2 ≤ w1.heap.size ∧ ∀ x, (((w.alloc (.cells #[.slice A ds.length c] 50)).alloc (.cells #[.slice none 0 0] 50)).heap.size ≤ x ↔ w.heap.size + 2 ≤ x) from ⟨by have := hb1.size; simp at this; omega, fun x => by simp⟩)
  clear hn1 hd1 hgo hb1 HB0 HK0
  obtain ⟨p1, p2⟩ := blk1 HK1.out.1
  go_upto_region 4 with (fail)
  have HX := Lib.hid (set_blk1 (u := .slice V ds.length vc) HK1.out.1)
  have HE := Lib.hid (show ∀ x, x ≠ w.heap.size → (w1.setCell ⟨w.heap.size, 0, none⟩ (.slice V ds.length vc)).heap[x]? = w1.heap[x]? from fun x hx => Below.heap_setCell _ _ _ _ hx)
  have HZW := Lib.hid (show (w1.setCell ⟨w.heap.size, 0, none⟩ (.slice V ds.length vc)).heap.size = w1.heap.size from by simp)
  have HBW := Lib.hid (show Below w.heap.size w (w1.setCell ⟨w.heap.size, 0, none⟩ (.slice V ds.length vc)) from HB1.out.setCell (p := ⟨w.heap.size, 0, none⟩) (Nat.le_refl _) _)
  generalize w1.setCell ⟨w.heap.size, 0, none⟩ (.slice V ds.length vc) = W at *
  clear p1 p2
  have HR := Lib.hid ((HE.out (w.heap.size + 1) (by omega)).trans HK1.out.2)
  have hgw : GramOwn W (fun x => w.heap.size + 2 ≤ x) V vc d1 := by
    have h := HG1.out.agree (w' := W) (fun x hx _ => HE.out x (by have := (HZ1.out.2 x).1 hx; omega))
    obtain ⟨h1, h2, Q, h3, h4, h5⟩ := h
    exact ⟨h1, h2.mono (fun x _ hx => (HZ1.out.2 x).1 hx), Q, h3, fun i x hx => (HZ1.out.2 x).1 (h4 i x hx), h5⟩
  have hrow := hgw.row
  have hr1 : r < d1.length := by rw [HN1.out]; exact hr
  obtain ⟨g, rfl, _, hg2⟩ := own_some hrow.1 (by omega)
  have hg3 : w.heap.size + 2 ≤ g := hrow.2 g rfl
  have HGW := Lib.hid hgw
  have HDL := Lib.hid (del_any g vc r d1 W hrow.1 hr1)
  rw [HN1.out] at HDL
  have HCS := Lib.hid (show ∃ cs, W.heap[g]? = some (.cells cs 47 (0, 0)) from by
    rcases hrow.1.2 with ⟨hv, _⟩ | ⟨g', cap, cur, hv, _, hh, _⟩
    · cases hv
    · cases hv; exact ⟨_, hh⟩)
  clear hgw hrow HG1 HB1 HK1 HE
  obtain ⟨q1, q2⟩ := blk1 HX.out
  go_wp2_with (go_at_call 71; (with_reducible refine HDL.out.mono ?_); rintro e w3 ⟨rfl, ho, he, hb⟩; have HO3 := Lib.hid ho; have HE3 := Lib.hid he; have HB3 := Lib.hid (hb w.heap.size (by omega)); obtain ⟨s1, s2⟩ := blk1 ((he w.heap.size (by omega)).trans HX.out); obtain ⟨s3, s4⟩ := blk1 ((he (w.heap.size + 1) (by omega)).trans HR.out); clear ho he hb)
  refine bodyPost_ret (v := .tuple #[.agg #[.slice (some ⟨g, 0, none⟩) (ds.length - 1) vc], .bool true]) (by simp [results, Tryd.results36, go_sem, s3]) rfl ?_
  have hE : ∀ x, x ≠ w.heap.size → x ≠ w.heap.size + 1 → ((w3.setCell ⟨w.heap.size, 0, none⟩ (.slice (some ⟨g, 0, none⟩) (ds.length - 1) vc)).setCell ⟨w.heap.size + 1, 0, none⟩ (.slice (some ⟨g, 0, none⟩) (ds.length - 1) vc)).heap[x]? = w3.heap[x]? := fun x h1 h2 => (Below.heap_setCell _ _ _ _ h2).trans (Below.heap_setCell _ _ _ _ h1)
  have hln : (d1.eraseIdx r).length = ds.length - 1 := by rw [List.length_eraseIdx, if_pos hr1, HN1.out]
  refine ⟨some ⟨g, 0, none⟩, vc, d1.eraseIdx r, by rw [hln], ?_, ?_, ((Below.trans HBW.out (HB3.out)).setCell (p := ⟨w.heap.size, 0, none⟩) (Nat.le_refl _) _).setCell (p := ⟨w.heap.size + 1, 0, none⟩) (by simp) _⟩
  · rw [List.eraseIdx_eq_take_drop_succ, List.map_append, List.map_take, List.map_drop, HD1.out, ← List.map_take, ← List.map_drop, ← List.map_append, ← List.eraseIdx_eq_take_drop_succ]
    rw [List.eraseIdx_eq_take_drop_succ, List.map_append, List.map_take, List.map_drop, ← List.eraseIdx_eq_take_drop_succ]
  · obtain ⟨cs, hcs⟩ := HCS.out
    refine GramOwn.erase HGW.out hr1 hcs _ (fun x hx _ => by have hx : w.heap.size + 2 ≤ x := hx; show w.heap.size ≤ x; omega) (fun x hx _ hxg => ?_) ?_
    · have hx : w.heap.size + 2 ≤ x := hx
      exact (hE x (by omega) (by omega)).trans (HE3.out x hxg)
    · rw [HN1.out]
      exact ⟨own_agree HO3.out (fun x hx => by cases hx; exact hE g (by omega) (by omega)), fun x hx => by cases hx; show w.heap.size ≤ g; omega⟩
end Go.Proofs.YtdcgbcdmkhleoaaDoor
