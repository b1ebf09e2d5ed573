/- The contracts of bonsairef09.With and bonsairef09.Drop. -/
import Derived.Test.YtdcgbcdmkhleoaaDoorIv
import Derived.Deep.RegionLaw
namespace Go.Proofs.YtdcgbcdmkhleoaaDoor
open Go.RowKit
set_option linter.unusedSimpArgs false
set_option linter.unusedVariables false

theorem map_erase_df : ∀ (ds : List Ld) (r : Nat), (ds.eraseIdx r).map Ld.df = (ds.map Ld.df).eraseIdx r
  | [], _ => rfl
  | _ :: _, 0 => rfl
  | d :: ds, r + 1 => by simp only [List.eraseIdx_cons_succ, List.map_cons, map_erase_df ds r]
/-- A row of rules that is told. -/
def RowPost (g : List Df) (w : World) (e : Ending) (w' : World) : Prop := ∃ (V : Option Addr) (vc : Nat) (ds : List Ld), e = .returned (.tuple #[.agg #[.slice V ds.length vc], .bool true]) ∧ ds.map Ld.df = g ∧ dfL.row w' (fun _ => True) V ds ∧ Below w.heap.size w w'

set_option maxRecDepth 100000 in
set_option maxHeartbeats 3200000 in
theorem rwith_no (A : Option Addr) (c : Nat) (ds : List Ld) (r : Int) (t : Lt) (w : World) (hr : r < 0 ∨ (ds.length : Int) ≤ r) :
    Calls Tryd.prog 44 #[.agg #[.slice A ds.length c], .int .i64 r, .agg #[.slice t.A t.ls.length t.c, .int .i64 t.root]] w (NoRule w) := by
  unfold NoRule
  have HB := Lib.hid (bx3 w (.cells #[.slice A ds.length c] 50) (.cells #[.slice t.A t.ls.length t.c, .int .i64 t.root] 24) (.cells #[.slice none 0 0] 50))
  have hk := bx_new ((w.alloc (.cells #[.slice A ds.length c] 50)).alloc (.cells #[.slice t.A t.ls.length t.c, .int .i64 t.root] 24)) (.cells #[.slice none 0 0] 50)
  rw [World.size_alloc, World.size_alloc] at hk
  obtain ⟨s1, s2⟩ := blk1 hk
  have s3 := (blk1 (set_blk1 (u := .slice none 0 0) hk)).1
  clear hk
  go_enter Tryd.func44, Tryd.ntmps44
  by_cases h0 : r < 0
  · have e0 : decide (r < 0) = true := by simpa using h0
    go_wp2_with fail
    exact bodyPost_ret (v := .tuple #[.agg #[.slice none 0 0], .bool false]) (by simp [results, Tryd.results44, go_sem, s1, s3]) rfl ⟨rfl, HB.out⟩
  · have e0 : decide (r < 0) = false := by simpa using h0
    have h1 : (ds.length : Int) ≤ r := by omega
    have e1 : decide ((ds.length : Int) ≤ r) = true := by simpa using h1
    go_wp2_with fail
    exact bodyPost_ret (v := .tuple #[.agg #[.slice none 0 0], .bool false]) (by simp [results, Tryd.results44, go_sem, s1, s3]) rfl ⟨rfl, HB.out⟩

set_option maxRecDepth 100000 in
set_option maxHeartbeats 3200000 in
theorem rdrop_no (A : Option Addr) (c : Nat) (ds : List Ld) (r : Int) (w : World) (hr : r < 0 ∨ (ds.length : Int) ≤ r) :
    Calls Tryd.prog 45 #[.agg #[.slice A ds.length c], .int .i64 r] w (NoRule w) := by
  unfold NoRule
  have HB := Lib.hid (bx2 w (.cells #[.slice A ds.length c] 50) (.cells #[.slice none 0 0] 50))
  have hk := bx_new (w.alloc (.cells #[.slice A ds.length c] 50)) (.cells #[.slice none 0 0] 50)
  rw [World.size_alloc] at hk
  obtain ⟨s1, s2⟩ := blk1 hk
  have s3 := (blk1 (set_blk1 (u := .slice none 0 0) hk)).1
  clear hk
  go_enter Tryd.func45, Tryd.ntmps45
  by_cases h0 : r < 0
  · have e0 : decide (r < 0) = true := by simpa using h0
    go_wp2_with fail
    exact bodyPost_ret (v := .tuple #[.agg #[.slice none 0 0], .bool false]) (by simp [results, Tryd.results45, go_sem, s1, s3]) rfl ⟨rfl, HB.out⟩
  · have e0 : decide (r < 0) = false := by simpa using h0
    have h1 : (ds.length : Int) ≤ r := by omega
    have e1 : decide ((ds.length : Int) ≤ r) = true := by simpa using h1
    go_wp2_with fail
    exact bodyPost_ret (v := .tuple #[.agg #[.slice none 0 0], .bool false]) (by simp [results, Tryd.results45, go_sem, s1, s3]) rfl ⟨rfl, HB.out⟩

set_option maxRecDepth 100000 in
set_option maxHeartbeats 6400000 in
theorem rwith_any (A : Option Addr) (c : Nat) (ds : List Ld) (r : Nat) (t : Lt) (S T : Nat → Prop) (w : World) (hA : dfL.row w S A ds) (hT : t.inn w T) (hl : ds.length ≤ 4294967296) (hr : r < ds.length) :
    Calls Tryd.prog 44 #[.agg #[.slice A ds.length c], .int .i64 r, .agg #[.slice t.A t.ls.length t.c, .int .i64 t.root]] w (RowPost ((ds.map Ld.df).set r ⟨(((ds.map Ld.df)[r]?).map Df.name).getD ⟨#[]⟩, t.tr⟩) w) := by
  obtain ⟨j0, hj, hy0, hy1, hy2⟩ := info_parts infoDef
  have hzc : (Value.agg #[.string ByteArray.empty, .slice none 0 0, .int .i64 0]).cells.size = 3 := rfl
  have HA := Lib.hid hA; have HT := Lib.hid hT
  clear hA hT
  unfold RowPost
  generalize hW : (((w.alloc (.cells #[.slice A ds.length c] 50)).alloc (.cells #[.slice t.A t.ls.length t.c, .int .i64 t.root] 24)).alloc (.cells #[.slice none 0 0] 50)) = W
  have HB0 := Lib.hid (show Below w.heap.size w W from by rw [← hW]; exact bx3 w _ _ _)
  have HK0 := Lib.hid (show W.heap[w.heap.size]? = some (.cells #[.slice A ds.length c] 50 (0, 0)) from by rw [← hW]; exact bx_old (bx_old (bx_new w _)))
  have HK1 := Lib.hid (show W.heap[w.heap.size + 1]? = some (.cells #[.slice t.A t.ls.length t.c, .int .i64 t.root] 24 (0, 0)) from by
    rw [← hW]
    refine bx_old ?_
    have h := bx_new (w.alloc (.cells #[.slice A ds.length c] 50)) (.cells #[.slice t.A t.ls.length t.c, .int .i64 t.root] 24)
    rw [World.size_alloc] at h; exact h)
  have HK2 := Lib.hid (show W.heap[w.heap.size + 1 + 1]? = some (.cells #[.slice none 0 0] 50 (0, 0)) from by
    rw [← hW]
    have h := bx_new ((w.alloc (.cells #[.slice A ds.length c] 50)).alloc (.cells #[.slice t.A t.ls.length t.c, .int .i64 t.root] 24)) (.cells #[.slice none 0 0] 50)
    rw [World.size_alloc, World.size_alloc] at h; exact h)
  have HZ0 := Lib.hid (show W.heap.size = w.heap.size + 3 from by rw [← hW]; simp)
  go_enter Tryd.func44, Tryd.ntmps44
  have e1 : decide ((r : Int) < 0) = false := by simp
  have e2 : decide ((ds.length : Int) ≤ (r : Int)) = false := by simp; omega
  have i3 : (r : Int) < (ds.length : Int) := by omega
  have i4 : (0 : Int) ≤ (r : Int) := by omega
  obtain ⟨p1, _⟩ := blk1 HK0.out
  go_upto_region 3 with (fail)
  clear hW
  have hW0 := heap_lt' HK0.out
  have HOI := Lib.hid (show (W.alloc (.cells #[] 47)).ownsRow W.heap.size 47 3 (.slice (some ⟨W.heap.size, 0, none⟩) 0 0) 0 [] from ⟨rfl, .inr ⟨W.heap.size, 0, #[], rfl, Nat.le_refl _, bx_new W _, Nat.le_refl _, by unfold maxLen; omega, rfl, rfl⟩⟩)
  have FI := Lib.hid (show 0 + ds.length ≤ maxLen ∧ (0 + ds.length) * 48 ≤ 140737488355328 from ⟨by unfold maxLen; omega, by omega⟩)
  have HAW := Lib.hid (HA.out.below HB0.out)
  go_upto_region 4 with (at_builtin; refine wpList_append_at _ rfl (.tmp 19) (.tmp 21) 48 rfl W.heap.size 47 j0 _ 3 48 Tryd.underlying48 hj hy0 hy1 hy2 hzc (by decide) (some ⟨W.heap.size, 0, none⟩) 0 0 [] rfl HOI.out A ds.length c (dfL.all ds) rfl (dfL.all_length _) (HAW.out.below (bx1 W _)).rowAt (dfL.all_one' _) FI.out.1 FI.out.2 (by simp) ?_; intro V vc w3 HO3 HG3 HA3)
  have HOV := Lib.hid (show w3.ownsRow W.heap.size 47 3 (.slice V ds.length vc) ds.length (dfL.all ds) from by have h := HO3.out; rw [Nat.zero_add, List.nil_append] at h; exact h)
  have HC3 := Lib.hid (show ∀ y, y < W.heap.size → w3.heap[y]? = W.heap[y]? from fun y hy => (HG3.out.block y (by simp; omega) (fun e => by have e : some y = some W.heap.size := e; injection e with e; omega)).trans (Below.heap_alloc _ _ y hy))
  have HB3 := Lib.hid (show Below W.heap.size W w3 from (bx1 W _).grown HG3.out (by simp) (fun y hy => by have hy : some W.heap.size = some y := hy; injection hy with hy; omega))
  obtain ⟨g, rfl, hg1, hg2⟩ := own_some HOV.out (by omega)
  try simp only [Nat.zero_add]
  clear HO3 HG3 HA3 HOI p1
  have hz0 := HZ0.out
  obtain ⟨q1, q2, _, _⟩ := blk2 ((HC3.out (w.heap.size + 1) (by omega)).trans HK1.out)
  have HR3 := Lib.hid ((HC3.out (w.heap.size + 1 + 1) (by omega)).trans HK2.out)
  obtain ⟨_, c1, c2⟩ := own_at3 HOV.out r hr
  have f1 := World.ownsRow.frozenAt HOV.out (r * 3 + 1)
  have f2 := World.ownsRow.frozenAt HOV.out (r * 3 + 2)
  go_upto_region 5 with (fail)
  have HK5 := Lib.hid (show ∀ x, x ≠ g → ((w3.setCell ⟨g, r * 3 + 1, none⟩ (.slice t.A t.ls.length t.c)).setCell ⟨g, r * 3 + 2, none⟩ (.int .i64 t.root)).heap[x]? = w3.heap[x]? from fun x hx => (Below.heap_setCell _ _ _ _ hx).trans (Below.heap_setCell _ _ _ _ hx))
  have HO5 := Lib.hid (show ((w3.setCell ⟨g, r * 3 + 1, none⟩ (.slice t.A t.ls.length t.c)).setCell ⟨g, r * 3 + 2, none⟩ (.int .i64 t.root)).ownsRow W.heap.size 47 3 (.slice (some ⟨g, 0, none⟩) ds.length vc) ds.length (dfL.all (ds.set r ⟨ds[r].name, t⟩)) from by
    have h1 := (World.ownsRow.stored (World.ownsRow.stored HOV.out (r * 3 + 1) (.slice t.A t.ls.length t.c)).1 (r * 3 + 2) (.int .i64 t.root)).1
    have h2 := all_set12 ds r hr t
    rw [h2] at h1; exact h1)
  have HB5 := Lib.hid (show Below W.heap.size W ((w3.setCell ⟨g, r * 3 + 1, none⟩ (.slice t.A t.ls.length t.c)).setCell ⟨g, r * 3 + 2, none⟩ (.int .i64 t.root)) from (HB3.out.setCell (p := ⟨g, r * 3 + 1, none⟩) hg1 _).setCell (p := ⟨g, r * 3 + 2, none⟩) hg1 _)
  generalize (w3.setCell ⟨g, r * 3 + 1, none⟩ (.slice t.A t.ls.length t.c)).setCell ⟨g, r * 3 + 2, none⟩ (.int .i64 t.root) = w5 at *
  have HR5 := Lib.hid ((HK5.out (w.heap.size + 1 + 1) (by omega)).trans HR3.out)
  obtain ⟨s1, s2⟩ := blk1 HR5.out
  clear q1 q2 c1 c2 f1 f2
  go_wp2_with fail
  refine bodyPost_ret (v := .tuple #[.agg #[.slice (some ⟨g, 0, none⟩) ds.length vc], .bool true]) (by simp [results, Tryd.results44, go_sem, s1]) rfl ?_
  have hE : ∀ x, x ≠ w.heap.size + 1 + 1 → (w5.setCell ⟨w.heap.size + 1 + 1, 0, none⟩ (.slice (some ⟨g, 0, none⟩) ds.length vc)).heap[x]? = w5.heap[x]? := fun x hx => Below.heap_setCell _ _ _ _ hx
  have hln : (ds.set r ⟨ds[r].name, t⟩).length = ds.length := by rw [List.length_set]
  have hBF : Below w.heap.size w (w5.setCell ⟨w.heap.size + 1 + 1, 0, none⟩ (.slice (some ⟨g, 0, none⟩) ds.length vc)) := (Below.step HB0.out HB5.out).setCell (p := ⟨w.heap.size + 1 + 1, 0, none⟩) (by show w.heap.size ≤ w.heap.size + 1 + 1; omega) _
  refine ⟨some ⟨g, 0, none⟩, vc, ds.set r ⟨ds[r].name, t⟩, by rw [hln], ?_, ⟨?_, fun d hd => ?_⟩, hBF⟩
  · rw [List.map_set]
    congr 1
    show Df.mk ds[r].name t.tr = _
    simp [Ld.df, hr]
  · have h7 : OwnS (w5.setCell ⟨w.heap.size + 1 + 1, 0, none⟩ (.slice (some ⟨g, 0, none⟩) ds.length vc)) (fun _ => True) 47 3 (some ⟨g, 0, none⟩) ds.length vc (dfL.all (ds.set r ⟨ds[r].name, t⟩)) := ⟨own_mono (own_agree HO5.out (fun x hx => by cases hx; exact hE g (by omega))) (Nat.zero_le _), fun _ _ => trivial⟩
    exact h7.row
  · rcases List.mem_or_eq_of_mem_set hd with hd | rfl
    · exact dfL.mono ((HA.out.below hBF).2 d hd) (fun _ _ _ => trivial)
    · exact ⟨(HA.out.2 _ (List.getElem_mem hr)).1, (HT.out.below hBF).mono (fun _ _ _ => trivial)⟩

set_option maxRecDepth 100000 in
set_option maxHeartbeats 6400000 in
theorem rdrop_any (A : Option Addr) (c : Nat) (ds : List Ld) (r : Nat) (S : Nat → Prop) (w : World) (hA : dfL.row w S A ds) (hl : ds.length ≤ 4294967296) (hr : r < ds.length) (hc : ds.length ≤ c) (hcm : c ≤ 9223372036854775807) :
    Calls Tryd.prog 45 #[.agg #[.slice A ds.length c], .int .i64 r] w (RowPost ((ds.map Ld.df).eraseIdx r) w) := by
  obtain ⟨j0, hj, hy0, hy1, hy2⟩ := info_parts infoDef
  have hzc : (Value.agg #[.string ByteArray.empty, .slice none 0 0, .int .i64 0]).cells.size = 3 := rfl
  obtain ⟨b, o, rfl, hcell⟩ : ∃ b o, A = some ⟨b, o, none⟩ ∧ ∀ i (hi : i < ds.length) j u, (dfL.cells ds[i])[j]? = some u → w.cell? ⟨b, o + (i * 3 + j), none⟩ = some u := by
    obtain ⟨b, o, e, _, _, h1⟩ := hA.at (by decide) r hr
    refine ⟨b, o, e, fun i hi j u hu => ?_⟩
    obtain ⟨b', o', e', _, _, h2⟩ := hA.at (by decide) i hi
    rw [e] at e'; cases e'
    exact h2 j u hu
  obtain ⟨A', hA', hrow2⟩ : ∃ A' : Addr, (if c = r + 1 then some (⟨b, o, none⟩ : Addr) else some ⟨b, o + (r + 1) * 3, none⟩) = some A' ∧ RowAt w (some A') (dfL.all (ds.drop (r + 1))) := by
    by_cases h : c = r + 1
    · refine ⟨⟨b, o, none⟩, by simp [h], ?_⟩
      rw [List.drop_of_length_le (by omega)]
      exact fun j u hu => by simp at hu
    · refine ⟨⟨b, o + (r + 1) * 3, none⟩, by simp [h], fun j u hu => ⟨_, rfl, ?_⟩⟩
      have hjl := (List.getElem?_eq_some_iff.1 hu).1
      rw [dfL.all_length, List.length_drop] at hjl
      have hjl : j < (ds.length - (r + 1)) * 3 := hjl
      have hq : j / 3 < (ds.drop (r + 1)).length := by rw [List.length_drop]; omega
      have h1 := dfL.all_at (ds.drop (r + 1)) (j / 3) (j % 3) hq (show j % 3 < 3 by omega)
      rw [show j / 3 * dfL.size + j % 3 = j by show j / 3 * 3 + j % 3 = j; omega] at h1
      rw [h1] at hu
      have h2 := hcell (r + 1 + j / 3) (by rw [List.length_drop] at hq; omega) (j % 3) u (by rw [← hu]; congr 2; simp)
      rw [Addr.add_lit]
      rw [show o + ((r + 1 + j / 3) * 3 + j % 3) = o + (r + 1) * 3 + j by omega] at h2
      exact h2
  have hrow1 : RowAt w (some ⟨b, o, none⟩) (dfL.all (ds.take r)) := fun j u hu => by
    have h1 := dfL.all_take ds r (by omega)
    rw [← h1] at hu
    have hjl := (List.getElem?_eq_some_iff.1 hu).1
    rw [List.length_take] at hjl
    rw [List.getElem?_take, if_pos (show j < r * dfL.size by omega)] at hu
    exact hA.rowAt j u hu
  unfold RowPost
  generalize hW : ((w.alloc (.cells #[.slice (some ⟨b, o, none⟩) ds.length c] 50)).alloc (.cells #[.slice none 0 0] 50)) = W
  have HB0 := Lib.hid (show Below w.heap.size w W from by rw [← hW]; exact bx2 w _ _)
  have HK0 := Lib.hid (show W.heap[w.heap.size]? = some (.cells #[.slice (some ⟨b, o, none⟩) ds.length c] 50 (0, 0)) from by rw [← hW]; exact bx_old (bx_new w _))
  have HK2 := Lib.hid (show W.heap[w.heap.size + 1]? = some (.cells #[.slice none 0 0] 50 (0, 0)) from by
    rw [← hW]
    have h := bx_new (w.alloc (.cells #[.slice (some ⟨b, o, none⟩) ds.length c] 50)) (.cells #[.slice none 0 0] 50)
    rw [World.size_alloc] at h; exact h)
  have HSZ := Lib.hid (show W.heap.size = w.heap.size + 2 from by rw [← hW]; simp)
  have HR1 := Lib.hid (show ∀ w', Below w.heap.size w w' → RowAt w' (some ⟨b, o, none⟩) (dfL.all (ds.take r)) from fun w' hb => hrow1.below hb)
  have HR2 := Lib.hid (show ∀ w', Below w.heap.size w w' → RowAt w' (some A') (dfL.all (ds.drop (r + 1))) from fun w' hb => hrow2.below hb)
  have HA := Lib.hid hA
  clear hA hcell hrow1 hrow2
  go_enter Tryd.func45, Tryd.ntmps45
  have e1 : decide ((r : Int) < 0) = false := by simp
  have e2 : decide ((ds.length : Int) ≤ (r : Int)) = false := by simp; omega
  obtain ⟨p1, _⟩ := blk1 HK0.out
  go_upto_region 3 with (fail)
  clear hW p1 e1 e2
  have HSB := Lib.hid (show ∀ w', Below (w.heap.size + 1) W w' → w'.cell? ⟨w.heap.size, 0, none⟩ = some (.slice (some ⟨b, o, none⟩) ds.length c) ∧ Below (w.heap.size + 1) W w' from fun w' hb => ⟨(hb.cell (by show w.heap.size < _; omega)).trans (blk1 HK0.out).1, hb⟩)
  have HB1 := Lib.hid (show Below (w.heap.size + 1) W (W.alloc (.cells #[] 47)).drew from ((Below.refl _ W).alloc (by have := HSZ.out; omega) _).drew)
  have HO1 := Lib.hid (show (W.alloc (.cells #[] 47)).drew.ownsRow (w.heap.size + 2) 47 3 (.slice (some ⟨W.heap.size, 0, none⟩) 0 0) 0 [] from ⟨rfl, .inr ⟨W.heap.size, 0, #[], rfl, by have := HSZ.out; omega, heap_alloc_new W _, Nat.le_refl _, by unfold maxLen; omega, rfl, rfl⟩⟩)
  have HZ1 := Lib.hid (show w.heap.size + 2 ≤ (W.alloc (.cells #[] 47)).drew.heap.size from by have := HSZ.out; show _ ≤ (W.alloc _).heap.size; simp; omega)
  have hic : r ≤ c := by omega
  have hjc : r + 1 ≤ c := by omega
  have hrn : r + 1 ≤ ds.length := by omega
  have hj1 : (0 : Int) ≤ (r : Int) + 1 := by omega
  have hj2 : (r : Int) + 1 ≤ (ds.length : Int) := by omega
  have hj0 : (0 : Int) ≤ (r : Int) := by omega
  have hj3 : (r : Int) ≤ (c : Int) := by omega
  have hj4 : (ds.length : Int) ≤ (c : Int) := by omega
  have hw1 : IntKind.i64.wrap ((r : Int) + 1) = (r : Int) + 1 := IntWalk.i64_in _ (by omega)
  have HF1 := Lib.hid (show 0 + r ≤ maxLen ∧ (0 + r) * 48 ≤ 140737488355328 ∧ 0 + r + (ds.length - (r + 1)) ≤ maxLen ∧ (0 + r + (ds.length - (r + 1))) * 48 ≤ 140737488355328 from ⟨by unfold maxLen; omega, by omega, by unfold maxLen; omega, by omega⟩)
  go_region_held3 (fun w' => w'.cell? ⟨w.heap.size, 0, none⟩ = some (.slice (some ⟨b, o, none⟩) ds.length c) ∧ Below (w.heap.size + 1) W w')
    (first | exact HSB.out _ (Below.refl _ _).drew | exact HSB.out _ HB1.out | exact HSB.out _ HB2.out | exact HSB.out _ HB3.out | exact HSB.out _ (HB3.out.setCell (p := ⟨w.heap.size + 1, 0, none⟩) (by show w.heap.size + 1 ≤ w.heap.size + 1; omega) _))
    (first
      | (refine step_append_at (by rfl) (.tmp 16) (.tmp 20) 48 (by rfl) (w.heap.size + 2) 47 j0 (.agg #[.string ByteArray.empty, .slice none 0 0, .int .i64 0]) 3 48 Tryd.underlying48 hj hy0 hy1 hy2 hzc (by decide) (some ⟨W.heap.size, 0, none⟩) 0 0 [] (by rfl) HO1.out (some ⟨b, o, none⟩) r c (dfL.all (ds.take r)) (by simp [Act.eval, Act.put]) (by rw [dfL.all_length, List.length_take]; congr 1; omega) (HR1.out _ (HB0.out.trans (HB1.out.mono (by omega)))) (dfL.all_one' _) HF1.out.1 HF1.out.2.1 HZ1.out ?_; intro V2 vc2 w2 HO2 HG2 HA2; have HB2 := Lib.hid (HB1.out.grown HG2.out (by have := HZ1.out; omega) (fun k e => by have := (own_blk HO1.out k e).1; omega)); have HZ2 := Lib.hid (show w.heap.size + 2 ≤ w2.heap.size by have := HG2.out.size; have := HZ1.out; omega); have HKX2 := Lib.hid (show w2.heap[w.heap.size + 1]? = some (.cells #[.slice none 0 0] 50 (0, 0)) from (HG2.out.block _ (by have := HZ1.out; omega) (fun e => by have := (own_blk HO1.out _ e.symm).1; omega)).trans ((Below.heap_alloc W _ _ (by have := HSZ.out; omega)).trans HK2.out)))
      | (refine step_append_at (by rfl) (.tmp 21) (.tmp 26) 48 (by rfl) (w.heap.size + 2) 47 j0 (.agg #[.string ByteArray.empty, .slice none 0 0, .int .i64 0]) 3 48 Tryd.underlying48 hj hy0 hy1 hy2 hzc (by decide) V2 vc2 (0 + r) ([] ++ dfL.all (ds.take r)) (by rfl) HO2.out (some A') (ds.length - (r + 1)) (c - (r + 1)) (dfL.all (ds.drop (r + 1))) (by simp [Act.eval, Act.put, ← hA']) (by rw [dfL.all_length, List.length_drop]; rfl) (HR2.out _ (HB0.out.trans (HB2.out.mono (by omega)))) (dfL.all_one' _) HF1.out.2.2.1 HF1.out.2.2.2 HZ2.out ?_; intro V3 vc3 w3 HO3 HG3 HA3; have HB3 := Lib.hid (HB2.out.grown HG3.out (by have := HZ2.out; omega) (fun k e => by have := (own_blk HO2.out k e).1; omega)); have HK3 := Lib.hid ((HG3.out.block (w.heap.size + 1) (by have := HZ2.out; omega) (fun e => by have := (own_blk HO2.out _ e.symm).1; omega)).trans HKX2.out); obtain ⟨s1, s2⟩ := blk1 HK3.out))
  go_wp2_with fail
  refine bodyPost_ret (v := .tuple #[.agg #[.slice V3 (r + (ds.length - (r + 1))) vc3], .bool true]) (by simp [results, Tryd.results45, go_sem, s1]) rfl ?_
  have hE : ∀ x, x ≠ w.heap.size + 1 → (w3.setCell ⟨w.heap.size + 1, 0, none⟩ (.slice V3 (r + (ds.length - (r + 1))) vc3)).heap[x]? = w3.heap[x]? := fun x hx => Below.heap_setCell _ _ _ _ hx
  have hln : (ds.eraseIdx r).length = r + (ds.length - (r + 1)) := by rw [List.length_eraseIdx, if_pos hr]; omega
  have hBF : Below w.heap.size w (w3.setCell ⟨w.heap.size + 1, 0, none⟩ (.slice V3 (r + (ds.length - (r + 1))) vc3)) := (HB0.out.trans (HB3.out.mono (by omega))).setCell (p := ⟨w.heap.size + 1, 0, none⟩) (by show w.heap.size ≤ w.heap.size + 1; omega) _
  have ho := HO3.out
  rw [Nat.zero_add, List.nil_append, ← Lay.all_append, ← List.eraseIdx_eq_take_drop_succ] at ho
  refine ⟨V3, vc3, ds.eraseIdx r, by rw [hln], by exact map_erase_df ds r, ⟨?_, fun d hd => ?_⟩, hBF⟩
  · have h7 : OwnS (w3.setCell ⟨w.heap.size + 1, 0, none⟩ (.slice V3 (r + (ds.length - (r + 1))) vc3)) (fun _ => True) 47 3 V3 (r + (ds.length - (r + 1))) vc3 (dfL.all (ds.eraseIdx r)) := ⟨own_mono (own_agree ho (fun x hx => hE x (by have := (own_blk ho x hx).1; omega))) (Nat.zero_le _), fun _ _ => trivial⟩
    exact h7.row
  · exact dfL.mono ((HA.out.below hBF).2 d (List.mem_of_mem_eraseIdx hd)) (fun _ _ _ => trivial)
end Go.Proofs.YtdcgbcdmkhleoaaDoor
