/- The contracts of the law's told, and of bonsairef30.Apply. -/
import Derived.Test.YtbfjanfhgpgmdaaDoorDw
import Derived.Test.YtbfjanfhgpgmdaaDoorDx
import Derived.Test.YtbfjanfhgpgmdaaDoorDy
import Derived.Test.YtbfjanfhgpgmdaaDoorEj
namespace Go.Proofs.YtbfjanfhgpgmdaaDoor
open Go.RowKit
set_option linter.unusedSimpArgs false
set_option linter.unusedVariables false

theorem infoRedit : (Tryd.prog.info? 44).map (fun i => (i.zero, i.size, i.bytes)) = some (some (.agg #[.int .u8 0, .string ByteArray.empty, .slice none 0 0, .int .i64 0]), 4, 56) := by kernel_rfl
/-- The edits told: the same rules, in a row of the call's own. -/
def ToldPost (es : List Le) (S : Nat → Prop) (w : World) (e : Ending) (w' : World) : Prop := ∃ (V : Option Addr) (vc : Nat), e = .returned (.slice V es.length vc) ∧ edL.row w' (fun x => S x ∨ w.heap.size ≤ x) V es ∧ Below w.heap.size w w'
def ToldRel (w : World) (H : Nat) (es : List Le) (i l : Value) (wr : World) : Prop :=
  ∃ (k : Nat) (V : Option Addr) (vc : Nat), k ≤ es.length ∧ i = .int .i64 k ∧ l = .slice V k vc ∧ Hid (wr.ownsRow H 44 4 (.slice V k vc) k (edL.all (es.take k))) ∧ Hid (Below H w wr)
set_option maxRecDepth 100000 in
set_option maxHeartbeats 12800000 in
theorem told_any (es : List Le) (A : Option Addr) (c : Nat) (S : Nat → Prop) (w : World) (hA : edL.row w S A es) (hl : es.length ≤ 100000) :
    Calls Tryd.prog 19 #[.slice A es.length c] w (ToldPost es S w) := by
  obtain ⟨j0, hj, hy0, hy1, hy2⟩ := info_parts infoRedit
  have hzc : (Value.agg #[.int .u8 0, .string ByteArray.empty, .slice none 0 0, .int .i64 0]).cells.size = 4 := rfl
  have HA := Lib.hid hA; clear hA
  go_enter Tryd.func19, Tryd.ntmps19
  go_wp2_with fail
  go_loopw [4, 3] (fun i l wr => ToldRel w w.heap.size es i l wr) (fun i _ _ => es.length - (intOf i).toNat)
  case atStart => exact ⟨0, none, 0, Nat.zero_le _, rfl, rfl, Lib.hid (World.ownsRow_nil _ _ _ _), Lib.hid (Below.refl _ _)⟩
  case round =>
    obtain ⟨k, V, vc, hk, rfl, rfl, HOW, HB⟩ := hrel
    by_cases hlt : k < es.length
    · have i1 : (k : Int) < (es.length : Int) := by omega
      have i2 : (0 : Int) ≤ (k : Int) := by omega
      obtain ⟨eb, eo, rfl, _, _, x0, x1, x2, x3⟩ := edRow (HA.out.below HB.out) k hlt
      have HTK := Lib.hid (show es.take (k + 1) = es.take k ++ [es[k]] from List.take_succ_eq_append_getElem hlt)
      generalize es[k] = ee at *
      obtain ⟨kd, x⟩ := ee
      simp only at x0 x1 x2 x3
      have HF := Lib.hid (show k + 1 ≤ maxLen ∧ (k + 1) * 56 ≤ 140737488355328 from ⟨by unfold maxLen; omega, by omega⟩)
      have HZ := Lib.hid HB.out.size
      as_aux_lemma =>
        go_wp2_with (at_builtin; refine wpList_append_at _ rfl (.tmp 11) (.tmp 16) 46 rfl w.heap.size 44 j0 (.agg #[.int .u8 0, .string ByteArray.empty, .slice none 0 0, .int .i64 0]) 4 56 Tryd.underlying46 hj hy0 hy1 hy2 hzc (by decide) V vc k (edL.all (es.take k)) rfl (World.ownsRow.alloc HOW.out _) (some ⟨wr.heap.size, 0, none⟩) 1 1 [.int .u8 kd, .string x.name, .slice x.t.A x.t.ls.length x.t.c, .int .i64 x.t.root] rfl rfl (row_blk (bx_new _ _)) (ed_one _ _ _ _ _ _) HF.out.1 HF.out.2 (by have := HZ.out; simp; omega) ?_; intro V4 vc4 w4 HO4 HG4 HA4)
        have ho := HO4.out
        rw [show edL.all (es.take k) ++ [Value.int .u8 kd, .string x.name, .slice x.t.A x.t.ls.length x.t.c, .int .i64 x.t.root] = edL.all (es.take (k + 1)) by rw [HTK.out, edL.all_append, edL.all_one]; rfl] at ho
        have hz := HZ.out
        have hb : Below w.heap.size w w4 := (HB.out.trans ((bx1 wr _).mono (by omega))).grown HG4.out (by simp; omega) (fun y hy => (own_blk HOW.out y hy).1)
        exact ⟨⟨k + 1, V4, vc4, by omega, by go_num, rfl, Lib.hid ho, Lib.hid hb⟩, by simp only [intOf]; omega⟩
    · obtain rfl : k = es.length := by omega
      have HR := Lib.hid (show edL.row wr (fun x => S x ∨ w.heap.size ≤ x) V es from by
        have h := HOW.out
        rw [List.take_length] at h
        exact ⟨own_rowIn h (fun ad e => .inr (own_blk h ad.block (by rw [e]; rfl)).1), fun d hd => edL.mono (edL.agree (HA.out.2 d hd) (below_all HB.out)) (fun _ _ hs => .inl hs)⟩)
      go_wp2_with fail
      go_ret
      exact ⟨V, vc, rfl, HR.out, HB.out⟩
/-- What the reference's Apply makes. -/
def RedPost (r : List Df × Int) (S T : Nat → Prop) (w : World) (e : Ending) (w' : World) : Prop := ∃ (V : Option Addr) (vc : Nat) (ds : List Ld), e = .returned (.tuple #[.agg #[.slice V ds.length vc], .int .i64 r.2]) ∧ ds.map Ld.df = r.1 ∧ dfL.row w' (fun x => S x ∨ T x ∨ w.heap.size ≤ x) V ds ∧ ds.length ≤ 281474976710656 ∧ Below w.heap.size w w'
def RedRel (w : World) (H : Nat) (S T : Nat → Prop) (A : Option Addr) (c : Nat) (ds : List Ld) (es : List Le) (i p : Value) (wr : World) : Prop :=
  ∃ (i' p' n : Nat) (V : Option Addr) (vc : Nat), i' ≤ es.length ∧ n ≤ i' ∧ p' ≤ ds.length ∧ i = .int .i64 i' ∧ p = .int .i64 p' ∧
    Hid (∃ made : List Ld, made.length = n ∧ applyL (ds.map Ld.df) (es.map Le.ed) = joinA (made.map Ld.df) (applyL ((ds.map Ld.df).drop p') ((es.map Le.ed).drop i')) ∧ (∀ d ∈ made, dfL.inn w S d ∨ dfL.inn w T d) ∧ wr.ownsRow (H + 3) 36 3 (.slice V n vc) n (dfL.all made)) ∧
    Hid (wr.heap[H + 1 + 1]? = some (.cells #[.slice V n vc] 24 (0, 0))) ∧ Hid (wr.heap[H]? = some (.cells #[.slice A ds.length c] 24 (0, 0))) ∧ Hid (wr.heap[H + 1]? = some (.cells #[.slice none 0 0] 24 (0, 0))) ∧ Hid (Below H w wr) ∧ Hid (H + 3 ≤ wr.heap.size)
set_option maxRecDepth 100000 in
set_option maxHeartbeats 12800000 in
theorem redapply_any (A L : Option Addr) (c lc : Nat) (ds : List Ld) (es : List Le) (S T : Nat → Prop) (w : World) (hA : dfL.row w S A ds) (hL : edL.row w T L es) (hl : ds.length ≤ 100000) (hel : es.length ≤ 100000) :
    Calls Tryd.prog 18 #[.agg #[.slice A ds.length c], .slice L es.length lc] w (RedPost (applyL (ds.map Ld.df) (es.map Le.ed)) S T w) := by
  obtain ⟨j0, hj, hy0, hy1, hy2⟩ := info_parts infoDef
  have hzc : (Value.agg #[.string ByteArray.empty, .slice none 0 0, .int .i64 0]).cells.size = 3 := rfl
  have HA := Lib.hid hA; have HL := Lib.hid hL
  clear hA hL
  unfold RedPost
  have HW := Lib.hid (bx3 w (.cells #[.slice A ds.length c] 24) (.cells #[.slice none 0 0] 24) (.cells #[.slice none 0 0] 24))
  have HK0 := Lib.hid (bx_old (p := .cells #[.slice none 0 0] 24) (bx_old (p := .cells #[.slice none 0 0] 24) (bx_new w (.cells #[.slice A ds.length c] 24))))
  have HK1 := Lib.hid (bx_old (p := .cells #[.slice none 0 0] 24) (bx_new (w.alloc (.cells #[.slice A ds.length c] 24)) (.cells #[.slice none 0 0] 24)))
  have HK2 := Lib.hid (bx_new ((w.alloc (.cells #[.slice A ds.length c] 24)).alloc (.cells #[.slice none 0 0] 24)) (.cells #[.slice none 0 0] 24))
  simp only [World.size_alloc] at HK1 HK2
  have HZ0 := Lib.hid (show w.heap.size + 3 ≤ (((w.alloc (.cells #[.slice A ds.length c] 24)).alloc (.cells #[.slice none 0 0] 24)).alloc (.cells #[.slice none 0 0] 24)).heap.size from by simp)
  go_enter Tryd.func18, Tryd.ntmps18
  go_wp2_with fail
  generalize (((w.alloc (.cells #[.slice A ds.length c] 24)).alloc (.cells #[.slice none 0 0] 24)).alloc (.cells #[.slice none 0 0] 24)) = W at *
  go_loopw [8, 7] (fun i p wr => RedRel w w.heap.size S T A c ds es i p wr) (fun i _ _ => es.length - (intOf i).toNat)
  case atStart =>
    exact ⟨0, 0, 0, none, 0, Nat.zero_le _, Nat.zero_le _, Nat.zero_le _, rfl, rfl, Lib.hid ⟨[], rfl, by simp [joinA_nil _ (applyL_bad _ _)], by simp, World.ownsRow_nil _ _ _ _⟩, HK2, HK0, HK1, HW, HZ0⟩
  case round =>
    clear HK0 HK1 HK2 HZ0 HW
    obtain ⟨i, p, n, V, vc, hi, hn, hp, rfl, rfl, HM, HKW, HKA, HKR, HB, HZ⟩ := hrel
    by_cases hlt : i < es.length
    · obtain ⟨made, rfl, hap, hmi, hown⟩ := HM.out
      clear HM
      have i1 : (i : Int) < (es.length : Int) := by omega
      have i2 : (0 : Int) ≤ (i : Int) := by omega
      obtain ⟨eb, eo, rfl, _, _, x0, x1, x2, x3⟩ := edRow (HL.out.agree (below_all HB.out)) i hlt
      have HIN := Lib.hid (HL.out.sub i hlt)
      have hst : (es.map Le.ed).drop i = es[i].ed :: (es.map Le.ed).drop (i + 1) := by rw [List.drop_eq_getElem_cons (by simpa using hlt)]; simp
      rw [hst] at hap
      have HAP := Lib.hid hap
      clear hst hap
      generalize es[i] = e at *
      obtain ⟨kd, dd⟩ := e
      simp only at x0 x1 x2 x3
      cases hmay : mayE (Le.ed ⟨kd, dd⟩)
      · have HR := Lib.hid (show applyL (ds.map Ld.df) (es.map Le.ed) = ([], 4) from by rw [HAP.out, ap_bad _ _ hmay]; rfl)
        as_aux_lemma =>
          go_wp2_with (go_at_call 17; refine (redmay_any ⟨kd, dd⟩ _ HIN.out.1).mono ?_; rintro e w2 ⟨rfl, hb⟩; rw [hmay]; have HB2 := Lib.hid (HB.out.trans (hb.mono HB.out.size)); obtain ⟨s1, s2⟩ := blk1 (bx_kept hb HKR.out); clear hb)
          refine bodyPost_ret (v := .tuple #[.agg #[.slice none 0 0], .int .i64 4]) (by simp [results, Tryd.results18, go_sem, s1]) rfl ?_
          rw [HR.out]
          exact ⟨none, 0, [], rfl, rfl, Lay.row.nil _ _ _, by simp, HB2.out.setCell (p := ⟨w.heap.size + 1, 0, none⟩) (by simp) _⟩
      · have HMY := Lib.hid hmay
        have hkk := mayE_kind hmay
        rcases hkk with hk0 | hk0 | hk0
        · obtain rfl : kd = 0 := hk0
          by_cases hpl : p < ds.length
          · have i3 : (p : Int) < (ds.length : Int) := by omega
            have i4 : (0 : Int) ≤ (p : Int) := by omega
            have HDP := Lib.hid (show (ds.map Ld.df).drop p = ds[p].df :: (ds.map Ld.df).drop (p + 1) from by rw [List.drop_eq_getElem_cons (by simpa using hpl)]; simp)
            obtain ⟨ab, ao, rfl, _, _, y0, y1, y2⟩ := dfRow (HA.out.agree (below_all HB.out)) p hpl
            have HIX := Lib.hid (HA.out.sub p hpl)
            generalize ds[p] = x at *
            as_aux_lemma =>
              go_upto_region 13 with (go_at_call 17; refine (redmay_any ⟨0, dd⟩ _ HIN.out.1).mono ?_; rintro e w2 ⟨rfl, hb⟩; rw [hmay]; have HB2 := Lib.hid hb; have x0' := (hb.cell (cellLt x0)).trans x0; have x1' := (hb.cell (cellLt x1)).trans x1; have x2' := (hb.cell (cellLt x2)).trans x2; have x3' := (hb.cell (cellLt x3)).trans x3; obtain ⟨p1, p2⟩ := blk1 (bx_kept hb HKW.out); obtain ⟨a1, _⟩ := blk1 (bx_kept hb HKA.out); clear hb)
              have HBw := Lib.hid (HB.out.trans (HB2.out.mono HB.out.size))
              have HOw := Lib.hid (own_belowA hown HB2.out)
              have HKWw := Lib.hid (bx_kept HB2.out HKW.out); have HKAw := Lib.hid (bx_kept HB2.out HKA.out); have HKRw := Lib.hid (bx_kept HB2.out HKR.out)
              have HZw := Lib.hid (show w.heap.size + 3 ≤ w2.heap.size from Nat.le_trans HZ.out HB2.out.size)
              have y0' := (HB2.out.cell (cellLt y0)).trans y0; have y1' := (HB2.out.cell (cellLt y1)).trans y1; have y2' := (HB2.out.cell (cellLt y2)).trans y2
              have z1 := cellLt y0'
              clear y0 y1 y2 x0 x1 x2 x3
              have HVN := Lib.hid (show ∀ y, blkOf V = some y → w.heap.size + 3 ≤ y from fun y hy => (own_blk hown y hy).1)
              have HF := Lib.hid (show made.length + 1 ≤ maxLen ∧ (made.length + 1) * 48 ≤ 140737488355328 from ⟨by unfold maxLen; omega, by omega⟩)
              have HOW2 := Lib.hid (show (w2.drew.alloc (.cells #[.string x.name, .slice x.t.A x.t.ls.length x.t.c, .int .i64 x.t.root] 36)).ownsRow (w.heap.size + 3) 36 3 (.slice V made.length vc) made.length (dfL.all made) from World.ownsRow.alloc (own_agree HOw.out (fun _ _ => rfl)) _)
              have HKB2 := Lib.hid (show (w2.drew.alloc (.cells #[.string x.name, .slice x.t.A x.t.ls.length x.t.c, .int .i64 x.t.root] 36)).heap[w.heap.size + 1 + 1]? = some (.cells #[.slice V made.length vc] 24 (0, 0)) from bx_old (w := w2.drew) (by have h := HKWw.out; exact h))
              have hHw : w.heap.size + 1 + 1 < w2.heap.size := by have := HZw.out; omega
              clear hown
              go_region_law ((refine step_append_at (by rfl) (.tmp 51) (.tmp 57) 22 (by rfl) (w.heap.size + 3) 36 j0 (.agg #[.string ByteArray.empty, .slice none 0 0, .int .i64 0]) 3 48 Tryd.underlying22 hj hy0 hy1 hy2 hzc (by decide) V vc made.length (dfL.all made) (by rfl) HOW2.out (some ⟨w2.heap.size, 0, none⟩) 1 1 [.string x.name, .slice x.t.A x.t.ls.length x.t.c, .int .i64 x.t.root] (by rfl) rfl (row_blk (bx_new w2.drew _)) (fun u hu => by simp only [List.mem_cons, List.not_mem_nil, or_false] at hu; rcases hu with rfl | rfl | rfl <;> rfl) HF.out.1 HF.out.2 (by have := HZw.out; simp; omega) ?_; intro V' vc' w7 HO7 HG7 HA7; have HK7 := Lib.hid ((HG7.out.block (w.heap.size + 1 + 1) (heap_lt' HKB2.out) (fun e => by have := HVN.out _ e.symm; omega)).trans HKB2.out); obtain ⟨t1, t2⟩ := blk1 HK7.out))
              all_goals
                clear p1 p2 a1 y0' y1' y2' x0' x1' x2' x3'
                go_wp2_with fail
                have hz := HZw.out
                have ho7 := HO7.out
                rw [show dfL.all made ++ [Value.string x.name, .slice x.t.A x.t.ls.length x.t.c, .int .i64 x.t.root] = dfL.all (made ++ [x]) by rw [dfL.all_append, dfL.all_one]; rfl] at ho7
                have hkeep : ∀ y, y < w2.heap.size → y ≠ w.heap.size + 1 + 1 → blkOf V ≠ some y → (w7.setCell ⟨w.heap.size + 1 + 1, 0, none⟩ (.slice V' (made.length + 1) vc')).heap[y]? = w2.heap[y]? := fun y h1 h2 h3 => (Below.heap_setCell _ _ _ _ h2).trans ((HG7.out.block y (by simp; omega) (fun e => h3 e.symm)).trans (by first | exact Below.heap_alloc w2 _ y h1 | exact Below.heap_alloc w2.drew _ y h1))
                have h5 : Below w.heap.size w (w7.setCell ⟨w.heap.size + 1 + 1, 0, none⟩ (.slice V' (made.length + 1) vc')) := by
                  refine Below.setCell (p := ⟨w.heap.size + 1 + 1, 0, none⟩) ?_ (by show w.heap.size ≤ w.heap.size + 1 + 1; omega) _
                  have h6 : Below w.heap.size w (w2.alloc (.cells #[.string x.name, .slice x.t.A x.t.ls.length x.t.c, .int .i64 x.t.root] 36)) := HBw.out.trans ((bx1 w2 _).mono (by omega))
                  first
                    | exact (h6.drew).grown HG7.out (by simp; omega) (fun y hy => by have := HVN.out y hy; omega)
                    | exact (show Below w.heap.size w (w2.drew.alloc _) from ⟨h6.1, h6.2, h6.3, h6.4, h6.5⟩).grown HG7.out (by simp; omega) (fun y hy => by have := HVN.out y hy; omega)
                have hrel' : RedRel w w.heap.size S T (some ⟨ab, ao, none⟩) c ds es (.int .i64 ((i : Int) + 1)) (.int .i64 ((p : Int) + 1)) (w7.setCell ⟨w.heap.size + 1 + 1, 0, none⟩ (.slice V' (made.length + 1) vc')) := ⟨i + 1, p + 1, made.length + 1, V', vc', by omega, by omega, by omega, by go_num, by first | rfl | go_num, Lib.hid ⟨made ++ [x], by simp, by rw [HAP.out, HDP.out, ap_keep _ _ _ HMY.out rfl, joinA_join]; simp, fun dd hd => by
                  rcases List.mem_append.1 hd with hd | hd
                  · exact hmi dd hd
                  · simp only [List.mem_singleton] at hd; subst hd; exact Or.inl HIX.out, own_agree ho7 (fun y hy => Below.heap_setCell _ _ _ _ (by have := (own_blk ho7 y hy).1; show y ≠ w.heap.size + 1 + 1; omega))⟩, Lib.hid (set_blk1 HK7.out), Lib.hid ((hkeep _ (by omega) (by omega) (fun e => by have := HVN.out _ e; omega)).trans HKAw.out), Lib.hid ((hkeep _ (by omega) (by omega) (fun e => by have := HVN.out _ e; omega)).trans HKRw.out), Lib.hid h5, Lib.hid (by have := HG7.out.size; simp at this; simp; omega)⟩
                refine ⟨?_, by simp only [intOf]; omega⟩
                first
                  | exact hrel'
                  | exact ⟨_, _, hrel', rfl, rfl⟩
                  | exact ⟨_, hrel', rfl⟩
          · have HDN := Lib.hid (show (ds.map Ld.df).drop p = [] from List.drop_of_length_le (by simp; omega))
            have HR := Lib.hid (show applyL (ds.map Ld.df) (es.map Le.ed) = ([], 5) from by rw [HAP.out, HDN.out, ap_none _ hmay (by simp [Le.ed])]; rfl)
            have i3 : (ds.length : Int) ≤ (p : Int) := by omega
            as_aux_lemma =>
              go_wp2_with (go_at_call 17; refine (redmay_any ⟨0, dd⟩ _ HIN.out.1).mono ?_; rintro e w2 ⟨rfl, hb⟩; rw [hmay]; have HB2 := Lib.hid (HB.out.trans (hb.mono HB.out.size)); have x0' := (hb.cell (cellLt x0)).trans x0; have x1' := (hb.cell (cellLt x1)).trans x1; have x2' := (hb.cell (cellLt x2)).trans x2; have x3' := (hb.cell (cellLt x3)).trans x3; obtain ⟨a1, _⟩ := blk1 (bx_kept hb HKA.out); obtain ⟨s1, s2⟩ := blk1 (bx_kept hb HKR.out); clear hb)
              refine bodyPost_ret (v := .tuple #[.agg #[.slice none 0 0], .int .i64 5]) (by simp [results, Tryd.results18, go_sem, s1]) rfl ?_
              rw [HR.out]
              exact ⟨none, 0, [], rfl, rfl, Lay.row.nil _ _ _, by simp, HB2.out.setCell (p := ⟨w.heap.size + 1, 0, none⟩) (by simp) _⟩
        · obtain rfl : kd = 1 := hk0
          by_cases hpl : p < ds.length
          · have i3 : (p : Int) < (ds.length : Int) := by omega
            have i5 : ¬ (ds.length : Int) ≤ (p : Int) := by omega
            have HDP := Lib.hid (show (ds.map Ld.df).drop p = ds[p].df :: (ds.map Ld.df).drop (p + 1) from by rw [List.drop_eq_getElem_cons (by simpa using hpl)]; simp)
            as_aux_lemma =>
              go_wp2_with (go_at_call 17; refine (redmay_any ⟨1, dd⟩ _ HIN.out.1).mono ?_; rintro e w2 ⟨rfl, hb⟩; rw [hmay]; have HB2 := Lib.hid hb; have x0' := (hb.cell (cellLt x0)).trans x0; have x1' := (hb.cell (cellLt x1)).trans x1; have x2' := (hb.cell (cellLt x2)).trans x2; have x3' := (hb.cell (cellLt x3)).trans x3; obtain ⟨a1, _⟩ := blk1 (bx_kept hb HKA.out); clear hb)
              exact ⟨⟨i + 1, p + 1, made.length, V, vc, by omega, by omega, by omega, by go_num, by go_num, Lib.hid ⟨made, rfl, by rw [HAP.out, HDP.out, ap_del _ _ _ HMY.out rfl], hmi, own_belowA hown HB2.out⟩, Lib.hid (bx_kept HB2.out HKW.out), Lib.hid (bx_kept HB2.out HKA.out), Lib.hid (bx_kept HB2.out HKR.out), Lib.hid (HB.out.trans (HB2.out.mono HB.out.size)), Lib.hid (Nat.le_trans HZ.out HB2.out.size)⟩, by simp only [intOf]; omega⟩
          · have HDN := Lib.hid (show (ds.map Ld.df).drop p = [] from List.drop_of_length_le (by simp; omega))
            have HR := Lib.hid (show applyL (ds.map Ld.df) (es.map Le.ed) = ([], 5) from by rw [HAP.out, HDN.out, ap_none _ hmay (by simp [Le.ed])]; rfl)
            have i3 : (ds.length : Int) ≤ (p : Int) := by omega
            as_aux_lemma =>
              go_wp2_with (go_at_call 17; refine (redmay_any ⟨1, dd⟩ _ HIN.out.1).mono ?_; rintro e w2 ⟨rfl, hb⟩; rw [hmay]; have HB2 := Lib.hid (HB.out.trans (hb.mono HB.out.size)); have x0' := (hb.cell (cellLt x0)).trans x0; have x1' := (hb.cell (cellLt x1)).trans x1; have x2' := (hb.cell (cellLt x2)).trans x2; have x3' := (hb.cell (cellLt x3)).trans x3; obtain ⟨a1, _⟩ := blk1 (bx_kept hb HKA.out); obtain ⟨s1, s2⟩ := blk1 (bx_kept hb HKR.out); clear hb)
              refine bodyPost_ret (v := .tuple #[.agg #[.slice none 0 0], .int .i64 5]) (by simp [results, Tryd.results18, go_sem, s1]) rfl ?_
              rw [HR.out]
              exact ⟨none, 0, [], rfl, rfl, Lay.row.nil _ _ _, by simp, HB2.out.setCell (p := ⟨w.heap.size + 1, 0, none⟩) (by simp) _⟩
        · obtain rfl : kd = 2 := hk0
          as_aux_lemma =>
            go_upto_region 9 with (go_at_call 17; refine (redmay_any ⟨2, dd⟩ _ HIN.out.1).mono ?_; rintro e w2 ⟨rfl, hb⟩; rw [hmay]; have HB2 := Lib.hid hb; have x0' := (hb.cell (cellLt x0)).trans x0; have x1' := (hb.cell (cellLt x1)).trans x1; have x2' := (hb.cell (cellLt x2)).trans x2; have x3' := (hb.cell (cellLt x3)).trans x3; obtain ⟨p1, p2⟩ := blk1 (bx_kept hb HKW.out); obtain ⟨a1, _⟩ := blk1 (bx_kept hb HKA.out); clear hb)
            have HBw := Lib.hid (HB.out.trans (HB2.out.mono HB.out.size))
            have HOw := Lib.hid (own_belowA hown HB2.out)
            have HKWw := Lib.hid (bx_kept HB2.out HKW.out); have HKAw := Lib.hid (bx_kept HB2.out HKA.out); have HKRw := Lib.hid (bx_kept HB2.out HKR.out)
            have HZw := Lib.hid (show w.heap.size + 3 ≤ w2.heap.size from Nat.le_trans HZ.out HB2.out.size)
            have z1 := cellLt x1'
            clear x0 x1 x2 x3
            have HVN := Lib.hid (show ∀ y, blkOf V = some y → w.heap.size + 3 ≤ y from fun y hy => (own_blk hown y hy).1)
            have HF := Lib.hid (show made.length + 1 ≤ maxLen ∧ (made.length + 1) * 48 ≤ 140737488355328 from ⟨by unfold maxLen; omega, by omega⟩)
            have HOW2 := Lib.hid (show (w2.drew.alloc (.cells #[.string dd.name, .slice dd.t.A dd.t.ls.length dd.t.c, .int .i64 dd.t.root] 36)).ownsRow (w.heap.size + 3) 36 3 (.slice V made.length vc) made.length (dfL.all made) from World.ownsRow.alloc (own_agree HOw.out (fun _ _ => rfl)) _)
            have HKB2 := Lib.hid (show (w2.drew.alloc (.cells #[.string dd.name, .slice dd.t.A dd.t.ls.length dd.t.c, .int .i64 dd.t.root] 36)).heap[w.heap.size + 1 + 1]? = some (.cells #[.slice V made.length vc] 24 (0, 0)) from bx_old (w := w2.drew) (by have h := HKWw.out; exact h))
            have hHw : w.heap.size + 1 + 1 < w2.heap.size := by have := HZw.out; omega
            clear hown
            go_region_law ((refine step_append_at (by rfl) (.tmp 29) (.tmp 35) 22 (by rfl) (w.heap.size + 3) 36 j0 (.agg #[.string ByteArray.empty, .slice none 0 0, .int .i64 0]) 3 48 Tryd.underlying22 hj hy0 hy1 hy2 hzc (by decide) V vc made.length (dfL.all made) (by rfl) HOW2.out (some ⟨w2.heap.size, 0, none⟩) 1 1 [.string dd.name, .slice dd.t.A dd.t.ls.length dd.t.c, .int .i64 dd.t.root] (by rfl) rfl (row_blk (bx_new w2.drew _)) (fun u hu => by simp only [List.mem_cons, List.not_mem_nil, or_false] at hu; rcases hu with rfl | rfl | rfl <;> rfl) HF.out.1 HF.out.2 (by have := HZw.out; simp; omega) ?_; intro V' vc' w7 HO7 HG7 HA7; have HK7 := Lib.hid ((HG7.out.block (w.heap.size + 1 + 1) (heap_lt' HKB2.out) (fun e => by have := HVN.out _ e.symm; omega)).trans HKB2.out); obtain ⟨t1, t2⟩ := blk1 HK7.out))
            all_goals
              clear p1 p2 a1 x0' x1' x2' x3'
              go_wp2_with fail
              have hz := HZw.out
              have ho7 := HO7.out
              rw [show dfL.all made ++ [Value.string dd.name, .slice dd.t.A dd.t.ls.length dd.t.c, .int .i64 dd.t.root] = dfL.all (made ++ [dd]) by rw [dfL.all_append, dfL.all_one]; rfl] at ho7
              have hkeep : ∀ y, y < w2.heap.size → y ≠ w.heap.size + 1 + 1 → blkOf V ≠ some y → (w7.setCell ⟨w.heap.size + 1 + 1, 0, none⟩ (.slice V' (made.length + 1) vc')).heap[y]? = w2.heap[y]? := fun y h1 h2 h3 => (Below.heap_setCell _ _ _ _ h2).trans ((HG7.out.block y (by simp; omega) (fun e => h3 e.symm)).trans (by first | exact Below.heap_alloc w2 _ y h1 | exact Below.heap_alloc w2.drew _ y h1))
              have h5 : Below w.heap.size w (w7.setCell ⟨w.heap.size + 1 + 1, 0, none⟩ (.slice V' (made.length + 1) vc')) := by
                refine Below.setCell (p := ⟨w.heap.size + 1 + 1, 0, none⟩) ?_ (by show w.heap.size ≤ w.heap.size + 1 + 1; omega) _
                have h6 : Below w.heap.size w (w2.alloc (.cells #[.string dd.name, .slice dd.t.A dd.t.ls.length dd.t.c, .int .i64 dd.t.root] 36)) := HBw.out.trans ((bx1 w2 _).mono (by omega))
                first
                  | exact (h6.drew).grown HG7.out (by simp; omega) (fun y hy => by have := HVN.out y hy; omega)
                  | exact (show Below w.heap.size w (w2.drew.alloc _) from ⟨h6.1, h6.2, h6.3, h6.4, h6.5⟩).grown HG7.out (by simp; omega) (fun y hy => by have := HVN.out y hy; omega)
              have hrel' : RedRel w w.heap.size S T A c ds es (.int .i64 ((i : Int) + 1)) (.int .i64 (p : Int)) (w7.setCell ⟨w.heap.size + 1 + 1, 0, none⟩ (.slice V' (made.length + 1) vc')) := ⟨i + 1, p, made.length + 1, V', vc', by omega, by omega, by omega, by go_num, by first | rfl | go_num, Lib.hid ⟨made ++ [dd], by simp, by rw [HAP.out, ap_ins _ _ HMY.out rfl, joinA_join]; simp; rfl, fun dd hd => by
                rcases List.mem_append.1 hd with hd | hd
                · exact hmi dd hd
                · simp only [List.mem_singleton] at hd; subst hd; exact Or.inr HIN.out.2, own_agree ho7 (fun y hy => Below.heap_setCell _ _ _ _ (by have := (own_blk ho7 y hy).1; show y ≠ w.heap.size + 1 + 1; omega))⟩, Lib.hid (set_blk1 HK7.out), Lib.hid ((hkeep _ (by omega) (by omega) (fun e => by have := HVN.out _ e; omega)).trans HKAw.out), Lib.hid ((hkeep _ (by omega) (by omega) (fun e => by have := HVN.out _ e; omega)).trans HKRw.out), Lib.hid h5, Lib.hid (by have := HG7.out.size; simp at this; simp; omega)⟩
              refine ⟨?_, by simp only [intOf]; omega⟩
              first
                | exact hrel'
                | exact ⟨_, _, hrel', rfl, rfl⟩
                | exact ⟨_, hrel', rfl⟩
    · obtain rfl : i = es.length := by omega
      obtain ⟨made, rfl, hap, hmi, hown⟩ := HM.out
      rw [List.drop_of_length_le (l := es.map Le.ed) (by simp)] at hap
      obtain ⟨p1, p2⟩ := blk1 HKW.out
      obtain ⟨a1, _⟩ := blk1 HKA.out
      obtain ⟨s1, s2⟩ := blk1 HKR.out
      by_cases hpl : p < ds.length
      · have i3 : (p : Int) < (ds.length : Int) := by omega
        have HR := Lib.hid (show applyL (ds.map Ld.df) (es.map Le.ed) = ([], 8) from by
          rw [hap, List.drop_eq_getElem_cons (by simpa using hpl)]; simp [applyL, joinA])
        clear hap
        as_aux_lemma =>
          go_wp2_with fail
          refine bodyPost_ret (v := .tuple #[.agg #[.slice none 0 0], .int .i64 8]) (by simp [results, Tryd.results18, go_sem, s1]) rfl ?_
          rw [HR.out]
          exact ⟨none, 0, [], rfl, rfl, Lay.row.nil _ _ _, by simp, HB.out.setCell (p := ⟨w.heap.size + 1, 0, none⟩) (by simp) _⟩
      · have i3 : ¬ (p : Int) < (ds.length : Int) := by omega
        have HR := Lib.hid (show applyL (ds.map Ld.df) (es.map Le.ed) = (made.map Ld.df, 0) from by
          rw [hap, List.drop_of_length_le (by simp; omega)]; simp [applyL, joinA])
        have HMR := Lib.hid (show dfL.row wr (fun x => x ≠ w.heap.size + 1 ∧ (S x ∨ T x ∨ w.heap.size ≤ x)) V made from ⟨own_rowIn hown (fun ad e => by have := (own_blk hown ad.block (by rw [e]; rfl)).1; exact ⟨by omega, .inr (.inr (by omega))⟩), fun d hd => by
          rcases hmi d hd with h | h
          · exact dfL.mono (dfL.agree (dfL.mono (T := fun x => x < w.heap.size ∧ S x) h (fun x hx hs => ⟨hx, hs⟩)) (fun x hx _ => HB.out.block x hx.1)) (fun x _ hx => ⟨by omega, .inl hx.2⟩)
          · exact dfL.mono (dfL.agree (dfL.mono (T := fun x => x < w.heap.size ∧ T x) h (fun x hx hs => ⟨hx, hs⟩)) (fun x hx _ => HB.out.block x hx.1)) (fun x _ hx => ⟨by omega, .inr (.inl hx.2)⟩)⟩)
        have hml : made.length ≤ 281474976710656 := by omega
        clear hap hmi hown HM
        as_aux_lemma =>
          go_wp2_with fail
          refine bodyPost_ret (v := .tuple #[.agg #[.slice V made.length vc], .int .i64 0]) (by simp [results, Tryd.results18, go_sem, s1]) rfl ?_
          rw [HR.out]
          exact ⟨V, vc, made, rfl, rfl, (HMR.out.agree (fun x hx _ => Below.heap_setCell _ _ _ _ hx.1)).mono (fun _ _ hx => hx.2), hml, HB.out.setCell (p := ⟨w.heap.size + 1, 0, none⟩) (by simp) _⟩
end Go.Proofs.YtbfjanfhgpgmdaaDoor
