/- The walk of DiffDoes. -/
import Derived.Test.YtbfjanfhgpgmdaaDoorEe
import Derived.Test.YtbfjanfhgpgmdaaDoorEj
import Derived.Test.YtbfjanfhgpgmdaaDoorEk
import Derived.Test.YtbfjanfhgpgmdaaDoorEl
import Derived.Test.YtbfjanfhgpgmdaaDoorEn
import Derived.Deep.DeepCutAuto
import Derived.Deep.Cut
import Derived.Deep.CutRange
namespace Go.Proofs.YtbfjanfhgpgmdaaDoor
open Go.RowKit
set_option linter.unusedSimpArgs false
set_option linter.unusedVariables false

attribute [local go_sem] field_rules
theorem edkids_below {w w' : World} {H : Nat} {V : Option Addr} {es : List Le} (h : EdKids w H V es) (hb : Below w.heap.size w w') : EdKids w' H V es := by
  obtain ⟨Q, h1, h2, h3, h4⟩ := h
  exact ⟨Q, fun i hi => ⟨(h1 i hi).1, (h1 i hi).2.1, (h1 i hi).2.2.below hb⟩, fun i x hx => ⟨(h2 i x hx).1, Nat.lt_of_lt_of_le (h2 i x hx).2.1 hb.size, (h2 i x hx).2.2⟩, h3, h4⟩
/-- What the reference makes, in a box. -/
def MadeRel (wr : World) (R : List Df × Int) (p e : Value) (wx : World) : Prop :=
  ∃ (Hb : Nat) (V : Option Addr) (c : Nat) (ds : List Ld), p = .pointer (some ⟨Hb, 0, none⟩) ∧ e = .int .i64 R.2 ∧ Hid (ds.map Ld.df = R.1 ∧ ds.length ≤ 281474976710656) ∧ Hid (wx.heap[Hb]? = some (.cells #[.slice V ds.length c] 24 (0, 0))) ∧ Hid (Below wr.heap.size wr wx) ∧ Hid (dfL.row wx (fun _ => True) V ds)
/-- Where the edits' copying stands: h's box, what was handed in, and the copies. -/
def DoesRel (w w4 : World) (H : Nat) (A : Option Addr) (c : Nat) (ds : List Ld) (es : List Le) (hb : Obj) (i m : Value) (wr : World) : Prop :=
  ∃ (k : Nat) (V : Option Addr) (vc : Nat), k ≤ es.length ∧ i = .int .i64 k ∧ m = .slice V k vc ∧
    Hid (∃ fs : List Le, fs.length = k ∧ fs.map Le.ed = (es.take k).map Le.ed ∧ wr.ownsRow (w4.heap.size + 1) 38 4 (.slice V k vc) k (edL.all fs) ∧ EdKids wr (w4.heap.size + 1) V fs) ∧
    Hid (wr.heap[H]? = some (.cells #[.slice A ds.length c] 24 (0, 0))) ∧ Hid (wr.heap[w4.heap.size]? = some hb) ∧ Hid (Below w4.heap.size w4 wr) ∧ Hid (w4.heap.size + 1 ≤ wr.heap.size)
set_option maxRecDepth 100000 in
set_option maxHeartbeats 12800000 in
theorem does_walk (A L : Option Addr) (c lc : Nat) (ds : List Ld) (es : List Le) (S T : Nat → Prop) (w : World) (hA : dfL.row w S A ds) (hL : edL.row w T L es) (hl : ds.length ≤ 281474976710656) (hel : es.length ≤ 281474976710656) (hc : ds.length ≤ c ∧ c ≤ 9223372036854775807) (ht : CntTab w) :
    Calls Tryd.prog 4 #[.agg #[.slice A ds.length c], .slice L es.length lc] w fun e w' => e = .returned (.bool true) ∧ Below w.heap.size w w' := by
  obtain ⟨j0, hj, hy0, hy1, hy2⟩ := info_parts infoEdit
  have hzc : (Value.agg #[.int .u8 0, .string ByteArray.empty, .slice none 0 0, .int .i64 0]).cells.size = 4 := rfl
  have HA := Lib.hid hA; have HL := Lib.hid hL; have HT := Lib.hid ht; have HC := Lib.hid hc
  clear hA hL ht hc
  have HGR := Lib.hid (show grL.row ((w.alloc (.cells #[.slice A ds.length c] 24)).alloc (.cells #[.slice A ds.length c] 24)) (fun _ => True) (some ⟨w.heap.size + 1, 0, none⟩) [⟨A, c, ds⟩] from by
    refine ⟨⟨?_, fun _ _ _ => trivial⟩, fun g hg => ?_⟩
    · have h := bx_new (w.alloc (.cells #[.slice A ds.length c] 24)) (.cells #[.slice A ds.length c] 24)
      rw [World.size_alloc] at h
      have h2 := row_blk (cs := [.slice A ds.length c]) h
      have e : grL.all [⟨A, c, ds⟩] = [.slice A ds.length c] := by rw [grL.all_one]; rfl
      rw [e]; exact h2
    · simp only [List.mem_singleton] at hg
      subst hg
      exact ⟨hl, (HA.out.below (bx2 w _ _)).mono (fun _ _ _ => trivial)⟩)
  go_enter Tryd.func4, Tryd.ntmps4
  go_wp2_with fail
  refine (large_any [⟨A, c, ds⟩] (some ⟨w.heap.size + 1, 0, none⟩) 1 (fun _ => True) _ HGR.out (by simp)).mono ?_
  rintro e w1 ⟨r, rfl, hr1, hb1⟩
  have HB1 := Lib.hid (Below.step (bx2 w _ _) hb1)
  have HK1 := Lib.hid (show w1.heap[w.heap.size]? = some (.cells #[.slice A ds.length c] 24 (0, 0)) from bx_kept hb1 (bx_old (bx_new w _)))
  clear hb1 HGR
  cases r
  · have HS1 := Lib.hid (show SmallG ds from hr1 rfl ⟨A, c, ds⟩ (by simp))
    clear hr1
    go_wp2_with fail
    refine (wide_any es L lc T w1 (HL.out.below HB1.out) hel).mono ?_
    rintro e w2 ⟨r, rfl, hr2, hb2⟩
    have HK2 := Lib.hid (bx_kept hb2 HK1.out)
    have HB2 := Lib.hid (Below.step HB1.out hb2)
    clear hb2 HK1 HB1
    cases r
    · have HS2 := Lib.hid (hr2 rfl)
      clear hr2
      have hds := HS1.out.1
      have hes := HS2.out.1
      obtain ⟨p1, _⟩ := blk1 HK2.out
      go_wp2_with fail
      refine (lawown_any A c ds S w2 (HA.out.below HB2.out) (by omega) (fun d hd => (HS1.out.2 d hd).mod)).mono ?_
      rintro e w3 ⟨V, vc, d3, rfl, hd3, hgo, hb3⟩
      have HD3 := Lib.hid hd3; have HG3 := Lib.hid hgo; have HB3 := Lib.hid (Below.step HB2.out hb3); have HK3 := Lib.hid (bx_kept hb3 HK2.out)
      clear hd3 hgo hb3 p1 HK2 HB2
      have HX := Lib.hid (bx_new w3 (.cells #[.slice V d3.length vc] 24))
      have HW3 := Lib.hid (bx1 w3 (.cells #[.slice V d3.length vc] 24))
      go_wp2_with fail
      have HZ := Lib.hid (show (w3.alloc (.cells #[.slice V d3.length vc] 24)).heap.size = w3.heap.size + 1 from by simp)
      have HKA := Lib.hid (bx_old (p := .cells #[.slice V d3.length vc] 24) HK3.out)
      go_loopw [7, 6] (fun i m wr => DoesRel w w3 w.heap.size A c ds es (.cells #[.slice V d3.length vc] 24 (0, 0)) i m wr) (fun i _ _ => es.length - (intOf i).toNat)
      case atStart => exact ⟨0, none, 0, Nat.zero_le _, rfl, rfl, Lib.hid ⟨[], rfl, rfl, World.ownsRow_nil _ _ _ _, EdKids.nil _ _ _⟩, HKA, HX, HW3, Lib.hid (by rw [HZ.out]; exact Nat.le_refl _)⟩
      case round =>
        clear HKA HX HW3 HZ HK3
        obtain ⟨k, U, uc, hk, rfl, rfl, HM, HKA, HKH, HB, HZ⟩ := hrel
        have HBW := Lib.hid (show Below w.heap.size w wr from Below.step HB3.out HB.out)
        by_cases hlt : k < es.length
        · have i1 : (k : Int) < (es.length : Int) := by omega
          have i2 : (0 : Int) ≤ (k : Int) := by omega
          obtain ⟨eb, eo, hLL, _, _, z0, z1, z2, z3⟩ := edRow HL.out k hlt
          subst hLL
          have HEX := Lib.hid (show ∀ w', Below w.heap.size w w' → w'.cell? ⟨eb, eo + k * 4, none⟩ = some (.int .u8 es[k].kind) ∧ w'.cell? ⟨eb, eo + k * 4 + 1, none⟩ = some (.string es[k].d.name) ∧ w'.cell? ⟨eb, eo + k * 4 + 2, none⟩ = some (.slice es[k].d.t.A es[k].d.t.ls.length es[k].d.t.c) ∧ w'.cell? ⟨eb, eo + k * 4 + 3, none⟩ = some (.int .i64 es[k].d.t.root) from fun w' hb => ⟨(hb.cell (cellLt z0)).trans z0, (hb.cell (cellLt z1)).trans z1, (hb.cell (cellLt z2)).trans z2, (hb.cell (cellLt z3)).trans z3⟩)
          clear z0 z1 z2 z3
          obtain ⟨x0, x1, x2, x3⟩ := HEX.out wr HBW.out
          have HIN := Lib.hid ((HL.out.below HBW.out).sub k hlt)
          have HEM := Lib.hid (HS2.out.2 es[k] (List.getElem_mem hlt))
          have HTK := Lib.hid (show (es.take (k + 1)).map Le.ed = (es.take k).map Le.ed ++ [es[k].ed] from by rw [List.take_succ_eq_append_getElem hlt, List.map_append]; rfl)
          generalize es[k] = e at *
          obtain ⟨kd, x⟩ := e
          simp only at x0 x1 x2 x3
          have HEX2 := Lib.hid (show ∀ w', Below w.heap.size w w' → w'.cell? ⟨eb, eo + k * 4, none⟩ = some (.int .u8 kd) ∧ w'.cell? ⟨eb, eo + k * 4 + 1, none⟩ = some (.string x.name) ∧ w'.cell? ⟨eb, eo + k * 4 + 2, none⟩ = some (.slice x.t.A x.t.ls.length x.t.c) ∧ w'.cell? ⟨eb, eo + k * 4 + 3, none⟩ = some (.int .i64 x.t.root) from HEX.out)
          clear HEX
          go_upto_region 8 with (fail)
          have z0 := cellLt x0
          obtain ⟨fs, rfl, hfe, hown, hkd⟩ := HM.out
          have HFE := Lib.hid hfe; have HOW := Lib.hid hown; have HKD := Lib.hid hkd
          clear hfe hown hkd HM
          have HKDR := Lib.hid (show 0 ≤ kd ∧ kd ≤ 255 from HIN.out.1)
          have HF := Lib.hid (show fs.length + 1 ≤ maxLen ∧ (fs.length + 1) * 56 ≤ 140737488355328 from ⟨by unfold maxLen; omega, by omega⟩)
          have HMX := Lib.hid (show ∀ d ∈ [x], DMod d from fun d hd => by simp only [List.mem_singleton] at hd; subst hd; exact HEM.out.mod)
          have HRW := Lib.hid (show dfL.row (wr.drew.alloc (.cells #[.string x.name, .slice x.t.A x.t.ls.length x.t.c, .int .i64 x.t.root] 36)) (fun _ => True) (some ⟨wr.heap.size, 0, none⟩) [x] from by
            refine ⟨⟨?_, fun _ _ _ => trivial⟩, fun d hd => ?_⟩
            · exact row_blk (cs := [.string x.name, .slice x.t.A x.t.ls.length x.t.c, .int .i64 x.t.root]) (bx_new wr.drew _)
            · simp only [List.mem_singleton] at hd
              subst hd
              exact dfL.mono (dfL.agree (dfL.agree (show dfL.inn wr T d from ⟨HIN.out.2.1, HIN.out.2.2⟩) (drew_agree _ _)) (below_all (bx1 wr.drew _))) (fun _ _ _ => trivial))
          have HBD := Lib.hid (show Below wr.heap.size wr (wr.drew.alloc (.cells #[.string x.name, .slice x.t.A x.t.ls.length x.t.c, .int .i64 x.t.root] 36)) from (Below.refl _ wr).drew.trans (bx1 wr.drew _))
          go_cut [6] (fun m wx => ∃ (U' : Option Addr) (uc' : Nat) (fs2 : List Le), m = .slice U' (fs.length + 1) uc' ∧ Hid (fs2.length = fs.length + 1 ∧ fs2.map Le.ed = (es.take (fs.length + 1)).map Le.ed ∧ wx.ownsRow (w3.heap.size + 1) 38 4 (.slice U' (fs.length + 1) uc') (fs.length + 1) (edL.all fs2) ∧ EdKids wx (w3.heap.size + 1) U' fs2) ∧ Hid (Below w3.heap.size w3 wx ∧ Below w.heap.size w wx ∧ w3.heap.size + 1 ≤ wx.heap.size ∧ wx.heap[w.heap.size]? = wr.heap[w.heap.size]? ∧ wx.heap[w3.heap.size]? = wr.heap[w3.heap.size]?))
          case first =>
            go_region_law (first
              | (refine step_append_at (by rfl) (.tmp 33) (.tmp 51) 27 (by rfl) (w3.heap.size + 1) 38 j0 (.agg #[.int .u8 0, .string ByteArray.empty, .slice none 0 0, .int .i64 0]) 4 56 Tryd.underlying27 hj hy0 hy1 hy2 hzc (by decide) U uc fs.length (edL.all fs) (by rfl) (World.ownsRow.alloc HO5.out _) (some ⟨w5.heap.size, 0, none⟩) 1 1 [.int .u8 kd, .string n', .slice A' l'.length c', .int .i64 r'] (by rfl) rfl (row_blk (bx_new w5 _)) (ed_one _ _ _ _ _ _) HF.out.1 HF.out.2 (by have h1 := HB5.out.size; have h2 := HZ.out; simp; omega) ?_; intro U' uc' w7 HO7 HG7 HA7)
              | (go_simp; go_at_call 15; refine (lawown_any (some ⟨wr.heap.size, 0, none⟩) 1 [x] _ _ HRW.out (by simp) HMX.out).mono ?_; rintro e w5 ⟨V5, c5, d5, rfl, hd5, hgo5, hb5⟩; have hl5 : d5.length = 1 := (by have := congrArg List.length hd5; simpa using this); obtain ⟨x', rfl⟩ := List.length_eq_one_iff.1 hl5; obtain ⟨n', ⟨A', c', l', r'⟩⟩ := x'; have HD5 := Lib.hid hd5; have HG5 := Lib.hid hgo5; have HB5 := Lib.hid (HBD.out.trans (hb5.mono HBD.out.size)); have HO5 := Lib.hid (own_belowA HOW.out HB5.out); obtain ⟨g5, rfl, _, hg5⟩ := own_some (h := hgo5.row.1) (by simp); obtain ⟨v0, v1, v2⟩ := own_at3 hgo5.row.1 0 (by simp); simp only [Nat.zero_mul, Nat.zero_add, List.getElem_cons_zero] at v0 v1 v2; have x0' := (HB5.out.cell (cellLt x0)).trans x0; clear hd5 hgo5 hb5 hl5; simp only [List.length_singleton]))
            all_goals
              obtain ⟨fs2, HM2, HB7⟩ : ∃ fs2 : List Le, Hid (fs2.length = fs.length + 1 ∧ fs2.map Le.ed = (es.take (fs.length + 1)).map Le.ed ∧ w7.ownsRow (w3.heap.size + 1) 38 4 (.slice U' (fs.length + 1) uc') (fs.length + 1) (edL.all fs2) ∧ EdKids w7 (w3.heap.size + 1) U' fs2) ∧ Hid (Below w3.heap.size w3 w7 ∧ Below w.heap.size w w7 ∧ w3.heap.size + 1 ≤ w7.heap.size ∧ w7.heap[w.heap.size]? = wr.heap[w.heap.size]? ∧ w7.heap[w3.heap.size]? = wr.heap[w3.heap.size]?) := by
                have hs5 := HB5.out.size
                have hz := HZ.out
                obtain ⟨Q, hq1, hq2, _⟩ := HG5.out.kids
                have hT5 : TreeOwn w5 (fun y => wr.heap.size ≤ y ∧ y < w5.heap.size) ⟨A', c', l', r'⟩ := ((hq1 0 (by simp)).2).mono (fun y hy hq => ⟨by have := hq2 0 y hq; simp at this; omega, hy⟩)
                have hnm : n'.size ≤ 281474976710656 := (hq1 0 (by simp)).1
                have hd5 := HD5.out
                simp only [List.map_cons, List.map_nil, List.cons.injEq, and_true] at hd5
                have hBB : Below wr.heap.size wr (w5.alloc (.cells #[.int .u8 kd, .string n', .slice A' l'.length c', .int .i64 r'] 38)) := HB5.out.trans ((bx1 w5 _).mono hs5)
                have ho7 := HO7.out
                rw [show edL.all fs ++ [Value.int .u8 kd, .string n', .slice A' l'.length c', .int .i64 r'] = edL.all (fs ++ [⟨kd, ⟨n', ⟨A', c', l', r'⟩⟩⟩]) by rw [edL.all_append, edL.all_one]; rfl] at ho7
                have hb3 : Below w3.heap.size w3 w7 := ((HB.out.trans (hBB.mono (by omega)))).grown HG7.out (by simp; omega) (fun y hy => by have := (own_blk HOW.out y hy).1; omega)
                have hu : ∀ y, y < w3.heap.size + 1 → w7.heap[y]? = wr.heap[y]? := fun y hy => (HG7.out.block y (by simp; omega) (fun e => by have := (own_blk HOW.out y e.symm).1; omega)).trans (hBB.block y (by omega))
                have hs3 := HB3.out.size
                refine ⟨fs ++ [⟨kd, ⟨n', ⟨A', c', l', r'⟩⟩⟩], Lib.hid ⟨by simp, ?_, ho7, ?_⟩, Lib.hid ⟨hb3, Below.step HB3.out hb3, ?_, hu _ (by omega), hu _ (by omega)⟩⟩
                · rw [HTK.out, List.map_append, HFE.out]
                  simp only [List.map_cons, List.map_nil, Le.ed, hd5]
                · exact HKD.out.add hBB HG7.out HA7.out (fun k hk => (own_blk HOW.out k hk).2) hz _ HKDR.out hnm ((hT5.below (bx1 w5 _)).mono (fun y _ h => ⟨h.1, by have := h.2; simp; omega⟩))
                · have := HG7.out.size; simp at this; omega
              go_wp2_with fail
              go_meet
              case rel => exact ⟨U', uc', fs2, rfl, HM2, HB7⟩
          case rest =>
            obtain ⟨U', uc', fs2, rfl, HM2, HB7⟩ := hcut
            clear HB HBW HKD HOW HFE HTK HRW HBD HMX HF HIN x0 x1 x2 x3
            have HB8 := Lib.hid (show Below wc.heap.size wc wc.drew from (Below.refl _ _).drew)
            go_upto_region 9 with (fail)
            go_region_held3 (fun w' => w'.cell? ⟨eb, eo + fs.length * 4, none⟩ = some (.int .u8 kd) ∧ w'.cell? ⟨eb, eo + fs.length * 4 + 1, none⟩ = some (.string x.name) ∧ w'.cell? ⟨eb, eo + fs.length * 4 + 2, none⟩ = some (.slice x.t.A x.t.ls.length x.t.c) ∧ w'.cell? ⟨eb, eo + fs.length * 4 + 3, none⟩ = some (.int .i64 x.t.root))
              (exact HEX2.out _ (Below.step HB7.out.2.1 HB8.out))
              (first
                | (go_at_call 16; (with_reducible refine (emay_any ⟨kd, x⟩ _ HKDR.out).mono ?_); rintro e wa ⟨rfl, hba⟩; have HBn := Lib.hid (show Below wc.heap.size wc wa from Below.step HB8.out hba); clear HB8 hba; have HB8 := HBn; clear HBn)
                | (go_at_call 17; (with_reducible refine (redmay_any ⟨kd, x⟩ _ HKDR.out).mono ?_); rintro e wa ⟨rfl, hba⟩; have HBn := Lib.hid (show Below wc.heap.size wc wa from Below.step HB8.out hba); clear HB8 hba; have HB8 := HBn; clear HBn))
            cases mayE (Le.ed ⟨kd, x⟩)
            all_goals
              go_wp2_with fail
              exact ⟨⟨fs.length + 1, U', uc', by omega, by go_num, rfl, Lib.hid ⟨fs2, HM2.out.1, HM2.out.2.1, own_belowA HM2.out.2.2.1 HB8.out, edkids_below HM2.out.2.2.2 HB8.out⟩, Lib.hid (bx_kept HB8.out (HB7.out.2.2.2.1.trans HKA.out)), Lib.hid (bx_kept HB8.out (HB7.out.2.2.2.2.trans HKH.out)), Lib.hid (Below.step HB7.out.1 HB8.out), Lib.hid (Nat.le_trans HB7.out.2.2.1 HB8.out.size)⟩, by simp only [intOf]; omega⟩
        · obtain rfl : k = es.length := by omega
          obtain ⟨fs, hfl, hfe, hown, hkd⟩ := HM.out
          obtain ⟨p1, _⟩ := blk1 (show wr.heap[w.heap.size]? = some (.cells #[.slice A ds.length c] 24 (0, 0)) from HKA.out)
          have HFE := Lib.hid (show fs.map Le.ed = es.map Le.ed from by rw [hfe, List.take_length])
          have HFL := Lib.hid hfl
          have HFR := Lib.hid (show edL.row wr (fun _ => True) U fs from by
            obtain ⟨Q, h1, _⟩ := hkd
            exact ⟨own_rowIn hown (fun _ _ => trivial), fun d hd => by
              obtain ⟨i, hi, rfl⟩ := List.mem_iff_getElem.1 hd
              exact ⟨(h1 i hi).1, (h1 i hi).2.1, ((h1 i hi).2.2.mono (fun _ _ _ => trivial)).inn⟩⟩)
          have HUC := Lib.hid (And.intro (own_cap hown) (own_cap_le hown))
          have HSB := Lib.hid (show ∀ w', Below wr.heap.size wr w' → w'.cell? ⟨w.heap.size, 0, none⟩ = some (.slice A ds.length c) from fun w' hb => (hb.cell (cellLt p1)).trans p1)
          clear hfl hfe hown hkd HM p1
          have HB8 := Lib.hid (show Below wr.heap.size wr wr.drew from (Below.refl _ _).drew)
          go_upto_region 11 with (fail)
          go_cut [8, 9] (fun p e wx => MadeRel wr (applyL (ds.map Ld.df) (es.map Le.ed)) p e wx)
          case first =>
            have HBE := Lib.hid (show wr.drew.heap.size = wr.heap.size from rfl)
            go_region_held3 (fun w' => w'.cell? ⟨w.heap.size, 0, none⟩ = some (.slice A ds.length c))
              (first | exact HSB.out _ HB8.out | exact HSB.out _ (Below.step HB8.out (bx1 _ _)) | exact HSB.out _ HB9.out | exact HSB.out _ (HB9.out.setCell (p := ⟨_, 0, none⟩) HBZ.out _))
              (first
                | (go_at_call 19; (with_reducible refine (told_any es L lc T wr.drew (HL.out.below (Below.step HBW.out HB8.out)) (by omega)).mono ?_); rintro e wa ⟨V5, c5, rfl, hr5, hba⟩; have HBn := Lib.hid (show Below wr.heap.size wr wa from Below.step HB8.out hba); have HR5 := Lib.hid hr5; clear HB8 hba hr5; have HB8 := HBn; clear HBn)
                | (go_at_call 19; (with_reducible refine (told_any es L lc (fun x => x ≠ wr.heap.size) _ (((HL.out.below (Below.step HBW.out HB8.out)).mono (fun x hx _ => Nat.ne_of_lt hx)).below (bx1 _ _)) (by omega)).mono ?_); rintro e wa ⟨V5, c5, rfl, hr5, hba⟩; have HB9 := Lib.hid (show Below wr.heap.size wr wa from Below.step (Below.step HB8.out (bx1 _ _)) hba); have HKX := Lib.hid (show wa.heap[wr.heap.size]? = some (.cells #[.slice none 0 0] 24 (0, 0)) from bx_kept hba (bx_new wr.drew _)); have HR9 := Lib.hid (hr5.mono (T := fun x => x ≠ wr.heap.size) (fun x hx h => h.elim id (fun h => Nat.ne_of_gt (Nat.lt_of_lt_of_le (show wr.heap.size < (wr.drew.alloc _).heap.size by simp) h)))); clear HB8 hba hr5)
                | (go_at_call 18; (with_reducible refine (redapply_any A V5 c c5 ds es S (fun x => T x ∨ wr.drew.heap.size ≤ x) _ (HA.out.below (Below.step HBW.out HB8.out)) HR5.out (by omega) (by omega)).mono ?_); rintro e wb ⟨V6, c6, d6, rfl, hd6, hr6, hl6, hba⟩; have HBn := Lib.hid (show Below wr.heap.size wr wb from Below.step HB8.out hba); have HD6 := Lib.hid hd6; have HR6 := Lib.hid (hr6.mono (T := fun _ => True) (fun _ _ _ => trivial)); have HL6 := Lib.hid hl6; clear HB8 hba HR5 hd6 hr6 hl6; have HB8 := HBn; clear HBn)
                | (go_at_call 18; (with_reducible refine (redapply_any A V5 c c5 ds es (fun x => x ≠ wa.heap.size) (fun x => x ≠ wa.heap.size) _ (((HA.out.below (Below.step HBW.out HB8.out)).mono (fun x hx _ => Nat.ne_of_lt hx)).below (bx1 _ _)) ((HR5.out.mono (fun x hx _ => Nat.ne_of_lt hx)).below (bx1 _ _)) (by omega) (by omega)).mono ?_); rintro e wb ⟨V6, c6, d6, rfl, hd6, hr6, hl6, hba⟩; have HB9 := Lib.hid (show Below wr.heap.size wr wb from Below.step (Below.step HB8.out (bx1 _ _)) hba); have HKX := Lib.hid (show wb.heap[wa.heap.size]? = some (.cells #[.slice none 0 0] 24 (0, 0)) from bx_kept hba (bx_new wa _)); have HBZ := Lib.hid (show wr.heap.size ≤ wa.heap.size from HB8.out.size); have HD6 := Lib.hid hd6; have HR6 := Lib.hid (hr6.mono (T := fun x => x ≠ wa.heap.size) (fun x hx h => h.elim id (fun h => h.elim id (fun h => Nat.ne_of_gt (Nat.lt_of_lt_of_le (show wa.heap.size < (wa.alloc _).heap.size by simp) h))))); have HL6 := Lib.hid hl6; clear HB8 hba HR5 hd6 hr6 hl6; obtain ⟨q1, q2⟩ := blk1 HKX.out)
                | (go_at_call 18; (with_reducible refine (redapply_any A V5 c c5 ds es (fun x => x ≠ wr.heap.size) (fun x => x ≠ wr.heap.size) _ ((HA.out.below HBW.out).mono (fun x hx _ => Nat.ne_of_lt hx) |>.below HB9.out) HR9.out (by omega) (by omega)).mono ?_); rintro e wb ⟨V6, c6, d6, rfl, hd6, hr6, hl6, hba⟩; have HBn := Lib.hid (show Below wr.heap.size wr wb from Below.step HB9.out hba); have HBZ := Lib.hid (Nat.le_refl wr.heap.size); have HKn := Lib.hid (bx_kept hba HKX.out); have HD6 := Lib.hid hd6; have HR6 := Lib.hid (hr6.mono (T := fun x => x ≠ wr.heap.size) (fun x hx h => h.elim id (fun h => h.elim id (fun h => Nat.ne_of_gt (Nat.lt_of_lt_of_le (show wr.heap.size < wa.heap.size from heap_lt' HKX.out) h))))); have HL6 := Lib.hid hl6; clear HB9 hba HR9 hd6 hr6 hl6 HKX; have HB9 := HBn; have HKX := HKn; clear HBn HKn; obtain ⟨q1, q2⟩ := blk1 HKX.out))
            all_goals (try go_wp2_with fail)
            all_goals go_meet
            all_goals
              first
                | exact ⟨_, V6, c6, d6, rfl, rfl, Lib.hid ⟨HD6.out, HL6.out⟩, Lib.hid (bx_new wb _), Lib.hid (Below.step HB8.out (bx1 _ _)), Lib.hid (HR6.out.below (bx1 _ _))⟩
                | exact ⟨_, V6, c6, d6, rfl, rfl, Lib.hid ⟨HD6.out, HL6.out⟩, Lib.hid (set_blk1 HKX.out), Lib.hid (HB9.out.setCell (p := ⟨_, 0, none⟩) HBZ.out _), Lib.hid ((HR6.out.agree (fun x hx _ => Below.heap_setCell _ _ _ _ hx)).mono (fun _ _ _ => trivial))⟩
          case rest =>
            obtain ⟨Hb, V6, c6, d6, rfl, rfl, HD6, HKB, HBC, HR6⟩ := hcut
            have HBX := Lib.hid (Below.step HBW.out HBC.out)
            have HKA2 := Lib.hid (bx_kept HBC.out HKA.out)
            have HKH2 := Lib.hid (bx_kept HBC.out HKH.out)
            have HLD := Lib.hid (show d3.length = ds.length from by have := congrArg List.length HD3.out; simpa using this)
            have HHR := Lib.hid (show dfL.row wc (fun _ => True) V d3 from (HG3.out.inn.below (Below.step HB.out HBC.out)).mono (fun _ _ _ => trivial))
            have HMR := Lib.hid (show edL.row wc (fun _ => True) U fs from HFR.out.below HBC.out)
            have HM3 := Lib.hid (show ∀ d ∈ d3, DMod d from fun d hd => SmallD.mod (DfSmall.ld (by
              obtain ⟨z, hz, e⟩ := List.mem_map.1 (show d.df ∈ ds.map Ld.df from HD3.out ▸ List.mem_map.2 ⟨d, hd, rfl⟩)
              rw [← e]; exact (HS1.out.2 z hz).df)))
            have HM4 := Lib.hid (show ∀ e ∈ fs, DMod e.d from fun d hd => SmallD.mod (DfSmall.ld (by
              obtain ⟨z, hz, e⟩ := List.mem_map.1 (show d.ed ∈ es.map Le.ed from HFE.out ▸ List.mem_map.2 ⟨d, hd, rfl⟩)
              have e2 : z.d.df = d.d.df := congrArg Ed.d e
              rw [← e2]; exact (HS2.out.2 z hz).df)))
            have HAPP := Lib.hid (show ∀ w', Below wc.heap.size wc w' → Calls Tryd.prog 12 #[.agg #[.slice V d3.length vc], .slice U es.length uc] w' (ApplyPost (applyL (ds.map Ld.df) (es.map Le.ed)) w') from fun w' hb => by
              have h := apply_any V U vc uc d3 fs (fun _ => True) (fun _ => True) w' (HHR.out.below hb) (HMR.out.below hb) (by rw [HLD.out]; omega) ⟨own_cap HG3.out.row.1, own_cap_le HG3.out.row.1⟩ (by rw [HFL.out]; omega) HM3.out HM4.out
              rw [HFL.out, HD3.out, HFE.out] at h
              exact h)
            have HTM := Lib.hid (show ∀ w', Below wc.heap.size wc w' → Calls Tryd.prog 19 #[.slice U es.length uc] w' (ToldPost fs (fun _ => True) w') from fun w' hb => by
              have h := told_any fs U uc (fun _ => True) w' (HMR.out.below hb) (by rw [HFL.out]; omega)
              rw [HFL.out] at h
              exact h)
            have HMD := Lib.hid (show ∀ d4 : List Ld, d4.map Ld.df = (applyL (ds.map Ld.df) (es.map Le.ed)).1 → ∀ d ∈ d4, DMod d from fun d4 h d hd => SmallD.mod ((apply_small HS1.out.2 HS2.out.2 h).1 d hd))
            clear HFR HB HBW HKA HKH HBC HG3 HSB HUC HM3 HM4 HB8 HZ
            generalize applyL (ds.map Ld.df) (es.map Le.ed) = R at *
            go_wp2_with fail
            go_loopw [10] (fun i w' => ∃ r : Nat, r ≤ 2 ∧ i = .int .i64 r ∧ Hid (Below wc.heap.size wc w')) (fun i _ => 2 - (intOf i).toNat)
            case atStart => exact ⟨0, by omega, rfl, Lib.hid (Below.refl _ _)⟩
            case round =>
              obtain ⟨r, hr, rfl, HB2⟩ := hrel
              rename World => wz
              by_cases hr2 : r < 2
              · have i1 : (r : Int) < 2 := by omega
                have i2 : (0 : Int) ≤ (r : Int) := by omega
                obtain ⟨p1, _⟩ := blk1 (bx_kept HB2.out HKH2.out)
                go_wp2_with fail
                refine (HAPP.out wz HB2.out).mono ?_
                rintro e w4 ⟨V4, c4, d4, rfl, hd4, hgo, hb4⟩
                have HD4 := Lib.hid hd4; have HG4 := Lib.hid hgo; have HB4 := Lib.hid hb4
                obtain ⟨Q, hQ1, hQ2, hQ3⟩ := hgo.tight
                have HQ1 := Lib.hid hQ1; have HQ2 := Lib.hid hQ2; have HQ3 := Lib.hid hQ3
                have hl4 := hgo.len
                clear hd4 hgo hb4 hQ1 hQ2 hQ3 p1
                go_upto_region 16 with (fail)
                have HKX := Lib.hid (bx_new w4 (.cells #[.slice V4 d4.length c4] 24))
                have HW5 := Lib.hid (bx1 w4 (.cells #[.slice V4 d4.length c4] 24))
                generalize (w4.alloc (.cells #[.slice V4 d4.length c4] 24)) = w5 at *
                have HB5 := Lib.hid (Below.step (Below.step HB2.out HB4.out) HW5.out)
                obtain ⟨q1, _⟩ := blk1 HKX.out
                obtain ⟨q3, _⟩ := blk1 (bx_kept HB5.out HKB.out)
                go_wp2_with (go_at_call 20; refine (exact9_any V4 V6 c4 c6 d4 d6 _ _ w5 (HG4.out.inn.below HW5.out) (HR6.out.below HB5.out) (HD4.out.trans HD6.out.1.symm) hl4).mono ?_; rintro e w6 ⟨rfl, hb6⟩; have HK6 := Lib.hid (bx_kept hb6 HKX.out); have HW6 := Lib.hid (Below.step HW5.out hb6); clear hb6)
                clear q1 q3 HKX HW5 HB5
                go_loopw [13] (fun i w' => SpRel wz Q w4.heap.size V4 c4 d4 i w') (fun i _ => d4.length - (intOf i).toNat)
                case atStart => exact SpRel.start HG4.out HQ1.out HB4.out HW6.out HK6.out
                case round =>
                  clear HK6
                  rename World => wy
                  obtain ⟨k, ds', hk4, rfl, HLN, HTS, HO, HTT, HKX, HBS⟩ := hrel
                  by_cases hlt4 : k < d4.length
                  · have hlt' : k < ds'.length := by rw [HLN.out]; exact hlt4
                    obtain ⟨g, rfl, hg1, hg2⟩ := own_some HO.out (by omega)
                    obtain ⟨x0, x1, x2⟩ := own_at3 HO.out k hlt'
                    have c0 := World.ownsRow.frozenAt HO.out (k * 3)
                    obtain ⟨q1, _⟩ := blk1 HKX.out
                    have i3 : (k : Int) < (d4.length : Int) := by omega
                    have i4 : (0 : Int) ≤ (k : Int) := by omega
                    have htk : ds'[k].t = d4[k].t := HTS.out k hlt' hlt4
                    have HTO := Lib.hid (show TreeOwn wy (Q k) ds'[k].t from by rw [htk]; exact HTT.out k hlt4 (Nat.le_refl _))
                    have HDM := Lib.hid (show DMod ds'[k] from by have h := HMD.out d4 HD4.out d4[k] (List.getElem_mem hlt4); unfold DMod at h ⊢; rw [htk]; exact h)
                    clear htk
                    have HGH := Lib.hid (show g < w4.heap.size from (own_blk HG4.out.row.1 g rfl).2)
                    have HQZ := Lib.hid (show ∀ i x, Q i x → wz.heap.size ≤ x ∧ x ≠ w4.heap.size ∧ g ≠ x from fun i x hx => ⟨(HQ2.out i x hx).1, Nat.ne_of_lt (HQ2.out i x hx).2.1, fun e => (HQ2.out i x hx).2.2 (by rw [e]; rfl)⟩)
                    go_wp2_with fail
                    refine (spoil_any ds'[k] (Q k) wy HTO.out HDM.out).mono ?_
                    rintro e w7 ⟨rfl, hsp⟩
                    have HSP := Lib.hid hsp
                    have HO7 := Lib.hid (show w7.ownsRow wz.heap.size 36 3 (.slice (some ⟨g, 0, none⟩) d4.length c4) d4.length (dfL.all ds') from own_agree HO.out (fun x hx => by cases hx; exact hsp.block g hg2 (fun hq => (HQZ.out k g hq).2.2 rfl)))
                    have HK7 := Lib.hid ((hsp.block _ (heap_lt' HKX.out) (fun hq => (HQZ.out k _ hq).2.1 rfl)).trans HKX.out)
                    clear hsp x0 x1 x2 c0 q1
                    obtain ⟨x0, _, _⟩ := own_at3 HO7.out k hlt'
                    have c0 := World.ownsRow.frozenAt HO7.out (k * 3)
                    obtain ⟨q1, _⟩ := blk1 HK7.out
                    go_wp2_with fail
                    exact ⟨SpRel.step hlt4 HLN.out HTS.out HO.out HTT.out HKX.out HBS.out HSP.out HQZ.out HQ3.out (Nat.ne_of_lt HGH.out) _, by simp only [intOf]; omega⟩
                  · have i3 : ¬ (k : Int) < (d4.length : Int) := by omega
                    obtain ⟨q1, _⟩ := blk1 HKX.out
                    go_wp2_with fail
                    exact ⟨⟨r + 1, by omega, by go_num, Lib.hid (Below.step HB2.out HBS.out)⟩, by simp only [intOf]; omega⟩
              · obtain rfl : r = 2 := by omega
                have HB8 := HB2
                clear HAPP HMD HKB HR6
                go_wp2_with (first
                  | (go_at_call 22; (with_reducible refine (ecount_any es L lc T _ (HL.out.below (Below.step HBX.out HB8.out)) (by omega)).mono ?_); rintro e wa ⟨rfl, hba⟩; have HBn := Lib.hid (show Below wc.heap.size wc wa from Below.step HB8.out hba); clear HB8 hba; have HB8 := HBn; clear HBn)
                  | (go_at_call 19; (with_reducible refine (told_any es L lc T _ (HL.out.below (Below.step HBX.out HB8.out)) (by omega)).mono ?_); rintro e wa ⟨V5, c5, rfl, hr5, hba⟩; have HBn := Lib.hid (show Below wc.heap.size wc wa from Below.step HB8.out hba); have HR5 := Lib.hid hr5; (try (have HRn := Lib.hid (HR7.out.below hba); clear HR7; have HR7 := HRn; clear HRn)); clear HB8 hba hr5; have HB8 := HBn; clear HBn; obtain ⟨p1, _⟩ := blk1 (bx_kept HB8.out HKA2.out); obtain ⟨p2, _⟩ := blk1 (bx_kept HB8.out HKH2.out))
                  | (go_at_call 19; (with_reducible refine (HTM.out _ HB8.out).mono ?_); rintro e wa ⟨V7, c7, rfl, hr7, hba⟩; have HBn := Lib.hid (show Below wc.heap.size wc wa from Below.step HB8.out hba); have HR7 := Lib.hid hr7; clear HB8 hba hr7; have HB8 := HBn; clear HBn)
                  | (go_at_call 23; (with_reducible refine (redcount_any es _ _ _ _ _ HR5.out (by omega)).mono ?_); rintro e wa ⟨rfl, rfl⟩)
                  | (go_at_call 20; (with_reducible refine (exact9_any V A vc c d3 ds _ _ _ (HHR.out.below HB8.out) (HA.out.below (Below.step HBX.out HB8.out)) HD3.out (by rw [HLD.out]; exact hl)).mono ?_); rintro e wa ⟨rfl, hba⟩; have HBn := Lib.hid (show Below wc.heap.size wc wa from Below.step HB8.out hba); clear HB8 hba; have HB8 := HBn; clear HBn)
                  | (go_at_call 24; (with_reducible refine (redsame_any V7 V5 c7 c5 fs es _ _ _ HR7.out HR5.out HFE.out (by rw [HFL.out]; exact hel)).mono ?_); rintro e wa ⟨rfl, hba⟩; have HBn := Lib.hid (show Below wc.heap.size wc wa from Below.step HB8.out hba); clear HB8 hba; have HB8 := HBn; clear HBn)
                  | (go_at_call 10; (with_reducible refine (awake_any _ (HT.out.below (Below.step HBX.out HB8.out))).mono ?_); rintro e wa ⟨rfl, hba⟩; have HBn := Lib.hid (show Below wc.heap.size wc wa from Below.step HB8.out hba); clear HB8 hba; have HB8 := HBn; clear HBn))
                go_ret
                exact ⟨rfl, Below.step HBX.out HB8.out⟩
    · as_aux_lemma =>
        go_wp2_with (go_at_call 10; refine (awake_any _ (HT.out.below HB2.out)).mono ?_; rintro e w3 ⟨rfl, hb3⟩; have HB3 := Lib.hid (Below.step HB2.out hb3); clear hb3)
        go_ret
        exact ⟨rfl, HB3.out⟩
  · as_aux_lemma =>
      go_wp2_with (go_at_call 10; refine (awake_any _ (HT.out.below HB1.out)).mono ?_; rintro e w3 ⟨rfl, hb3⟩; have HB3 := Lib.hid (Below.step HB1.out hb3); clear hb3)
      go_ret
      exact ⟨rfl, HB3.out⟩
end Go.Proofs.YtbfjanfhgpgmdaaDoor
