/- Arguments that are rows of numbers, or places, opened. -/
import Derived.Test.YtmjkgnknfgoadaaGreatDoorEc
import Derived.Test.YtmjkgnknfgoadaaGreatDoorTt
import Derived.BigQuiet
import Derived.Deep.RegionHeld3
namespace Go.Proofs.YtmjkgnknfgoadaaGreatDoor
open Go.RowKit Go.Joins Go.ChangeShapes Go.WideShapes Go.Deep
set_option linter.unusedSimpArgs false
set_option linter.unusedVariables false
set_option maxRecDepth 100000

section
variable {H : Type} {enc : TypeId × Value → H} {W : World}
theorem open_ints {base : Nat} {v : Value} {d : DataW H} {p : List MemPlace} (hok : Value.okWide Tryz.prog W .any base 54 v) (h : DataW.Trod enc Tryz.prog W 0 (fun _ => true) true 54 v d p) (hw : ∀ n ∈ d.weights Tryz.prog 54, n ≤ reachBytes) :
    ∃ A c l, v = .slice A l.length c ∧ intL.row W (· < W.heap.size) A l ∧ l.length ≤ 281474976710656 ∧ l.length ≤ c ∧ c ≤ 9223372036854775807 := by
  have hrb := reachBytes_lt
  obtain ⟨a0, len, cap, rfl⟩ := okWide_slice Tryz.underlying54 hok
  obtain ⟨fuel, hf⟩ := h
  obtain ⟨A, c, l, q0, hl, hll, hlc, hcm⟩ := open_row (L := intL) Tryz.underlying54 (by kernel_rfl) (of_decide_eq_true (by kernel_rfl)) (by decide) opens_int hf hw
  simp only [Value.cells, List.cons.injEq, and_true] at q0
  exact ⟨A, c, l, q0, hl, by omega, hlc, by unfold maxLen at hcm; omega⟩
theorem open_place {base : Nat} {v : Value} {d : DataW H} {p : List MemPlace} (hok : Value.okWide Tryz.prog W .any base 56 v) (h : DataW.Trod enc Tryz.prog W 0 (fun _ => true) true 56 v d p) (hw : ∀ n ∈ d.weights Tryz.prog 56, n ≤ reachBytes) :
    ∃ r A c l, v = .agg #[.int .i64 r, .slice A l.length c] ∧ (-9223372036854775808 ≤ r ∧ r ≤ 9223372036854775807) ∧ intL.row W (· < W.heap.size) A l ∧ l.length ≤ 281474976710656 ∧ l.length ≤ c ∧ c ≤ 9223372036854775807 := by
  have hrb := reachBytes_lt
  obtain ⟨cs, rfl, hsz⟩ := okWide_struct Tryz.underlying56 hok
  rw [show Tryz.prog.cellsOf 56 = 2 by kernel_rfl] at hsz
  obtain ⟨c0, c1, rfl⟩ : ∃ c0 c1, cs = #[c0, c1] := by
    obtain ⟨l⟩ := cs
    match l, hsz with
    | [c0, c1], _ => exact ⟨c0, c1, rfl⟩
  obtain ⟨fuel, hf⟩ := h
  obtain ⟨xs, m, _, hx, _, hlen, hg⟩ := DataW.trod_struct Tryz.underlying56 hf
  have k1 : Tryz.prog.cellsOf 3 = 1 := by kernel_rfl
  have k2 : Tryz.prog.cellsOf 54 = 1 := by kernel_rfl
  match xs, hlen with
  | [y0, y1], _ =>
    have g0 : DataW.trod enc Tryz.prog W 0 (fun _ => true) true m 3 [c0] = some y0 := by simpa [k1, Value.cells] using hg 0 _ rfl
    have g1 : DataW.trod enc Tryz.prog W 0 (fun _ => true) true m 54 [c1] = some y1 := by simpa [k1, k2, Value.cells] using hg 1 _ rfl
    obtain ⟨r, q0, _, b0⟩ := DataW.trod_int Tryz.underlying3 g0
    obtain ⟨A, c, l, q1, hl, hll, hlc, hcm⟩ := open_row (L := intL) Tryz.underlying54 (by kernel_rfl) (of_decide_eq_true (by kernel_rfl)) (by decide) opens_int g1 (fun k hk => hw k (by
      have hx1 : d = .agg [y0.1, y1.1] := by have := congrArg Prod.fst hx; simpa using this
      rw [hx1, DataW.weights, Tryz.underlying56]
      exact DataW.weights_mem_each (j := 1) rfl rfl k hk))
    simp only [List.cons.injEq, and_true] at q0 q1
    subst q0 q1
    exact ⟨r, A, c, l, rfl, bounds_i64 b0, hl, by omega, hlc, by unfold maxLen at hcm; omega⟩
end
end Go.Proofs.YtmjkgnknfgoadaaGreatDoor

/- The contract of the law's long: what is not long is short. -/
namespace Go.Proofs.YtmjkgnknfgoadaaGreatDoor
open Go.RowKit
set_option linter.unusedSimpArgs false
set_option linter.unusedVariables false

/-- A path, and where it lies. -/
structure Lp where
  A : Option Addr
  c : Nat
  li : List Int
def ipL : Lay Lp where
  size := 1
  cells p := [.slice p.A p.li.length p.c]
  len _ := rfl
  one _ u hu := by simp at hu; subst hu; rfl
  inn w S p := p.li.length ≤ 281474976710656 ∧ intL.row w S p.A p.li
  agree h hg := ⟨h.1, h.2.agree hg⟩
  mono h hS := ⟨h.1, h.2.mono hS⟩
theorem ipRow {w : World} {S : Nat → Prop} {A : Option Addr} {l : List Lp} (h : ipL.row w S A l) (i : Nat) (hi : i < l.length) : ∃ b o, A = some ⟨b, o, none⟩ ∧ S b ∧ b < w.heap.size ∧ w.cell? ⟨b, o + i, none⟩ = some (.slice l[i].A l[i].li.length l[i].c) := by
  obtain ⟨b, o, e, hS, hl, hc⟩ := h.at (by decide) i hi
  refine ⟨b, o, e, hS, hl, ?_⟩
  have := hc 0 _ rfl
  simpa [ipL] using this
def ShortN (t : Lt) : Prop := t.ls.length ≤ 1500 ∧ ∀ l ∈ t.ls, l.nd.kids.length ≤ 1500
/-- Long, or else short. -/
def LongPost (B : Nat) (ds : List Ld) (ts : List Lt) (ps : List Lp) (w : World) (e : Ending) (w' : World) : Prop :=
  ∃ r, e = .returned (.bool r) ∧ (r = false → ds.length ≤ 1500 ∧ (∀ d ∈ ds, ShortN d.t) ∧ (∀ t ∈ ts, ShortN t) ∧ ∀ p ∈ ps, p.li.length ≤ 1500) ∧ Below B w w'
theorem infoTree18 : (Tryz.prog.info? 48).map (fun i => (i.zero, i.size, i.bytes)) = some (some (.agg #[.slice none 0 0, .int .i64 0]), 2, 32) := by kernel_rfl
/-- Below b, and of what was there only one row's block may have changed. -/
def KeptL (b : Nat) (V : Option Addr) (w w' : World) : Prop := Below b w w' ∧ ∀ x, x < w.heap.size → blkOf V ≠ some x → w'.heap[x]? = w.heap[x]?
def LgRel1 (B H : Nat) (V0 : Option Addr) (w : World) (ds : List Ld) (ts : List Lt) (bx : Obj) (v1 v7 v8 : Value) (wr : World) : Prop :=
  ∃ (k nn : Nat) (V : Option Addr) (vc : Nat), k ≤ ds.length ∧ v8 = .int .i64 k ∧ v7 = .int .i64 nn ∧ v1 = .slice V (ts.length + k) vc ∧ nn ≤ 5000 ∧ 5 * k ≤ nn ∧
    Hid (wr.ownsRow B 48 2 (.slice V (ts.length + k) vc) (ts.length + k) (ttL.all (ts ++ (ds.take k).map Ld.t))) ∧ Hid (∀ y, blkOf V = some y → (blkOf V0 = some y ∧ y < H) ∨ H < y) ∧ Hid (wr.heap[H]? = some bx) ∧ Hid (H < wr.heap.size) ∧ Hid (KeptL B V0 w wr)
def LgRel2 (W : World) (F : Prop) (ps : List Lp) (v7 v9 : Value) (wr : World) : Prop :=
  ∃ q nn : Nat, q ≤ ps.length ∧ v9 = .int .i64 q ∧ v7 = .int .i64 nn ∧ nn ≤ 5000 ∧ Hid (nn < 1500 → F ∧ ∀ p ∈ ps.take q, p.li.length ≤ 1500) ∧ Hid (Below W.heap.size W wr)
def LgRel3 (W : World) (F : Prop) (tl : List Lt) (v7 v10 : Value) (wr : World) : Prop :=
  ∃ p nn : Nat, p ≤ tl.length ∧ v10 = .int .i64 p ∧ v7 = .int .i64 nn ∧ nn ≤ 5000 ∧ Hid (nn < 1500 → F ∧ ∀ t ∈ tl.take p, ShortN t) ∧ Hid (Below W.heap.size W wr)
def LgRel4 (W : World) (F : Prop) (tl : List Lt) (p : Nat) (ls : List Ln) (v7 v11 : Value) (wr : World) : Prop :=
  ∃ m nn : Nat, m ≤ ls.length ∧ v11 = .int .i64 m ∧ v7 = .int .i64 nn ∧ nn ≤ 5000 ∧ Hid (nn < 1500 → F ∧ (∀ t ∈ tl.take p, ShortN t) ∧ m ≤ nn ∧ ∀ l ∈ ls.take m, l.nd.kids.length ≤ 1500) ∧ Hid (Below W.heap.size W wr)

set_option maxRecDepth 100000 in
set_option maxHeartbeats 12800000 in
theorem long_any (A : Option Addr) (c : Nat) (ds : List Ld) (V : Option Addr) (vc : Nat) (ts : List Lt) (PA : Option Addr) (pc : Nat) (ps : List Lp) (B : Nat) (w : World) (hB : B ≤ w.heap.size)
    (hA : ∀ w', KeptL B V w w' → dfL.row w' (fun _ => True) A ds) (hT : w.ownsRow B 48 2 (.slice V ts.length vc) ts.length (ttL.all ts)) (hTS : ∀ w', KeptL B V w w' → ∀ t ∈ ts, t.inn w' (fun _ => True)) (hP : ∀ w', KeptL B V w w' → ipL.row w' (fun _ => True) PA ps)
    (hdl : ds.length ≤ 281474976710656) (htl : ts.length ≤ 1000) (hpl : ps.length ≤ 1000) :
    Calls Tryz.prog 34 #[.agg #[.slice A ds.length c], .slice V ts.length vc, .slice PA ps.length pc] w (LongPost B ds ts ps w) := by
  obtain ⟨j0, hj, hy0, hy1, hy2⟩ := info_parts infoTree18
  have HA := Lib.hid hA; have HTS := Lib.hid hTS; have HP := Lib.hid hP
  obtain ⟨V0, HV0⟩ : ∃ V0, V0 = V := ⟨_, rfl⟩
  have HBK := Lib.hid (show ∀ y, blkOf V = some y → (blkOf V0 = some y ∧ y < w.heap.size) ∨ w.heap.size < y from fun y hy => .inl ⟨by rw [HV0]; exact hy, (own_blk hT y hy).2⟩)
  rw [← HV0] at HA HTS HP
  have HB0 := Lib.hid (show KeptL B V0 w (w.alloc (.cells #[.slice A ds.length c] 24)) from ⟨(bx1 w (.cells #[.slice A ds.length c] 24)).mono hB, fun x hx _ => Below.heap_alloc _ _ x hx⟩)
  have HO0 := Lib.hid (World.ownsRow.alloc hT (.cells #[.slice A ds.length c] 24))
  have HK0 := Lib.hid (bx_new w (.cells #[.slice A ds.length c] 24))
  have HZ0 := Lib.hid (show w.heap.size < (w.alloc (.cells #[.slice A ds.length c] 24)).heap.size from by simp)
  clear hA hTS hP hT HV0
  go_enter Tryz.func34, Tryz.ntmps34
  go_wp2_with fail
  generalize w.alloc (.cells #[.slice A ds.length c] 24) = W0 at *
  go_loopw [1, 7, 8] (fun v1 v7 v8 wr => LgRel1 B w.heap.size V0 w ds ts (.cells #[.slice A ds.length c] 24 (0, 0)) v1 v7 v8 wr) (fun _ _ v8 _ => ds.length - (intOf v8).toNat)
  case atStart => exact ⟨0, 0, V, vc, Nat.zero_le _, rfl, rfl, rfl, by omega, by omega, Lib.hid (by simpa using HO0.out), HBK, HK0, HZ0, HB0⟩
  case round =>
    clear HBK HK0 HZ0 HB0 HO0
    obtain ⟨k, nn, V, vc, hk, rfl, rfl, rfl, hn, h5, HO, HBK, HK, HZ, HB⟩ := hrel
    obtain ⟨x0, _⟩ := blk1 HK.out
    by_cases hk1 : k < ds.length
    · by_cases hn1 : nn < 1500
      · have i1 : (k : Int) < (ds.length : Int) := by omega
        have i2 : (0 : Int) ≤ (k : Int) := by omega
        have i3 : (nn : Int) < 1500 := by omega
        obtain ⟨b, o, hAA, _, _, y0, y1, y2⟩ := dfRow (HA.out wr HB.out) k hk1
        subst hAA
        have HTK := Lib.hid (show ds.take (k + 1) = ds.take k ++ [ds[k]] from List.take_succ_eq_append_getElem hk1)
        have HSD := Lib.hid ((HA.out wr HB.out).sub k hk1)
        have hnz := HSD.out.1
        generalize ds[k] = dd at *
        obtain ⟨n1, hn1'⟩ : ∃ n1 : Nat, (n1 : Int) = (nn : Int) + 5 + min 1500 (dd.name.size : Int) := ⟨nn + 5 + min 1500 dd.name.size, by omega⟩
        have HN1 := Lib.hid (show n1 ≤ 5000 ∧ 5 * (k + 1) ≤ n1 from by omega)
        have HF := Lib.hid (show ts.length + k + 1 ≤ maxLen ∧ (ts.length + k + 1) * 32 ≤ 140737488355328 ∧ B ≤ (wr.alloc (.cells #[.slice dd.t.A dd.t.ls.length dd.t.c, .int .i64 dd.t.root] 48)).heap.size from ⟨by unfold maxLen; omega, by omega, by have := HB.out.1.size; simp; omega⟩)
        have z1 := cellLt x0
        go_upto_region 6 with (fail)
        rw [← hn1']
        clear hn1' i3
        as_aux_lemma =>
          go_wp2_with (at_builtin; refine wpList_append_at _ rfl (.tmp 34) (.tmp 41) 79 rfl B 48 j0 _ 2 32 Tryz.underlying79 hj hy0 hy1 hy2 rfl (by decide) V vc (ts.length + k) (ttL.all (ts ++ (ds.take k).map Ld.t)) rfl (World.ownsRow.alloc HO.out _) (some ⟨wr.heap.size, 0, none⟩) 1 1 [.slice dd.t.A dd.t.ls.length dd.t.c, .int .i64 dd.t.root] rfl rfl (row_blk (bx_new wr _)) (fun u hu => by simp only [List.mem_cons, List.not_mem_nil, or_false] at hu; rcases hu with rfl | rfl <;> rfl) HF.out.1 HF.out.2.1 HF.out.2.2 ?_; intro V' vc' w5 HO5 HG5 HA5)
          have hz := HB.out.1.size
          have hvb : ∀ y, blkOf V = some y → B ≤ y ∧ y < wr.heap.size := fun y hy => own_blk HO.out y hy
          have hzz : wr.heap.size + 1 ≤ w5.heap.size := by have h := HG5.out.size; simpa using h
          refine ⟨⟨k + 1, n1, V', vc', hk1, by go_num, rfl, rfl, HN1.out.1, HN1.out.2, Lib.hid ?_, Lib.hid ?_, Lib.hid ?_, Lib.hid (Nat.lt_of_lt_of_le HZ.out (by omega)), Lib.hid ?_⟩, by simp only [intOf]; omega⟩
          · rw [HTK.out, List.map_append, ← List.append_assoc, Lay.all_append, List.map_singleton, Lay.all_one]; exact HO5.out
          · intro y hy
            rcases HA5.out with h | h
            · exact HBK.out y (h ▸ hy)
            · rw [h] at hy; injection hy with hy; subst hy; rw [World.size_alloc]; have := HZ.out; right; omega
          · exact (HG5.out.block w.heap.size (by have := HZ.out; simp; omega) (fun e => (HBK.out _ e.symm).elim (fun h => by have := h.2; omega) (fun h => by omega))).trans (bx_old HK.out)
          · refine ⟨(HB.out.1.alloc (by omega) _).grown HG5.out (by simp; omega) (fun x hx => (hvb x hx).1), fun x hx hne => ?_⟩
            exact (HG5.out.block x (by simp; omega) (fun e => (HBK.out _ e.symm).elim (fun h => hne h.1) (fun h => by omega))).trans ((Below.heap_alloc _ _ x (by omega)).trans (HB.out.2 x hx hne))
      · have i1 : (k : Int) < (ds.length : Int) := by omega
        have i3 : ¬ (nn : Int) < 1500 := by omega
        have i4 : (1500 : Int) ≤ (nn : Int) := by omega
        obtain ⟨wx0, rfl⟩ : ∃ wx : World, wx = wr := ⟨_, rfl⟩
        have hm : ts.length + k ≤ 281474976710656 := by omega
        clear HO HBK HK HZ h5
        generalize ts.length + k = m at *
        as_aux_lemma =>
          go_wp2_with fail
          go_loopw [7, 9] (fun v7 v9 wx => v7 = .int .i64 (nn : Nat) ∧ v9 = .int .i64 (0 : Nat) ∧ wx = wx0) (fun _ _ _ => 0)
          case atStart => exact ⟨rfl, rfl, rfl⟩
          case round =>
            obtain ⟨rfl, rfl, rfl⟩ := hrel
            rcases Nat.eq_zero_or_pos ps.length with h0 | h0
            all_goals first | have j1 : ¬ (0 : Int) < (ps.length : Int) := by omega | have j1 : (0 : Int) < (ps.length : Int) := by omega
            all_goals
              go_wp2_with fail
              go_loopw [7, 10] (fun v7 v10 wx => v7 = .int .i64 (nn : Nat) ∧ v10 = .int .i64 (0 : Nat) ∧ wx = wr) (fun _ _ _ => 0)
              case atStart => exact ⟨rfl, rfl, rfl⟩
              case round =>
                obtain ⟨rfl, rfl, rfl⟩ := hrel
                rcases Nat.eq_zero_or_pos m with h0 | h0
                all_goals first | have j2 : ¬ (0 : Int) < (m : Int) := by omega | have j2 : (0 : Int) < (m : Int) := by omega
                all_goals
                  go_wp2_with fail
                  go_ret
                  exact ⟨true, by first | rfl | (simp; omega), (fun h => by cases h), HB.out.1⟩
    · obtain rfl : k = ds.length := by omega
      by_cases hn1 : nn < 1500
      · have i1 : ¬ (ds.length : Int) < (ds.length : Int) := by omega
        have HTL := Lib.hid (show ttL.row wr (fun _ => True) V (ts ++ ds.map Ld.t) from by
          have h := HO.out
          rw [List.take_length] at h
          refine ⟨own_rowIn h (fun _ _ => trivial), fun t ht => ?_⟩
          rcases List.mem_append.1 ht with ht | ht
          · exact HTS.out wr HB.out t ht
          · obtain ⟨d, hd, rfl⟩ := List.mem_map.1 ht
            exact ((HA.out wr HB.out).2 d hd).2)
        have HPR := Lib.hid (HP.out wr HB.out)
        have hlen : ts.length + ds.length = (ts ++ ds.map Ld.t).length := by simp
        have HFE := Lib.hid (show ds.length ≤ 1500 ∧ (ts ++ ds.map Ld.t).length ≤ 281474976710656 from by rw [← hlen]; omega)
        have HFIN := Lib.hid (show ∀ F : Prop, (F → ds.length ≤ 1500) → (F ∧ ∀ p ∈ ps, p.li.length ≤ 1500) → (∀ t ∈ ts ++ ds.map Ld.t, ShortN t) → ds.length ≤ 1500 ∧ (∀ d ∈ ds, ShortN d.t) ∧ (∀ t ∈ ts, ShortN t) ∧ ∀ p ∈ ps, p.li.length ≤ 1500 from fun F h1 h2 h3 =>
          ⟨h1 h2.1, fun d hd => h3 _ (List.mem_append.2 (.inr (List.mem_map.2 ⟨d, hd, rfl⟩))), fun t ht => h3 _ (List.mem_append.2 (.inl ht)), h2.2⟩)
        rw [hlen]
        clear hlen h5 HO HBK HK HZ
        generalize ts ++ ds.map Ld.t = tl at *
        obtain ⟨wo, rfl⟩ : ∃ wo : World, wo = wr := ⟨_, rfl⟩
        go_wp2_with fail
        go_loopw [7, 9] (fun v7 v9 wx => LgRel2 wo True ps v7 v9 wx) (fun _ v9 _ => ps.length - (intOf v9).toNat)
        case atStart => exact ⟨0, nn, Nat.zero_le _, rfl, rfl, by omega, Lib.hid (fun _ => ⟨trivial, by simp⟩), Lib.hid (Below.refl _ _)⟩
        case round =>
          clear hn1 hn
          obtain ⟨q, n2, hq, rfl, rfl, hn, HS, HBW⟩ := hrel
          by_cases hq1 : q < ps.length
          · by_cases hn1 : n2 < 1500
            · have j1 : (q : Int) < (ps.length : Int) := by omega
              have j2 : (0 : Int) ≤ (q : Int) := by omega
              have j3 : (n2 : Int) < 1500 := by omega
              obtain ⟨b, o, hPP, _, _, y0⟩ := ipRow (HPR.out.below HBW.out) q hq1
              subst hPP
              have HTK := Lib.hid (show ps.take (q + 1) = ps.take q ++ [ps[q]] from List.take_succ_eq_append_getElem hq1)
              have hll := ((HPR.out.below HBW.out).sub q hq1).1
              generalize ps[q] = pp at *
              obtain ⟨n3, hn3'⟩ : ∃ n3 : Nat, (n3 : Int) = (n2 : Int) + min 1500 (pp.li.length : Int) := ⟨n2 + min 1500 pp.li.length, by omega⟩
              have HN3 := Lib.hid (show n3 ≤ 5000 ∧ (n3 < 1500 → pp.li.length ≤ 1500) from by omega)
              have HN4 := Lib.hid hn3'
              clear hn3'
              as_aux_lemma =>
                go_wp2_with fail
                rw [← HN4.out]
                go_wp2_with fail
                refine ⟨⟨q + 1, n3, hq1, by go_num, rfl, HN3.out.1, Lib.hid (fun h => ⟨trivial, fun p hp => ?_⟩), HBW⟩, by simp only [intOf]; omega⟩
                rw [HTK.out] at hp
                rcases List.mem_append.1 hp with hp | hp
                · exact (HS.out hn1).2 p hp
                · obtain rfl := List.mem_singleton.1 hp
                  exact HN3.out.2 h
            · have j1 : (q : Int) < (ps.length : Int) := by omega
              have j3 : ¬ (n2 : Int) < 1500 := by omega
              have j4 : (1500 : Int) ≤ (n2 : Int) := by omega
              have HB2 := Lib.hid (show Below B w wr from HB.out.1.trans (HBW.out.mono (Nat.le_trans hB HB.out.1.size)))
              have hml := HFE.out.2
              clear HS HFIN HTL HPR HFE i1
              as_aux_lemma =>
                go_wp2_with fail
                go_loopw [7, 10] (fun v7 v10 wx => v7 = .int .i64 (n2 : Nat) ∧ v10 = .int .i64 (0 : Nat) ∧ wx = wr) (fun _ _ _ => 0)
                case atStart => exact ⟨rfl, rfl, rfl⟩
                case round =>
                  obtain ⟨rfl, rfl, rfl⟩ := hrel
                  generalize tl.length = m at *
                  rcases Nat.eq_zero_or_pos m with h0 | h0
                  all_goals first | have j2 : ¬ (0 : Int) < (m : Int) := by omega | have j2 : (0 : Int) < (m : Int) := by omega
                  all_goals
                    go_wp2_with fail
                    go_ret
                    exact ⟨true, by first | rfl | (simp; omega), (fun h => by cases h), HB2.out⟩
          · obtain rfl : q = ps.length := by omega
            have i5 : ¬ (ps.length : Int) < (ps.length : Int) := by omega
            by_cases hn1 : n2 < 1500
            · have HF := Lib.hid (show ∀ p ∈ ps, p.li.length ≤ 1500 from fun p hp => (HS.out hn1).2 p (by rw [List.take_length]; exact hp))
              have hml := HFE.out.2
              clear HS HPR
              go_wp2_with fail
              go_loopw [7, 10] (fun v7 v10 wx => LgRel3 wo True tl v7 v10 wx) (fun _ v10 _ => tl.length - (intOf v10).toNat)
              case atStart => exact ⟨0, n2, Nat.zero_le _, rfl, rfl, hn, Lib.hid (fun _ => ⟨trivial, by simp⟩), HBW⟩
              case round =>
                clear hn hn1 HBW
                obtain ⟨p, n2, hp, rfl, rfl, hn, HS, HBW⟩ := hrel
                by_cases hp1 : p < tl.length
                · by_cases hn1 : n2 < 1500
                  · have j1 : (p : Int) < (tl.length : Int) := by omega
                    have j2 : (0 : Int) ≤ (p : Int) := by omega
                    have j3 : (n2 : Int) < 1500 := by omega
                    have HRW := Lib.hid (show ∀ w', Below wo.heap.size wo w' → ∃ b o, V = some ⟨b, o, none⟩ ∧ True ∧ b < w'.heap.size ∧ w'.cell? ⟨b, o + p * 2, none⟩ = some (.slice tl[p].A tl[p].ls.length tl[p].c) ∧ w'.cell? ⟨b, o + p * 2 + 1, none⟩ = some (.int .i64 tl[p].root) from fun w' hb => ttRow (HTL.out.below hb) p hp1)
                    obtain ⟨b, o, hVV, _, _, _, _⟩ := HRW.out wo (Below.refl _ _)
                    subst hVV
                    have HTK := Lib.hid (show tl.take (p + 1) = tl.take p ++ [tl[p]] from List.take_succ_eq_append_getElem hp1)
                    have HSD := Lib.hid (HTL.out.sub p hp1)
                    generalize tl[p] = dd at *
                    have HRX := Lib.hid (show ∀ w', Below wo.heap.size wo w' → w'.cell? ⟨b, o + p * 2, none⟩ = some (.slice dd.A dd.ls.length dd.c) from fun w' hb => by
                      obtain ⟨b', o', e, _, _, h, _⟩ := HRW.out w' hb
                      cases e; exact h)
                    clear HRW
                    have y0 := HRX.out wr HBW.out
                    go_wp2_with fail
                    clear y0
                    go_loopw [7, 11] (fun v7 v11 wx => LgRel4 wo True tl p dd.ls v7 v11 wx) (fun _ v11 _ => dd.ls.length - (intOf v11).toNat)
                    case atStart => exact ⟨0, n2 + 1, Nat.zero_le _, rfl, by go_num, by omega, Lib.hid (fun h => ⟨trivial, (HS.out hn1).2, Nat.zero_le _, by simp⟩), HBW⟩
                    case round =>
                      clear hn hn1 HBW HS j3
                      obtain ⟨m, n3, hm, rfl, rfl, hn, HS, HBW⟩ := hrel
                      have y0 := HRX.out wr HBW.out
                      by_cases hgo : m < dd.ls.length ∧ n3 < 1500
                      · obtain ⟨hm1, hn1⟩ := hgo
                        have hll : dd.ls.length ≤ 281474976710656 := HSD.out.1
                        have j3 : (m : Int) < (dd.ls.length : Int) := by omega
                        have j4 : (0 : Int) ≤ (m : Int) := by omega
                        have j5 : (n3 : Int) < 1500 := by omega
                        have hnd := HSD.out.2.below HBW.out
                        obtain ⟨nb, no, hnb, _, _, v0, v1, v2, v3, v4, v5, v6, v7, v8⟩ := ndRow (hnd.below (Below.refl _ _)) m hm1
                        have hts := (hnd.sub m hm1).1.2.1
                        have hkl := (hnd.sub m hm1).1.2.2.1
                        clear hnd
                        have HTN := Lib.hid (show dd.ls.take (m + 1) = dd.ls.take m ++ [dd.ls[m]] from List.take_succ_eq_append_getElem hm1)
                        generalize dd.ls[m] = nd at *
                        rw [hnb] at y0
                        have z0 := cellLt y0
                        have z1 := cellLt v5
                        have z2 := cellLt v8
                        have hw1 : IntKind.i64.wrap ((n3 : Int) + 1) = (n3 : Int) + 1 := IntWalk.i64_in _ (by omega)
                        have hw2 : IntKind.i64.wrap ((n3 : Int) + 1 + min 1500 (nd.nd.kids.length : Int)) = (n3 : Int) + 1 + min 1500 (nd.nd.kids.length : Int) := IntWalk.i64_in _ (by omega)
                        obtain ⟨n4, hn4'⟩ : ∃ n4 : Nat, (n4 : Int) = (n3 : Int) + 1 + min 1500 (nd.nd.kids.length : Int) + min 1500 (nd.nd.text.size : Int) / 20 := ⟨n3 + 1 + min 1500 nd.nd.kids.length + min 1500 nd.nd.text.size / 20, by omega⟩
                        have hw3 : IntKind.i64.wrap ((n3 : Int) + 1 + min 1500 (nd.nd.kids.length : Int) + min 1500 (nd.nd.text.size : Int) / 20) = (n3 : Int) + 1 + min 1500 (nd.nd.kids.length : Int) + min 1500 (nd.nd.text.size : Int) / 20 := IntWalk.i64_in _ (by omega)
                        have hb4 : n4 ≤ 5000 := by omega
                        have HFX := Lib.hid (show n4 < 1500 → n3 < 1500 ∧ n3 + 1 ≤ n4 ∧ nd.nd.kids.length ≤ 1500 from fun h => by omega)
                        have HN4 := Lib.hid hn4'
                        clear hn4'
                        as_aux_lemma =>
                          go_wp2_with fail
                          go_quiet (fail)
                          clear hw1 hw2 hw3
                          rw [← HN4.out]
                          go_wp2_with fail
                          refine ⟨⟨m + 1, n4, hm1, by go_num, rfl, hb4, Lib.hid (fun h => ?_), Lib.hid (HBW.out.trans (drewN_below' (Below.refl _ _) _))⟩, by simp only [intOf]; omega⟩
                          have h3 := HFX.out h
                          have h2 := HS.out h3.1
                          refine ⟨trivial, h2.2.1, by omega, fun l hl => ?_⟩
                          rw [HTN.out] at hl
                          rcases List.mem_append.1 hl with hl | hl
                          · exact h2.2.2.2 l hl
                          · obtain rfl := List.mem_singleton.1 hl; exact h3.2.2
                      · have HNX := Lib.hid (show n3 < 1500 → True ∧ ∀ t ∈ tl.take (p + 1), ShortN t from fun h => by
                          have h2 := HS.out h
                          refine ⟨trivial, fun t ht => ?_⟩
                          rw [HTK.out] at ht
                          rcases List.mem_append.1 ht with ht | ht
                          · exact h2.2.1 t ht
                          · obtain rfl := List.mem_singleton.1 ht
                            have hmm : m = t.ls.length := by omega
                            exact ⟨by omega, fun l hl => h2.2.2.2 l (by rw [hmm, List.take_length]; exact hl)⟩)
                        have z0 := cellLt y0
                        by_cases hm1 : m < dd.ls.length
                        · have j3 : (m : Int) < (dd.ls.length : Int) := by omega
                          have j5 : ¬ (n3 : Int) < 1500 := by omega
                          as_aux_lemma =>
                            go_wp2_with fail
                            exact ⟨⟨p + 1, n3, hp1, by go_num, rfl, hn, HNX, HBW⟩, by simp only [intOf]; omega⟩
                        · have j3 : ¬ (m : Int) < (dd.ls.length : Int) := by omega
                          as_aux_lemma =>
                            go_wp2_with fail
                            exact ⟨⟨p + 1, n3, hp1, by go_num, rfl, hn, HNX, HBW⟩, by simp only [intOf]; omega⟩
                  · have j1 : (p : Int) < (tl.length : Int) := by omega
                    have j3 : ¬ (n2 : Int) < 1500 := by omega
                    have j4 : (1500 : Int) ≤ (n2 : Int) := by omega
                    have HB2 := Lib.hid (show Below B w wr from HB.out.1.trans (HBW.out.mono (Nat.le_trans hB HB.out.1.size)))
                    as_aux_lemma =>
                      go_wp2_with fail
                      go_ret
                      exact ⟨true, by first | rfl | (simp; omega), (fun h => by cases h), HB2.out⟩
                · obtain rfl : p = tl.length := by omega
                  have j1 : ¬ (tl.length : Int) < (tl.length : Int) := by omega
                  have HB2 := Lib.hid (show Below B w wr from HB.out.1.trans (HBW.out.mono (Nat.le_trans hB HB.out.1.size)))
                  by_cases hn1 : n2 < 1500
                  · have j4 : ¬ (1500 : Int) ≤ (n2 : Int) := by omega
                    have HE := Lib.hid (show ∀ t ∈ tl, ShortN t from fun t ht => (HS.out hn1).2 t (by rw [List.take_length]; exact ht))
                    as_aux_lemma =>
                      go_wp2_with fail
                      go_ret
                      exact ⟨false, by first | rfl | (simp; omega), fun _ => HFIN.out True (fun _ => HFE.out.1) ⟨trivial, HF.out⟩ HE.out, HB2.out⟩
                  · have j4 : (1500 : Int) ≤ (n2 : Int) := by omega
                    as_aux_lemma =>
                      go_wp2_with fail
                      go_ret
                      exact ⟨true, by first | rfl | (simp; omega), (fun h => by cases h), HB2.out⟩
            · have j3 : ¬ (n2 : Int) < 1500 := by omega
              have j4 : (1500 : Int) ≤ (n2 : Int) := by omega
              have HB2 := Lib.hid (show Below B w wr from HB.out.1.trans (HBW.out.mono (Nat.le_trans hB HB.out.1.size)))
              have hml := HFE.out.2
              clear HS HFIN HTL HPR HFE i1
              as_aux_lemma =>
                go_wp2_with fail
                go_loopw [7, 10] (fun v7 v10 wx => v7 = .int .i64 (n2 : Nat) ∧ v10 = .int .i64 (0 : Nat) ∧ wx = wr) (fun _ _ _ => 0)
                case atStart => exact ⟨rfl, rfl, rfl⟩
                case round =>
                  obtain ⟨rfl, rfl, rfl⟩ := hrel
                  generalize tl.length = m at *
                  rcases Nat.eq_zero_or_pos m with h0 | h0
                  all_goals first | have j2 : ¬ (0 : Int) < (m : Int) := by omega | have j2 : (0 : Int) < (m : Int) := by omega
                  all_goals
                    go_wp2_with fail
                    go_ret
                    exact ⟨true, by first | rfl | (simp; omega), (fun h => by cases h), HB2.out⟩
      · have i1 : ¬ (ds.length : Int) < (ds.length : Int) := by omega
        have i3 : ¬ (nn : Int) < 1500 := by omega
        have i4 : (1500 : Int) ≤ (nn : Int) := by omega
        obtain ⟨wx0, rfl⟩ : ∃ wx : World, wx = wr := ⟨_, rfl⟩
        have hm : ts.length + ds.length ≤ 281474976710656 := by omega
        clear HO HBK HK HZ h5
        generalize ts.length + ds.length = m at *
        as_aux_lemma =>
          go_wp2_with fail
          go_loopw [7, 9] (fun v7 v9 wx => v7 = .int .i64 (nn : Nat) ∧ v9 = .int .i64 (0 : Nat) ∧ wx = wx0) (fun _ _ _ => 0)
          case atStart => exact ⟨rfl, rfl, rfl⟩
          case round =>
            obtain ⟨rfl, rfl, rfl⟩ := hrel
            rcases Nat.eq_zero_or_pos ps.length with h0 | h0
            all_goals first | have j1 : ¬ (0 : Int) < (ps.length : Int) := by omega | have j1 : (0 : Int) < (ps.length : Int) := by omega
            all_goals
              go_wp2_with fail
              go_loopw [7, 10] (fun v7 v10 wx => v7 = .int .i64 (nn : Nat) ∧ v10 = .int .i64 (0 : Nat) ∧ wx = wr) (fun _ _ _ => 0)
              case atStart => exact ⟨rfl, rfl, rfl⟩
              case round =>
                obtain ⟨rfl, rfl, rfl⟩ := hrel
                rcases Nat.eq_zero_or_pos m with h0 | h0
                all_goals first | have j2 : ¬ (0 : Int) < (m : Int) := by omega | have j2 : (0 : Int) < (m : Int) := by omega
                all_goals
                  go_wp2_with fail
                  go_ret
                  exact ⟨true, by first | rfl | (simp; omega), (fun h => by cases h), HB.out.1⟩
end Go.Proofs.YtmjkgnknfgoadaaGreatDoor
