/- The contract of lex.Same. -/
import Derived.Test.YtidcoldoalimfaaDoorLz
namespace Go.Proofs.YtidcoldoalimfaaDoor
open Go.RowKit Go.Shelf
set_option linter.unusedSimpArgs false
set_option linter.unusedVariables false

/-- The words l lie at A, ten cells each. -/
def WRow (w : World) (A : Option Addr) (l : List Wd) : Prop := ∀ k (hk : k < l.length), ∃ g o, A = some ⟨g, o, none⟩ ∧ g < w.heap.size ∧
  w.cell? ⟨g, o + k * 10, none⟩ = some (.int .u8 (l[k].kind : Int)) ∧ w.cell? ⟨g, o + k * 10 + 1, none⟩ = some (.int .i64 (l[k].frm : Int)) ∧ w.cell? ⟨g, o + k * 10 + 2, none⟩ = some (.int .i64 (l[k].til : Int)) ∧ w.cell? ⟨g, o + k * 10 + 3, none⟩ = some (.string ⟨l[k].text.toArray⟩) ∧
  w.cell? ⟨g, o + k * 10 + 4, none⟩ = some (.int .u64 (l[k].s0 : Int)) ∧ w.cell? ⟨g, o + k * 10 + 5, none⟩ = some (.int .u64 (l[k].s1 : Int)) ∧ w.cell? ⟨g, o + k * 10 + 6, none⟩ = some (.int .u64 (l[k].s2 : Int)) ∧ w.cell? ⟨g, o + k * 10 + 7, none⟩ = some (.int .u64 (l[k].s3 : Int)) ∧
  w.cell? ⟨g, o + k * 10 + 8, none⟩ = some (.int .i64 l[k].low) ∧ w.cell? ⟨g, o + k * 10 + 9, none⟩ = some (.int .i64 l[k].high)
theorem WRow.below {w w' : World} {A : Option Addr} {l : List Wd} (h : WRow w A l) (hb : Below w.heap.size w w') : WRow w' A l := fun k hk => by
  obtain ⟨g, o, e, hg, h0, h1, h2, h3, h4, h5, h6, h7, h8, h9⟩ := h k hk
  exact ⟨g, o, e, Nat.lt_of_lt_of_le hg hb.size, (hb.cell hg).trans h0, (hb.cell hg).trans h1, (hb.cell hg).trans h2, (hb.cell hg).trans h3, (hb.cell hg).trans h4, (hb.cell hg).trans h5, (hb.cell hg).trans h6, (hb.cell hg).trans h7, (hb.cell hg).trans h8, (hb.cell hg).trans h9⟩
/-- A part of a row. -/
theorem WRow.part {w : World} {g o : Nat} {l : List Wd} (h : WRow w (some ⟨g, o, none⟩) l) (i n : Nat) : WRow w (some ⟨g, o + i * 10, none⟩) ((l.drop i).take n) := fun k hk => by
  rw [List.length_take, List.length_drop] at hk
  have e : ((l.drop i).take n)[k]'(by rw [List.length_take, List.length_drop]; exact hk) = l[i + k]'(by omega) := by rw [List.getElem_take, List.getElem_drop]
  obtain ⟨g', o', e', hg, h0, h1, h2, h3, h4, h5, h6, h7, h8, h9⟩ := h (i + k) (by omega)
  cases e'
  have ea : o + (i + k) * 10 = o + i * 10 + k * 10 := by omega
  rw [ea] at h0 h1 h2 h3 h4 h5 h6 h7 h8 h9
  rw [e]
  exact ⟨g, o + i * 10, rfl, hg, h0, h1, h2, h3, h4, h5, h6, h7, h8, h9⟩
/-- The words l lie at A, ten cells each, with the places f, t. -/
def WRowZ (w : World) (A : Option Addr) (l : List Wd) (f t : Nat → Int) : Prop := ∀ k (hk : k < l.length), ∃ g o, A = some ⟨g, o, none⟩ ∧ g < w.heap.size ∧
  w.cell? ⟨g, o + k * 10, none⟩ = some (.int .u8 (l[k].kind : Int)) ∧ w.cell? ⟨g, o + k * 10 + 1, none⟩ = some (.int .i64 (f k)) ∧ w.cell? ⟨g, o + k * 10 + 2, none⟩ = some (.int .i64 (t k)) ∧ w.cell? ⟨g, o + k * 10 + 3, none⟩ = some (.string ⟨l[k].text.toArray⟩) ∧
  w.cell? ⟨g, o + k * 10 + 4, none⟩ = some (.int .u64 (l[k].s0 : Int)) ∧ w.cell? ⟨g, o + k * 10 + 5, none⟩ = some (.int .u64 (l[k].s1 : Int)) ∧ w.cell? ⟨g, o + k * 10 + 6, none⟩ = some (.int .u64 (l[k].s2 : Int)) ∧ w.cell? ⟨g, o + k * 10 + 7, none⟩ = some (.int .u64 (l[k].s3 : Int)) ∧
  w.cell? ⟨g, o + k * 10 + 8, none⟩ = some (.int .i64 l[k].low) ∧ w.cell? ⟨g, o + k * 10 + 9, none⟩ = some (.int .i64 l[k].high)
theorem WRowZ.below {w w' : World} {A : Option Addr} {l : List Wd} {f t : Nat → Int} (h : WRowZ w A l f t) (hb : Below w.heap.size w w') : WRowZ w' A l f t := fun k hk => by
  obtain ⟨g, o, e, hg, h0, h1, h2, h3, h4, h5, h6, h7, h8, h9⟩ := h k hk
  exact ⟨g, o, e, Nat.lt_of_lt_of_le hg hb.size, (hb.cell hg).trans h0, (hb.cell hg).trans h1, (hb.cell hg).trans h2, (hb.cell hg).trans h3, (hb.cell hg).trans h4, (hb.cell hg).trans h5, (hb.cell hg).trans h6, (hb.cell hg).trans h7, (hb.cell hg).trans h8, (hb.cell hg).trans h9⟩
theorem WRow.z {w : World} {A : Option Addr} {l : List Wd} (h : WRow w A l) : WRowZ w A l (fun k => ((l[k]?.map Wd.frm).getD 0 : Nat)) (fun k => ((l[k]?.map Wd.til).getD 0 : Nat)) := fun k hk => by
  have h0 := h k hk
  have e : l[k]? = some l[k] := List.getElem?_eq_getElem hk
  simp only [e, Option.map_some, Option.getD_some]
  exact h0
def sameW (la lb : List Wd) : Bool := decide (la.map bareW = lb.map bareW)
theorem sameW_len {a b : List Wd} (h : a.length ≠ b.length) : sameW a b = false := decide_eq_false fun e => h (by have := congrArg List.length e; simpa using this)
theorem sameW_bad {a b : List Wd} {i : Nat} (ha : i < a.length) (hb : i < b.length) (h : bareW a[i] ≠ bareW b[i]) : sameW a b = false := decide_eq_false fun e => h (by
  have h1 : (a.map bareW)[i]? = (b.map bareW)[i]? := by rw [e]
  simpa [ha, hb] using h1)
theorem sameW_all {a b : List Wd} (hl : a.length = b.length) (h : ∀ i (ha : i < a.length) (hb : i < b.length), bareW a[i] = bareW b[i]) : sameW a b = true := decide_eq_true (by
  apply List.ext_getElem (by simpa using hl)
  intro i h1 h2
  rw [List.getElem_map, List.getElem_map]
  exact h i (by simpa using h1) (by simpa using h2))
theorem ret_boolW {a b : Bool} (h : a = b) : Ending.returned (.bool a) = Ending.returned (.bool b) := by rw [h]
set_option maxRecDepth 100000 in
set_option maxHeartbeats 1600000 in
theorem same_z (la lb : List Wd) (A B : Option Addr) (f t f' t' : Nat → Int) (c d : Nat) (w : World) (hA : WRowZ w A la f t) (hB : WRowZ w B lb f' t') (hl : la.length ≤ 4294967296) (hm : lb.length ≤ 4294967296) :
    Calls Tryd.prog 13 #[.slice A la.length c, .slice B lb.length d] w fun e w' => e = .returned (.bool (sameW la lb)) ∧ Below w.heap.size w w' := by
  have HA := Lib.hid hA; have HB' := Lib.hid hB; clear hA hB
  by_cases hlm : la.length = lb.length
  · have e1 : ((la.length : Int) != (lb.length : Int)) = false := by simp [hlm]
    have HLM := Lib.hid hlm; clear hlm
    go_enter Tryd.func13, Tryd.ntmps13
    go_wp2_with fail
    clear e1
    go_loopw [14] (fun i wr => ∃ k : Nat, k ≤ la.length ∧ i = .int .i64 k ∧ Hid (∀ i (ha : i < la.length) (hb : i < lb.length), i < k → bareW la[i] = bareW lb[i]) ∧ Hid (Below w.heap.size w wr)) (fun i _ => la.length - (intOf i).toNat)
    case atStart => exact ⟨0, by omega, rfl, Lib.hid (fun i _ _ h => by omega), Lib.hid (Below.refl _ _)⟩
    case round =>
      obtain ⟨k, hk, rfl, HE, HB⟩ := hrel
      by_cases hlt : k < la.length
      · have hlt2 : k < lb.length := by have := HLM.out; omega
        obtain ⟨g, o, rfl, hg, x0, x1, x2, x3, x4, x5, x6, x7, x8, x9⟩ := (HA.out.below HB.out) k hlt
        obtain ⟨g', o', rfl, hg', y0, y1, y2, y3, y4, y5, y6, y7, y8, y9⟩ := (HB'.out.below HB.out) k hlt2
        have i1 : (k : Int) < (la.length : Int) := by omega
        have i2 : (k : Int) < (lb.length : Int) := by omega
        have HNO := Lib.hid (show bareW la[k] ≠ bareW lb[k] → sameW la lb = false from fun h => sameW_bad hlt hlt2 h)
        have HGO := Lib.hid (show bareW la[k] = bareW lb[k] → ∀ i (ha : i < la.length) (hb : i < lb.length), i < k + 1 → bareW la[i] = bareW lb[i] from fun h i ha hb hi => by
          by_cases e : i = k
          · subst e; exact h
          · exact HE.out i ha hb (by omega))
        clear HE
        generalize la[k] = X at *
        generalize lb[k] = Y at *
        obtain ⟨kx, fx0, tx0, sx, p0, p1, p2, p3, lx, mx⟩ := X
        obtain ⟨ky, fy0, ty0, sy, q0, q1, q2, q3, ly, my⟩ := Y
        simp only at x0 x3 x4 x5 x6 x7 x8 x9 y0 y3 y4 y5 y6 y7 y8 y9
        generalize f k = fx at *
        generalize t k = tx at *
        generalize f' k = fy at *
        generalize t' k = ty at *
        go_upto_region 6 with fail
        have HS := Lib.hid (show ∀ w', Below (wr.alloc (.cells #[.int .u8 (kx : Int), .int .i64 fx, .int .i64 tx, .string ⟨sx.toArray⟩, .int .u64 (p0 : Int), .int .u64 (p1 : Int), .int .u64 (p2 : Int), .int .u64 (p3 : Int), .int .i64 lx, .int .i64 mx] 32)).heap.size (wr.alloc (.cells #[.int .u8 (kx : Int), .int .i64 fx, .int .i64 tx, .string ⟨sx.toArray⟩, .int .u64 (p0 : Int), .int .u64 (p1 : Int), .int .u64 (p2 : Int), .int .u64 (p3 : Int), .int .i64 lx, .int .i64 mx] 32)) w' → (w'.cell? ⟨wr.heap.size, 0, none⟩ = some (.int .u8 (kx : Int)) ∧ w'.cell? ⟨wr.heap.size, 1, none⟩ = some (.int .i64 fx) ∧ w'.cell? ⟨wr.heap.size, 2, none⟩ = some (.int .i64 tx) ∧ w'.cell? ⟨wr.heap.size, 3, none⟩ = some (.string ⟨sx.toArray⟩) ∧ w'.cell? ⟨wr.heap.size, 4, none⟩ = some (.int .u64 (p0 : Int)) ∧ w'.cell? ⟨wr.heap.size, 5, none⟩ = some (.int .u64 (p1 : Int)) ∧ w'.cell? ⟨wr.heap.size, 6, none⟩ = some (.int .u64 (p2 : Int)) ∧ w'.cell? ⟨wr.heap.size, 7, none⟩ = some (.int .u64 (p3 : Int)) ∧ w'.cell? ⟨wr.heap.size, 8, none⟩ = some (.int .i64 lx) ∧ w'.cell? ⟨wr.heap.size, 9, none⟩ = some (.int .i64 mx) ∧ w'.cell? ⟨g', o' + k * 10, none⟩ = some (.int .u8 (ky : Int)) ∧ w'.cell? ⟨g', o' + k * 10 + 1, none⟩ = some (.int .i64 fy) ∧ w'.cell? ⟨g', o' + k * 10 + 2, none⟩ = some (.int .i64 ty) ∧ w'.cell? ⟨g', o' + k * 10 + 3, none⟩ = some (.string ⟨sy.toArray⟩) ∧ w'.cell? ⟨g', o' + k * 10 + 4, none⟩ = some (.int .u64 (q0 : Int)) ∧ w'.cell? ⟨g', o' + k * 10 + 5, none⟩ = some (.int .u64 (q1 : Int)) ∧ w'.cell? ⟨g', o' + k * 10 + 6, none⟩ = some (.int .u64 (q2 : Int)) ∧ w'.cell? ⟨g', o' + k * 10 + 7, none⟩ = some (.int .u64 (q3 : Int)) ∧ w'.cell? ⟨g', o' + k * 10 + 8, none⟩ = some (.int .i64 ly) ∧ w'.cell? ⟨g', o' + k * 10 + 9, none⟩ = some (.int .i64 my)) from fun w' hb => by
          obtain ⟨t0, t1, t2, t3, t4, t5, t6, t7, t8, t9, _⟩ := blk10 (bx_kept hb (bx_new wr (.cells #[.int .u8 (kx : Int), .int .i64 fx, .int .i64 tx, .string ⟨sx.toArray⟩, .int .u64 (p0 : Int), .int .u64 (p1 : Int), .int .u64 (p2 : Int), .int .u64 (p3 : Int), .int .i64 lx, .int .i64 mx] 32)))
          have hb1 := Below.step (bx1 wr (.cells #[.int .u8 (kx : Int), .int .i64 fx, .int .i64 tx, .string ⟨sx.toArray⟩, .int .u64 (p0 : Int), .int .u64 (p1 : Int), .int .u64 (p2 : Int), .int .u64 (p3 : Int), .int .i64 lx, .int .i64 mx] 32)) hb
          exact ⟨t0, t1, t2, t3, t4, t5, t6, t7, t8, t9, (hb1.cell hg').trans y0, (hb1.cell hg').trans y1, (hb1.cell hg').trans y2, (hb1.cell hg').trans y3, (hb1.cell hg').trans y4, (hb1.cell hg').trans y5, (hb1.cell hg').trans y6, (hb1.cell hg').trans y7, (hb1.cell hg').trans y8, (hb1.cell hg').trans y9⟩)
        have HBA := Lib.hid (Below.step HB.out (bx1 wr (.cells #[.int .u8 (kx : Int), .int .i64 fx, .int .i64 tx, .string ⟨sx.toArray⟩, .int .u64 (p0 : Int), .int .u64 (p1 : Int), .int .u64 (p2 : Int), .int .u64 (p3 : Int), .int .i64 lx, .int .i64 mx] 32)))
        clear x0 x1 x2 x3 x4 x5 x6 x7 x8 x9 y0 y1 y2 y3 y4 y5 y6 y7 y8 y9 hg hg' HA HB'
        generalize hBq : wr.heap.size = B at *
        generalize wr.alloc (.cells #[.int .u8 (kx : Int), .int .i64 fx, .int .i64 tx, .string ⟨sx.toArray⟩, .int .u64 (p0 : Int), .int .u64 (p1 : Int), .int .u64 (p2 : Int), .int .u64 (p3 : Int), .int .i64 lx, .int .i64 mx] 32) = wq at *
        clear hBq
        have HB0 := Lib.hid (Below.refl wq.heap.size wq).drew
        by_cases c0 : kx = ky
        rotate_left 1
        · have HN := Lib.hid (HNO.out (fun h => c0 (by injection h)))
          clear HNO HGO
          have d0 : ((kx : Int) == (ky : Int)) = false := by simp; omega
          go_region_held3 (fun w' => w'.cell? ⟨B, 0, none⟩ = some (.int .u8 (kx : Int)) ∧ w'.cell? ⟨B, 1, none⟩ = some (.int .i64 fx) ∧ w'.cell? ⟨B, 2, none⟩ = some (.int .i64 tx) ∧ w'.cell? ⟨B, 3, none⟩ = some (.string ⟨sx.toArray⟩) ∧ w'.cell? ⟨B, 4, none⟩ = some (.int .u64 (p0 : Int)) ∧ w'.cell? ⟨B, 5, none⟩ = some (.int .u64 (p1 : Int)) ∧ w'.cell? ⟨B, 6, none⟩ = some (.int .u64 (p2 : Int)) ∧ w'.cell? ⟨B, 7, none⟩ = some (.int .u64 (p3 : Int)) ∧ w'.cell? ⟨B, 8, none⟩ = some (.int .i64 lx) ∧ w'.cell? ⟨B, 9, none⟩ = some (.int .i64 mx) ∧ w'.cell? ⟨g', o' + k * 10, none⟩ = some (.int .u8 (ky : Int)) ∧ w'.cell? ⟨g', o' + k * 10 + 1, none⟩ = some (.int .i64 fy) ∧ w'.cell? ⟨g', o' + k * 10 + 2, none⟩ = some (.int .i64 ty) ∧ w'.cell? ⟨g', o' + k * 10 + 3, none⟩ = some (.string ⟨sy.toArray⟩) ∧ w'.cell? ⟨g', o' + k * 10 + 4, none⟩ = some (.int .u64 (q0 : Int)) ∧ w'.cell? ⟨g', o' + k * 10 + 5, none⟩ = some (.int .u64 (q1 : Int)) ∧ w'.cell? ⟨g', o' + k * 10 + 6, none⟩ = some (.int .u64 (q2 : Int)) ∧ w'.cell? ⟨g', o' + k * 10 + 7, none⟩ = some (.int .u64 (q3 : Int)) ∧ w'.cell? ⟨g', o' + k * 10 + 8, none⟩ = some (.int .i64 ly) ∧ w'.cell? ⟨g', o' + k * 10 + 9, none⟩ = some (.int .i64 my)) (first | exact HS.out _ (Below.refl _ _) | exact HS.out _ HB0.out | exact HS.out _ HB1.out | exact HS.out _ HB2.out | fail) (first | (go_at_call 16; (with_reducible refine (bare_at kx fx tx sx p0 p1 p2 p3 lx mx _).mono ?_); rintro e w1 ⟨rfl, hb⟩; have HB1 := Lib.hid (Below.step HB0.out hb); clear hb) | (go_at_call 16; (with_reducible refine (bare_at ky fy ty sy q0 q1 q2 q3 ly my _).mono ?_); rintro e w2 ⟨rfl, hb⟩; have HB2 := Lib.hid (Below.step HB1.out hb); clear hb) | fail)
          go_wp2_with fail
          all_goals exact bodyPost_ret (v := .bool false) (by simp [results, Tryd.results13, go_sem]) rfl ⟨ret_boolW HN.out.symm, Below.step HBA.out HB2.out⟩
        subst c0
        by_cases c1 : sx = sy
        rotate_left 1
        · have HN := Lib.hid (HNO.out (fun h => c1 (by injection h)))
          clear HNO HGO
          have d1 : (sx.toArray == sy.toArray) = false := by simp [c1]
          go_region_held3 (fun w' => w'.cell? ⟨B, 0, none⟩ = some (.int .u8 (kx : Int)) ∧ w'.cell? ⟨B, 1, none⟩ = some (.int .i64 fx) ∧ w'.cell? ⟨B, 2, none⟩ = some (.int .i64 tx) ∧ w'.cell? ⟨B, 3, none⟩ = some (.string ⟨sx.toArray⟩) ∧ w'.cell? ⟨B, 4, none⟩ = some (.int .u64 (p0 : Int)) ∧ w'.cell? ⟨B, 5, none⟩ = some (.int .u64 (p1 : Int)) ∧ w'.cell? ⟨B, 6, none⟩ = some (.int .u64 (p2 : Int)) ∧ w'.cell? ⟨B, 7, none⟩ = some (.int .u64 (p3 : Int)) ∧ w'.cell? ⟨B, 8, none⟩ = some (.int .i64 lx) ∧ w'.cell? ⟨B, 9, none⟩ = some (.int .i64 mx) ∧ w'.cell? ⟨g', o' + k * 10, none⟩ = some (.int .u8 (kx : Int)) ∧ w'.cell? ⟨g', o' + k * 10 + 1, none⟩ = some (.int .i64 fy) ∧ w'.cell? ⟨g', o' + k * 10 + 2, none⟩ = some (.int .i64 ty) ∧ w'.cell? ⟨g', o' + k * 10 + 3, none⟩ = some (.string ⟨sy.toArray⟩) ∧ w'.cell? ⟨g', o' + k * 10 + 4, none⟩ = some (.int .u64 (q0 : Int)) ∧ w'.cell? ⟨g', o' + k * 10 + 5, none⟩ = some (.int .u64 (q1 : Int)) ∧ w'.cell? ⟨g', o' + k * 10 + 6, none⟩ = some (.int .u64 (q2 : Int)) ∧ w'.cell? ⟨g', o' + k * 10 + 7, none⟩ = some (.int .u64 (q3 : Int)) ∧ w'.cell? ⟨g', o' + k * 10 + 8, none⟩ = some (.int .i64 ly) ∧ w'.cell? ⟨g', o' + k * 10 + 9, none⟩ = some (.int .i64 my)) (first | exact HS.out _ (Below.refl _ _) | exact HS.out _ HB0.out | exact HS.out _ HB1.out | exact HS.out _ HB2.out | fail) (first | (go_at_call 16; (with_reducible refine (bare_at kx fx tx sx p0 p1 p2 p3 lx mx _).mono ?_); rintro e w1 ⟨rfl, hb⟩; have HB1 := Lib.hid (Below.step HB0.out hb); clear hb) | (go_at_call 16; (with_reducible refine (bare_at kx fy ty sy q0 q1 q2 q3 ly my _).mono ?_); rintro e w2 ⟨rfl, hb⟩; have HB2 := Lib.hid (Below.step HB1.out hb); clear hb) | fail)
          go_wp2_with fail
          all_goals exact bodyPost_ret (v := .bool false) (by simp [results, Tryd.results13, go_sem]) rfl ⟨ret_boolW HN.out.symm, Below.step HBA.out HB2.out⟩
        subst c1
        by_cases c2 : p0 = q0
        rotate_left 1
        · have HN := Lib.hid (HNO.out (fun h => c2 (by injection h)))
          clear HNO HGO
          have heq : ∀ w, (Op.equalIn 9999 30 (.agg #[.int .u64 (p0 : Int), .int .u64 (p1 : Int), .int .u64 (p2 : Int), .int .u64 (p3 : Int)]) (.agg #[.int .u64 (q0 : Int), .int .u64 (q1 : Int), .int .u64 (q2 : Int), .int .u64 (q3 : Int)])).run Tryd.prog w = .ok false w := fun w => by rw [equal_sets, decide_eq_false (by omega)]
          go_region_held3 (fun w' => w'.cell? ⟨B, 0, none⟩ = some (.int .u8 (kx : Int)) ∧ w'.cell? ⟨B, 1, none⟩ = some (.int .i64 fx) ∧ w'.cell? ⟨B, 2, none⟩ = some (.int .i64 tx) ∧ w'.cell? ⟨B, 3, none⟩ = some (.string ⟨sx.toArray⟩) ∧ w'.cell? ⟨B, 4, none⟩ = some (.int .u64 (p0 : Int)) ∧ w'.cell? ⟨B, 5, none⟩ = some (.int .u64 (p1 : Int)) ∧ w'.cell? ⟨B, 6, none⟩ = some (.int .u64 (p2 : Int)) ∧ w'.cell? ⟨B, 7, none⟩ = some (.int .u64 (p3 : Int)) ∧ w'.cell? ⟨B, 8, none⟩ = some (.int .i64 lx) ∧ w'.cell? ⟨B, 9, none⟩ = some (.int .i64 mx) ∧ w'.cell? ⟨g', o' + k * 10, none⟩ = some (.int .u8 (kx : Int)) ∧ w'.cell? ⟨g', o' + k * 10 + 1, none⟩ = some (.int .i64 fy) ∧ w'.cell? ⟨g', o' + k * 10 + 2, none⟩ = some (.int .i64 ty) ∧ w'.cell? ⟨g', o' + k * 10 + 3, none⟩ = some (.string ⟨sx.toArray⟩) ∧ w'.cell? ⟨g', o' + k * 10 + 4, none⟩ = some (.int .u64 (q0 : Int)) ∧ w'.cell? ⟨g', o' + k * 10 + 5, none⟩ = some (.int .u64 (q1 : Int)) ∧ w'.cell? ⟨g', o' + k * 10 + 6, none⟩ = some (.int .u64 (q2 : Int)) ∧ w'.cell? ⟨g', o' + k * 10 + 7, none⟩ = some (.int .u64 (q3 : Int)) ∧ w'.cell? ⟨g', o' + k * 10 + 8, none⟩ = some (.int .i64 ly) ∧ w'.cell? ⟨g', o' + k * 10 + 9, none⟩ = some (.int .i64 my)) (first | exact HS.out _ (Below.refl _ _) | exact HS.out _ HB0.out | exact HS.out _ HB1.out | exact HS.out _ HB2.out | fail) (first | (go_at_call 16; (with_reducible refine (bare_at kx fx tx sx p0 p1 p2 p3 lx mx _).mono ?_); rintro e w1 ⟨rfl, hb⟩; have HB1 := Lib.hid (Below.step HB0.out hb); clear hb) | (go_at_call 16; (with_reducible refine (bare_at kx fy ty sx q0 q1 q2 q3 ly my _).mono ?_); rintro e w2 ⟨rfl, hb⟩; have HB2 := Lib.hid (Below.step HB1.out hb); clear hb) | fail)
          go_wp2_with fail
          all_goals exact bodyPost_ret (v := .bool false) (by simp [results, Tryd.results13, go_sem]) rfl ⟨ret_boolW HN.out.symm, Below.step HBA.out HB2.out⟩
        subst c2
        by_cases c3 : p1 = q1
        rotate_left 1
        · have HN := Lib.hid (HNO.out (fun h => c3 (by injection h)))
          clear HNO HGO
          have heq : ∀ w, (Op.equalIn 9999 30 (.agg #[.int .u64 (p0 : Int), .int .u64 (p1 : Int), .int .u64 (p2 : Int), .int .u64 (p3 : Int)]) (.agg #[.int .u64 (p0 : Int), .int .u64 (q1 : Int), .int .u64 (q2 : Int), .int .u64 (q3 : Int)])).run Tryd.prog w = .ok false w := fun w => by rw [equal_sets, decide_eq_false (by omega)]
          go_region_held3 (fun w' => w'.cell? ⟨B, 0, none⟩ = some (.int .u8 (kx : Int)) ∧ w'.cell? ⟨B, 1, none⟩ = some (.int .i64 fx) ∧ w'.cell? ⟨B, 2, none⟩ = some (.int .i64 tx) ∧ w'.cell? ⟨B, 3, none⟩ = some (.string ⟨sx.toArray⟩) ∧ w'.cell? ⟨B, 4, none⟩ = some (.int .u64 (p0 : Int)) ∧ w'.cell? ⟨B, 5, none⟩ = some (.int .u64 (p1 : Int)) ∧ w'.cell? ⟨B, 6, none⟩ = some (.int .u64 (p2 : Int)) ∧ w'.cell? ⟨B, 7, none⟩ = some (.int .u64 (p3 : Int)) ∧ w'.cell? ⟨B, 8, none⟩ = some (.int .i64 lx) ∧ w'.cell? ⟨B, 9, none⟩ = some (.int .i64 mx) ∧ w'.cell? ⟨g', o' + k * 10, none⟩ = some (.int .u8 (kx : Int)) ∧ w'.cell? ⟨g', o' + k * 10 + 1, none⟩ = some (.int .i64 fy) ∧ w'.cell? ⟨g', o' + k * 10 + 2, none⟩ = some (.int .i64 ty) ∧ w'.cell? ⟨g', o' + k * 10 + 3, none⟩ = some (.string ⟨sx.toArray⟩) ∧ w'.cell? ⟨g', o' + k * 10 + 4, none⟩ = some (.int .u64 (p0 : Int)) ∧ w'.cell? ⟨g', o' + k * 10 + 5, none⟩ = some (.int .u64 (q1 : Int)) ∧ w'.cell? ⟨g', o' + k * 10 + 6, none⟩ = some (.int .u64 (q2 : Int)) ∧ w'.cell? ⟨g', o' + k * 10 + 7, none⟩ = some (.int .u64 (q3 : Int)) ∧ w'.cell? ⟨g', o' + k * 10 + 8, none⟩ = some (.int .i64 ly) ∧ w'.cell? ⟨g', o' + k * 10 + 9, none⟩ = some (.int .i64 my)) (first | exact HS.out _ (Below.refl _ _) | exact HS.out _ HB0.out | exact HS.out _ HB1.out | exact HS.out _ HB2.out | fail) (first | (go_at_call 16; (with_reducible refine (bare_at kx fx tx sx p0 p1 p2 p3 lx mx _).mono ?_); rintro e w1 ⟨rfl, hb⟩; have HB1 := Lib.hid (Below.step HB0.out hb); clear hb) | (go_at_call 16; (with_reducible refine (bare_at kx fy ty sx p0 q1 q2 q3 ly my _).mono ?_); rintro e w2 ⟨rfl, hb⟩; have HB2 := Lib.hid (Below.step HB1.out hb); clear hb) | fail)
          go_wp2_with fail
          all_goals exact bodyPost_ret (v := .bool false) (by simp [results, Tryd.results13, go_sem]) rfl ⟨ret_boolW HN.out.symm, Below.step HBA.out HB2.out⟩
        subst c3
        by_cases c4 : p2 = q2
        rotate_left 1
        · have HN := Lib.hid (HNO.out (fun h => c4 (by injection h)))
          clear HNO HGO
          have heq : ∀ w, (Op.equalIn 9999 30 (.agg #[.int .u64 (p0 : Int), .int .u64 (p1 : Int), .int .u64 (p2 : Int), .int .u64 (p3 : Int)]) (.agg #[.int .u64 (p0 : Int), .int .u64 (p1 : Int), .int .u64 (q2 : Int), .int .u64 (q3 : Int)])).run Tryd.prog w = .ok false w := fun w => by rw [equal_sets, decide_eq_false (by omega)]
          go_region_held3 (fun w' => w'.cell? ⟨B, 0, none⟩ = some (.int .u8 (kx : Int)) ∧ w'.cell? ⟨B, 1, none⟩ = some (.int .i64 fx) ∧ w'.cell? ⟨B, 2, none⟩ = some (.int .i64 tx) ∧ w'.cell? ⟨B, 3, none⟩ = some (.string ⟨sx.toArray⟩) ∧ w'.cell? ⟨B, 4, none⟩ = some (.int .u64 (p0 : Int)) ∧ w'.cell? ⟨B, 5, none⟩ = some (.int .u64 (p1 : Int)) ∧ w'.cell? ⟨B, 6, none⟩ = some (.int .u64 (p2 : Int)) ∧ w'.cell? ⟨B, 7, none⟩ = some (.int .u64 (p3 : Int)) ∧ w'.cell? ⟨B, 8, none⟩ = some (.int .i64 lx) ∧ w'.cell? ⟨B, 9, none⟩ = some (.int .i64 mx) ∧ w'.cell? ⟨g', o' + k * 10, none⟩ = some (.int .u8 (kx : Int)) ∧ w'.cell? ⟨g', o' + k * 10 + 1, none⟩ = some (.int .i64 fy) ∧ w'.cell? ⟨g', o' + k * 10 + 2, none⟩ = some (.int .i64 ty) ∧ w'.cell? ⟨g', o' + k * 10 + 3, none⟩ = some (.string ⟨sx.toArray⟩) ∧ w'.cell? ⟨g', o' + k * 10 + 4, none⟩ = some (.int .u64 (p0 : Int)) ∧ w'.cell? ⟨g', o' + k * 10 + 5, none⟩ = some (.int .u64 (p1 : Int)) ∧ w'.cell? ⟨g', o' + k * 10 + 6, none⟩ = some (.int .u64 (q2 : Int)) ∧ w'.cell? ⟨g', o' + k * 10 + 7, none⟩ = some (.int .u64 (q3 : Int)) ∧ w'.cell? ⟨g', o' + k * 10 + 8, none⟩ = some (.int .i64 ly) ∧ w'.cell? ⟨g', o' + k * 10 + 9, none⟩ = some (.int .i64 my)) (first | exact HS.out _ (Below.refl _ _) | exact HS.out _ HB0.out | exact HS.out _ HB1.out | exact HS.out _ HB2.out | fail) (first | (go_at_call 16; (with_reducible refine (bare_at kx fx tx sx p0 p1 p2 p3 lx mx _).mono ?_); rintro e w1 ⟨rfl, hb⟩; have HB1 := Lib.hid (Below.step HB0.out hb); clear hb) | (go_at_call 16; (with_reducible refine (bare_at kx fy ty sx p0 p1 q2 q3 ly my _).mono ?_); rintro e w2 ⟨rfl, hb⟩; have HB2 := Lib.hid (Below.step HB1.out hb); clear hb) | fail)
          go_wp2_with fail
          all_goals exact bodyPost_ret (v := .bool false) (by simp [results, Tryd.results13, go_sem]) rfl ⟨ret_boolW HN.out.symm, Below.step HBA.out HB2.out⟩
        subst c4
        by_cases c5 : p3 = q3
        rotate_left 1
        · have HN := Lib.hid (HNO.out (fun h => c5 (by injection h)))
          clear HNO HGO
          have heq : ∀ w, (Op.equalIn 9999 30 (.agg #[.int .u64 (p0 : Int), .int .u64 (p1 : Int), .int .u64 (p2 : Int), .int .u64 (p3 : Int)]) (.agg #[.int .u64 (p0 : Int), .int .u64 (p1 : Int), .int .u64 (p2 : Int), .int .u64 (q3 : Int)])).run Tryd.prog w = .ok false w := fun w => by rw [equal_sets, decide_eq_false (by omega)]
          go_region_held3 (fun w' => w'.cell? ⟨B, 0, none⟩ = some (.int .u8 (kx : Int)) ∧ w'.cell? ⟨B, 1, none⟩ = some (.int .i64 fx) ∧ w'.cell? ⟨B, 2, none⟩ = some (.int .i64 tx) ∧ w'.cell? ⟨B, 3, none⟩ = some (.string ⟨sx.toArray⟩) ∧ w'.cell? ⟨B, 4, none⟩ = some (.int .u64 (p0 : Int)) ∧ w'.cell? ⟨B, 5, none⟩ = some (.int .u64 (p1 : Int)) ∧ w'.cell? ⟨B, 6, none⟩ = some (.int .u64 (p2 : Int)) ∧ w'.cell? ⟨B, 7, none⟩ = some (.int .u64 (p3 : Int)) ∧ w'.cell? ⟨B, 8, none⟩ = some (.int .i64 lx) ∧ w'.cell? ⟨B, 9, none⟩ = some (.int .i64 mx) ∧ w'.cell? ⟨g', o' + k * 10, none⟩ = some (.int .u8 (kx : Int)) ∧ w'.cell? ⟨g', o' + k * 10 + 1, none⟩ = some (.int .i64 fy) ∧ w'.cell? ⟨g', o' + k * 10 + 2, none⟩ = some (.int .i64 ty) ∧ w'.cell? ⟨g', o' + k * 10 + 3, none⟩ = some (.string ⟨sx.toArray⟩) ∧ w'.cell? ⟨g', o' + k * 10 + 4, none⟩ = some (.int .u64 (p0 : Int)) ∧ w'.cell? ⟨g', o' + k * 10 + 5, none⟩ = some (.int .u64 (p1 : Int)) ∧ w'.cell? ⟨g', o' + k * 10 + 6, none⟩ = some (.int .u64 (p2 : Int)) ∧ w'.cell? ⟨g', o' + k * 10 + 7, none⟩ = some (.int .u64 (q3 : Int)) ∧ w'.cell? ⟨g', o' + k * 10 + 8, none⟩ = some (.int .i64 ly) ∧ w'.cell? ⟨g', o' + k * 10 + 9, none⟩ = some (.int .i64 my)) (first | exact HS.out _ (Below.refl _ _) | exact HS.out _ HB0.out | exact HS.out _ HB1.out | exact HS.out _ HB2.out | fail) (first | (go_at_call 16; (with_reducible refine (bare_at kx fx tx sx p0 p1 p2 p3 lx mx _).mono ?_); rintro e w1 ⟨rfl, hb⟩; have HB1 := Lib.hid (Below.step HB0.out hb); clear hb) | (go_at_call 16; (with_reducible refine (bare_at kx fy ty sx p0 p1 p2 q3 ly my _).mono ?_); rintro e w2 ⟨rfl, hb⟩; have HB2 := Lib.hid (Below.step HB1.out hb); clear hb) | fail)
          go_wp2_with fail
          all_goals exact bodyPost_ret (v := .bool false) (by simp [results, Tryd.results13, go_sem]) rfl ⟨ret_boolW HN.out.symm, Below.step HBA.out HB2.out⟩
        subst c5
        by_cases c6 : lx = ly
        rotate_left 1
        · have HN := Lib.hid (HNO.out (fun h => c6 (by injection h)))
          clear HNO HGO
          have d6 : (lx == ly) = false := by simp [c6]
          have heq : ∀ w, (Op.equalIn 9999 30 (.agg #[.int .u64 (p0 : Int), .int .u64 (p1 : Int), .int .u64 (p2 : Int), .int .u64 (p3 : Int)]) (.agg #[.int .u64 (p0 : Int), .int .u64 (p1 : Int), .int .u64 (p2 : Int), .int .u64 (p3 : Int)])).run Tryd.prog w = .ok true w := fun w => by rw [equal_sets, decide_eq_true (by simp)]
          go_region_held3 (fun w' => w'.cell? ⟨B, 0, none⟩ = some (.int .u8 (kx : Int)) ∧ w'.cell? ⟨B, 1, none⟩ = some (.int .i64 fx) ∧ w'.cell? ⟨B, 2, none⟩ = some (.int .i64 tx) ∧ w'.cell? ⟨B, 3, none⟩ = some (.string ⟨sx.toArray⟩) ∧ w'.cell? ⟨B, 4, none⟩ = some (.int .u64 (p0 : Int)) ∧ w'.cell? ⟨B, 5, none⟩ = some (.int .u64 (p1 : Int)) ∧ w'.cell? ⟨B, 6, none⟩ = some (.int .u64 (p2 : Int)) ∧ w'.cell? ⟨B, 7, none⟩ = some (.int .u64 (p3 : Int)) ∧ w'.cell? ⟨B, 8, none⟩ = some (.int .i64 lx) ∧ w'.cell? ⟨B, 9, none⟩ = some (.int .i64 mx) ∧ w'.cell? ⟨g', o' + k * 10, none⟩ = some (.int .u8 (kx : Int)) ∧ w'.cell? ⟨g', o' + k * 10 + 1, none⟩ = some (.int .i64 fy) ∧ w'.cell? ⟨g', o' + k * 10 + 2, none⟩ = some (.int .i64 ty) ∧ w'.cell? ⟨g', o' + k * 10 + 3, none⟩ = some (.string ⟨sx.toArray⟩) ∧ w'.cell? ⟨g', o' + k * 10 + 4, none⟩ = some (.int .u64 (p0 : Int)) ∧ w'.cell? ⟨g', o' + k * 10 + 5, none⟩ = some (.int .u64 (p1 : Int)) ∧ w'.cell? ⟨g', o' + k * 10 + 6, none⟩ = some (.int .u64 (p2 : Int)) ∧ w'.cell? ⟨g', o' + k * 10 + 7, none⟩ = some (.int .u64 (p3 : Int)) ∧ w'.cell? ⟨g', o' + k * 10 + 8, none⟩ = some (.int .i64 ly) ∧ w'.cell? ⟨g', o' + k * 10 + 9, none⟩ = some (.int .i64 my)) (first | exact HS.out _ (Below.refl _ _) | exact HS.out _ HB0.out | exact HS.out _ HB1.out | exact HS.out _ HB2.out | fail) (first | (go_at_call 16; (with_reducible refine (bare_at kx fx tx sx p0 p1 p2 p3 lx mx _).mono ?_); rintro e w1 ⟨rfl, hb⟩; have HB1 := Lib.hid (Below.step HB0.out hb); clear hb) | (go_at_call 16; (with_reducible refine (bare_at kx fy ty sx p0 p1 p2 p3 ly my _).mono ?_); rintro e w2 ⟨rfl, hb⟩; have HB2 := Lib.hid (Below.step HB1.out hb); clear hb) | fail)
          go_wp2_with fail
          all_goals exact bodyPost_ret (v := .bool false) (by simp [results, Tryd.results13, go_sem]) rfl ⟨ret_boolW HN.out.symm, Below.step HBA.out HB2.out⟩
        subst c6
        by_cases c7 : mx = my
        rotate_left 1
        · have HN := Lib.hid (HNO.out (fun h => c7 (by injection h)))
          clear HNO HGO
          have d7 : (mx == my) = false := by simp [c7]
          have heq : ∀ w, (Op.equalIn 9999 30 (.agg #[.int .u64 (p0 : Int), .int .u64 (p1 : Int), .int .u64 (p2 : Int), .int .u64 (p3 : Int)]) (.agg #[.int .u64 (p0 : Int), .int .u64 (p1 : Int), .int .u64 (p2 : Int), .int .u64 (p3 : Int)])).run Tryd.prog w = .ok true w := fun w => by rw [equal_sets, decide_eq_true (by simp)]
          go_region_held3 (fun w' => w'.cell? ⟨B, 0, none⟩ = some (.int .u8 (kx : Int)) ∧ w'.cell? ⟨B, 1, none⟩ = some (.int .i64 fx) ∧ w'.cell? ⟨B, 2, none⟩ = some (.int .i64 tx) ∧ w'.cell? ⟨B, 3, none⟩ = some (.string ⟨sx.toArray⟩) ∧ w'.cell? ⟨B, 4, none⟩ = some (.int .u64 (p0 : Int)) ∧ w'.cell? ⟨B, 5, none⟩ = some (.int .u64 (p1 : Int)) ∧ w'.cell? ⟨B, 6, none⟩ = some (.int .u64 (p2 : Int)) ∧ w'.cell? ⟨B, 7, none⟩ = some (.int .u64 (p3 : Int)) ∧ w'.cell? ⟨B, 8, none⟩ = some (.int .i64 lx) ∧ w'.cell? ⟨B, 9, none⟩ = some (.int .i64 mx) ∧ w'.cell? ⟨g', o' + k * 10, none⟩ = some (.int .u8 (kx : Int)) ∧ w'.cell? ⟨g', o' + k * 10 + 1, none⟩ = some (.int .i64 fy) ∧ w'.cell? ⟨g', o' + k * 10 + 2, none⟩ = some (.int .i64 ty) ∧ w'.cell? ⟨g', o' + k * 10 + 3, none⟩ = some (.string ⟨sx.toArray⟩) ∧ w'.cell? ⟨g', o' + k * 10 + 4, none⟩ = some (.int .u64 (p0 : Int)) ∧ w'.cell? ⟨g', o' + k * 10 + 5, none⟩ = some (.int .u64 (p1 : Int)) ∧ w'.cell? ⟨g', o' + k * 10 + 6, none⟩ = some (.int .u64 (p2 : Int)) ∧ w'.cell? ⟨g', o' + k * 10 + 7, none⟩ = some (.int .u64 (p3 : Int)) ∧ w'.cell? ⟨g', o' + k * 10 + 8, none⟩ = some (.int .i64 lx) ∧ w'.cell? ⟨g', o' + k * 10 + 9, none⟩ = some (.int .i64 my)) (first | exact HS.out _ (Below.refl _ _) | exact HS.out _ HB0.out | exact HS.out _ HB1.out | exact HS.out _ HB2.out | fail) (first | (go_at_call 16; (with_reducible refine (bare_at kx fx tx sx p0 p1 p2 p3 lx mx _).mono ?_); rintro e w1 ⟨rfl, hb⟩; have HB1 := Lib.hid (Below.step HB0.out hb); clear hb) | (go_at_call 16; (with_reducible refine (bare_at kx fy ty sx p0 p1 p2 p3 lx my _).mono ?_); rintro e w2 ⟨rfl, hb⟩; have HB2 := Lib.hid (Below.step HB1.out hb); clear hb) | fail)
          go_wp2_with fail
          all_goals exact bodyPost_ret (v := .bool false) (by simp [results, Tryd.results13, go_sem]) rfl ⟨ret_boolW HN.out.symm, Below.step HBA.out HB2.out⟩
        subst c7
        have heq : ∀ w, (Op.equalIn 9999 30 (.agg #[.int .u64 (p0 : Int), .int .u64 (p1 : Int), .int .u64 (p2 : Int), .int .u64 (p3 : Int)]) (.agg #[.int .u64 (p0 : Int), .int .u64 (p1 : Int), .int .u64 (p2 : Int), .int .u64 (p3 : Int)])).run Tryd.prog w = .ok true w := fun w => by rw [equal_sets, decide_eq_true (by simp)]
        clear HNO
        go_region_held3 (fun w' => w'.cell? ⟨B, 0, none⟩ = some (.int .u8 (kx : Int)) ∧ w'.cell? ⟨B, 1, none⟩ = some (.int .i64 fx) ∧ w'.cell? ⟨B, 2, none⟩ = some (.int .i64 tx) ∧ w'.cell? ⟨B, 3, none⟩ = some (.string ⟨sx.toArray⟩) ∧ w'.cell? ⟨B, 4, none⟩ = some (.int .u64 (p0 : Int)) ∧ w'.cell? ⟨B, 5, none⟩ = some (.int .u64 (p1 : Int)) ∧ w'.cell? ⟨B, 6, none⟩ = some (.int .u64 (p2 : Int)) ∧ w'.cell? ⟨B, 7, none⟩ = some (.int .u64 (p3 : Int)) ∧ w'.cell? ⟨B, 8, none⟩ = some (.int .i64 lx) ∧ w'.cell? ⟨B, 9, none⟩ = some (.int .i64 mx) ∧ w'.cell? ⟨g', o' + k * 10, none⟩ = some (.int .u8 (kx : Int)) ∧ w'.cell? ⟨g', o' + k * 10 + 1, none⟩ = some (.int .i64 fy) ∧ w'.cell? ⟨g', o' + k * 10 + 2, none⟩ = some (.int .i64 ty) ∧ w'.cell? ⟨g', o' + k * 10 + 3, none⟩ = some (.string ⟨sx.toArray⟩) ∧ w'.cell? ⟨g', o' + k * 10 + 4, none⟩ = some (.int .u64 (p0 : Int)) ∧ w'.cell? ⟨g', o' + k * 10 + 5, none⟩ = some (.int .u64 (p1 : Int)) ∧ w'.cell? ⟨g', o' + k * 10 + 6, none⟩ = some (.int .u64 (p2 : Int)) ∧ w'.cell? ⟨g', o' + k * 10 + 7, none⟩ = some (.int .u64 (p3 : Int)) ∧ w'.cell? ⟨g', o' + k * 10 + 8, none⟩ = some (.int .i64 lx) ∧ w'.cell? ⟨g', o' + k * 10 + 9, none⟩ = some (.int .i64 mx)) (first | exact HS.out _ (Below.refl _ _) | exact HS.out _ HB0.out | exact HS.out _ HB1.out | exact HS.out _ HB2.out | fail) (first | (go_at_call 16; (with_reducible refine (bare_at kx fx tx sx p0 p1 p2 p3 lx mx _).mono ?_); rintro e w1 ⟨rfl, hb⟩; have HB1 := Lib.hid (Below.step HB0.out hb); clear hb) | (go_at_call 16; (with_reducible refine (bare_at kx fy ty sx p0 p1 p2 p3 lx mx _).mono ?_); rintro e w2 ⟨rfl, hb⟩; have HB2 := Lib.hid (Below.step HB1.out hb); clear hb) | fail)
        go_wp2_with fail
        exact ⟨⟨k + 1, by omega, by go_num, Lib.hid (HGO.out rfl), Lib.hid (Below.step HBA.out HB2.out)⟩, by simp only [intOf]; omega⟩
      · have HX := Lib.hid (sameW_all HLM.out fun i ha hb => HE.out i ha hb (by omega))
        go_wp2_with fail
        go_ret
        exact ⟨ret_boolW HX.out.symm, HB.out⟩
  · have e1 : ((la.length : Int) != (lb.length : Int)) = true := by simp; omega
    have HX := Lib.hid (sameW_len hlm); clear hlm
    go_enter Tryd.func13, Tryd.ntmps13
    go_wp2_with fail
    go_ret
    exact ⟨ret_boolW HX.out.symm, Below.refl _ _⟩
theorem same_any (la lb : List Wd) (A B : Option Addr) (c d : Nat) (w : World) (hA : WRow w A la) (hB : WRow w B lb) (hl : la.length ≤ 4294967296) (hm : lb.length ≤ 4294967296) :
    Calls Tryd.prog 13 #[.slice A la.length c, .slice B lb.length d] w fun e w' => e = .returned (.bool (sameW la lb)) ∧ Below w.heap.size w w' := same_z la lb A B _ _ _ _ c d w hA.z hB.z hl hm
end Go.Proofs.YtidcoldoalimfaaDoor
