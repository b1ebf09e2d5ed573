/- The walk of GramChanged. -/
import Derived.Test.YtjlohjdmekbipaaDoorIy
import Derived.Test.YtjlohjdmekbipaaDoorIx
import Derived.Deep.RegionHeld3
import Derived.Deep.DeepCutAuto
import Derived.Deep.Cut
import Derived.Deep.CutRange
namespace Go.Proofs.YtjlohjdmekbipaaDoor
open Go.RowKit
set_option linter.unusedSimpArgs false
set_option linter.unusedVariables false

theorem with_at {la e1 : List Ld} {r : Nat} {b : Tr} (h : e1.map Ld.df = (la.map Ld.df).set r ⟨((la.map Ld.df)[r]?.map Df.name).getD ⟨#[]⟩, b⟩) :
    e1.length = la.length ∧ ∀ i (hi : i < la.length) (h1 : i < e1.length), e1[i].name = la[i].name ∧ e1[i].t.tr = if i = r then b else la[i].t.tr := by
  have hl : e1.length = la.length := by have := congrArg List.length h; simpa using this
  refine ⟨hl, fun i hi h1 => ?_⟩
  have h2 : (e1.map Ld.df)[i]? = some e1[i].df := by simp [h1]
  have h3 : (la.map Ld.df)[i]? = some la[i].df := by simp [hi]
  rw [h, List.getElem?_set] at h2
  by_cases e : r = i
  · subst e
    rw [if_pos rfl, if_pos (by simpa using hi), h3] at h2
    have h4 := Option.some.inj h2
    refine ⟨(congrArg Df.name h4).symm, ?_⟩
    rw [if_pos rfl]
    exact (congrArg Df.body h4).symm
  · rw [if_neg e, h3] at h2
    have h4 := Option.some.inj h2
    rw [if_neg (fun k => e k.symm)]
    exact ⟨(congrArg Df.name h4).symm, (congrArg Df.body h4).symm⟩
theorem erased_at {la e2 : List Ld} {r : Nat} (hr : r < la.length) (h : e2.map Ld.df = (la.map Ld.df).eraseIdx r) :
    e2.length = la.length - 1 ∧ (∀ i (hi : i < la.length) (h1 : i < e2.length), i < r → e2[i].name = la[i].name ∧ e2[i].t.tr = la[i].t.tr) ∧ ∀ i (hi : i + 1 < la.length) (h1 : i < e2.length), r ≤ i → e2[i].name = la[i + 1].name ∧ e2[i].t.tr = la[i + 1].t.tr := by
  have hl : e2.length = la.length - 1 := by have := congrArg List.length h; rw [List.length_map, List.length_eraseIdx, List.length_map, if_pos hr] at this; exact this
  refine ⟨hl, fun i hi h1 hir => ?_, fun i hi h1 hir => ?_⟩
  · have h2 : (e2.map Ld.df)[i]? = some e2[i].df := by simp [h1]
    have h3 : (la.map Ld.df)[i]? = some la[i].df := by simp [hi]
    rw [h, List.getElem?_eraseIdx, if_pos hir, h3] at h2
    have h4 := Option.some.inj h2
    exact ⟨(congrArg Df.name h4).symm, (congrArg Df.body h4).symm⟩
  · have h2 : (e2.map Ld.df)[i]? = some e2[i].df := by simp [h1]
    have h3 : (la.map Ld.df)[i + 1]? = some la[i + 1].df := by simp [hi]
    rw [h, List.getElem?_eraseIdx, if_neg (by omega), h3] at h2
    have h4 := Option.some.inj h2
    exact ⟨(congrArg Df.name h4).symm, (congrArg Df.body h4).symm⟩
def ChgRel (n : Nat) (W : World) (i : Value) (wr : World) : Prop := ∃ k : Nat, k ≤ n ∧ i = .int .i64 k ∧ Hid (Below W.heap.size W wr)

set_option maxRecDepth 100000 in
set_option maxHeartbeats 12800000 in
theorem gramchanged_walk (A : Option Addr) (c : Nat) (la : List Ld) (t : Lt) (rule : Int) (S T : Nat → Prop) (w : World) (hA : dfL.row w S A la) (hT : t.inn w T) (hl1 : la.length ≤ 281474976710656) (hrb : -9223372036854775808 ≤ rule ∧ rule ≤ 9223372036854775807) (hp : PTabs w) :
    Calls Tryd.prog 11 #[.agg #[.slice A la.length c], .agg #[.slice t.A t.ls.length t.c, .int .i64 t.root], .int .i64 rule] w fun e w' => e = .returned (.bool true) ∧ Below w.heap.size w w' := by
  obtain ⟨B, d, ls, root⟩ := t
  simp only
  have HA := Lib.hid hA; have HT := Lib.hid hT; have HP := Lib.hid hp
  clear hA hT hp
  generalize ho1 : Obj.cells #[.slice A la.length c] 34 (0, 0) = o1
  generalize ho2 : Obj.cells #[.slice B ls.length d, .int .i64 root] 24 (0, 0) = o2
  have HB3 := Lib.hid (bx3 w o1 o2 (.cells #[.slice A la.length c] 34))
  have HGR := Lib.hid (show grL.row (((w.alloc o1).alloc o2).alloc (.cells #[.slice A la.length c] 34)) (fun _ => True) (some ⟨w.heap.size + 1 + 1, 0, none⟩) [⟨A, c, la⟩] from by
    refine ⟨⟨?_, fun _ _ _ => trivial⟩, fun g hg => ?_⟩
    · have h := bx_new ((w.alloc o1).alloc o2) (.cells #[.slice A la.length c] 34)
      rw [World.size_alloc, World.size_alloc] at h
      exact row_blk (cs := [.slice A la.length c]) h
    · simp only [List.mem_cons, List.not_mem_nil, or_false] at hg
      subst hg
      exact ⟨hl1, (HA.out.below HB3.out).mono (fun _ _ _ => trivial)⟩)
  have HKK := Lib.hid (show ∀ o w', Below (((w.alloc o1).alloc o2).alloc o).heap.size (((w.alloc o1).alloc o2).alloc o) w' → w'.heap[w.heap.size]? = some o1 ∧ w'.heap[w.heap.size + 1]? = some o2 from fun o w' hb => by
    refine ⟨bx_kept hb (bx_old (bx_old (bx_new w o1))), bx_kept hb (bx_old ?_)⟩
    have h := bx_new (w.alloc o1) o2
    rw [World.size_alloc] at h; exact h)
  subst ho1 ho2
  go_enter Tryd.func11, Tryd.ntmps11
  go_wp2_with fail
  refine (large9_any [⟨A, c, la⟩] (some ⟨w.heap.size + 1 + 1, 0, none⟩) 1 (fun _ => True) _ HGR.out (by simp)).mono ?_
  rintro e w1 ⟨r, rfl, hr1, hb1⟩
  have HB1 := Lib.hid (Below.step HB3.out hb1)
  have HK1 := Lib.hid (HKK.out _ _ hb1)
  clear hb1 HGR HKK HB3
  cases r
  · have HS1 := Lib.hid (show Small9G la from hr1 rfl ⟨A, c, la⟩ (by simp))
    clear hr1
    obtain ⟨q1, q2, _, _⟩ := blk2 HK1.out.2
    go_wp2_with fail
    refine (wide9_any ⟨B, d, ls, root⟩ T _ (HT.out.below HB1.out)).mono ?_
    rintro e w2 ⟨r, rfl, hr1, hb⟩
    have HB2 := Lib.hid (Below.step HB1.out hb)
    have HK2 := Lib.hid (And.intro (bx_kept hb HK1.out.1) (bx_kept hb HK1.out.2))
    clear hb HK1 HB1 q1 q2
    cases r
    · have HS2 := Lib.hid (hr1 rfl)
      clear hr1
      obtain ⟨p1, p2⟩ := blk1 HK2.out.1
      obtain ⟨q1, q2, q3, q4⟩ := blk2 HK2.out.2
      go_wp2_with (go_at_call 39; refine (awake9_any _ (HP.out.below HB2.out)).mono ?_; rintro e w3 ⟨rfl, hb⟩; have HK3 := Lib.hid (And.intro (bx_kept hb HK2.out.1) (bx_kept hb HK2.out.2)); have HB3 := Lib.hid (Below.step HB2.out hb); clear p1 p2 q1 q2 q3 q4; obtain ⟨p1, p2⟩ := blk1 HK3.out.1; obtain ⟨q1, q2, q3, q4⟩ := blk2 HK3.out.2; clear hb)
      clear HK2 HB2
      have hs1 := HS1.out.1
      by_cases hin : 0 ≤ rule ∧ rule < (la.length : Int)
      · obtain ⟨r, rfl⟩ := Int.eq_ofNat_of_zero_le hin.1
        have hr : r < la.length := by omega
        refine (with_any A c la r ⟨B, d, ls, root⟩ S T w3 (HA.out.below HB3.out) (HT.out.below HB3.out) (by omega) (fun x hx => Small9D.mod (HS1.out.2 x hx)) hr (by have := HS2.out.1; show ls.length ≤ _; exact Nat.le_trans this (by decide)) (fun l hl => Nat.le_trans (HS2.out.2 l hl) (by decide))).mono ?_
        rintro e w4 ⟨V1, vc1, e1, rfl, he1, ho1, hb⟩
        obtain ⟨hn1, hx1⟩ := with_at he1
        rw [hn1]
        have HN1 := Lib.hid hn1; have HX1 := Lib.hid hx1
        have HR1 := Lib.hid (show dfL.row w4 (fun _ => True) V1 e1 from ho1.inn.mono (fun _ _ _ => trivial))
        have HK4 := Lib.hid (And.intro (bx_kept hb HK3.out.1) (bx_kept hb HK3.out.2))
        have HB4 := Lib.hid (Below.step HB3.out hb)
        clear hb HK3 HB3 p1 p2 q1 q2 q3 q4 he1 ho1 hn1 hx1
        obtain ⟨p1, p2⟩ := blk1 (bx_old (p := .cells #[.slice V1 la.length vc1] 34) HK4.out.1)
        go_wp2_with fail
        have HBX := Lib.hid (bx1 w4 (.cells #[.slice V1 la.length vc1] 34))
        refine (drop_any A c la r S _ (HA.out.below (Below.step HB4.out HBX.out)) (by omega) (fun x hx => Small9D.mod (HS1.out.2 x hx)) hr).mono ?_
        rintro e w5 ⟨V2, vc2, e2, rfl, he2, ho2, hb⟩
        obtain ⟨hn2, hx2, hy2⟩ := erased_at hr he2
        rw [hn2]
        have HN2 := Lib.hid hn2; have HX2 := Lib.hid hx2; have HY2 := Lib.hid hy2
        have HBY := Lib.hid (bx1 w5 (.cells #[.slice V2 (la.length - 1) vc2] 34))
        have HR2 := Lib.hid (show dfL.row (w5.alloc (.cells #[.slice V2 (la.length - 1) vc2] 34)) (fun _ => True) V2 e2 from (ho2.inn.mono (fun _ _ _ => trivial)).below HBY.out)
        have HR5 := Lib.hid (show dfL.row (w5.alloc (.cells #[.slice V2 (la.length - 1) vc2] 34)) (fun _ => True) V1 e1 from ((HR1.out.below HBX.out).below hb).below HBY.out)
        have HK5 := Lib.hid (show (w5.alloc (.cells #[.slice V2 (la.length - 1) vc2] 34)).heap[w.heap.size]? = some (.cells #[.slice A la.length c] 34 (0, 0)) ∧ (w5.alloc (.cells #[.slice V2 (la.length - 1) vc2] 34)).heap[w.heap.size + 1]? = some (.cells #[.slice B ls.length d, .int .i64 root] 24 (0, 0)) ∧ (w5.alloc (.cells #[.slice V2 (la.length - 1) vc2] 34)).heap[w4.heap.size]? = some (.cells #[.slice V1 la.length vc1] 34 (0, 0)) ∧ (w5.alloc (.cells #[.slice V2 (la.length - 1) vc2] 34)).heap[w5.heap.size]? = some (.cells #[.slice V2 (la.length - 1) vc2] 34 (0, 0)) from ⟨bx_old (bx_kept hb (bx_old HK4.out.1)), bx_old (bx_kept hb (bx_old HK4.out.2)), bx_old (bx_kept hb (bx_new w4 _)), bx_new w5 _⟩)
        have HB5 := Lib.hid (Below.step (Below.step (Below.step HB4.out HBX.out) hb) HBY.out)
        clear hb HK4 HB4 HR1 HBX HBY he2 ho2 hn2 hx2 hy2 p1 p2
        obtain ⟨p1, p2⟩ := blk1 HK5.out.1
        obtain ⟨x1, x2⟩ := blk1 HK5.out.2.2.1
        obtain ⟨y1, y2⟩ := blk1 HK5.out.2.2.2
        go_upto_region 5 with (fail)
        generalize w5.alloc (.cells #[.slice V2 (la.length - 1) vc2] 34) = W at *
        generalize w4.heap.size = b7 at *
        generalize w5.heap.size = b9 at *
        have h1 : decide (0 ≤ (r : Int)) = true := by simp
        have h2 : decide ((r : Int) < (la.length : Int)) = true := by simp; omega
        have h3 : (0 : Int) ≤ (r : Int) := by omega
        have h4 : (r : Int) < (la.length : Int) := by omega
        have h5 : ((la.length - 1 : Nat) : Int) = (la.length : Int) - 1 := by omega
        go_wp2_with fail
        clear p1 p2 x1 x2 y1 y2 h1 h2 h3 h4 h5 hin
        go_loopw [11] (fun i wr => ChgRel la.length W i wr) (fun i _ => la.length - (intOf i).toNat)
        case atStart => exact ⟨0, Nat.zero_le _, rfl, Lib.hid (Below.refl _ _)⟩
        case round =>
          obtain ⟨k, hk, rfl, HB⟩ := hrel
          have HKR := Lib.hid (show ∀ w', Below W.heap.size W w' → w'.cell? ⟨w.heap.size, 0, none⟩ = some (.slice A la.length c) ∧ w'.cell? ⟨b7, 0, none⟩ = some (.slice V1 la.length vc1) ∧ w'.cell? ⟨b9, 0, none⟩ = some (.slice V2 (la.length - 1) vc2) from fun w' h => ⟨(blk1 (bx_kept h HK5.out.1)).1, (blk1 (bx_kept h HK5.out.2.2.1)).1, (blk1 (bx_kept h HK5.out.2.2.2)).1⟩)
          by_cases hlt : k < la.length
          · have i1 : (k : Int) < (la.length : Int) := by omega
            have i2 : (0 : Int) ≤ (k : Int) := by omega
            have hk1 : k < e1.length := by rw [HN1.out]; exact hlt
            obtain ⟨xb, xo, rfl, _, _, u0, u1, u2⟩ := dfRow HR5.out k hk1
            obtain ⟨gb, go, rfl, _, _, v0, v1, v2⟩ := dfRow (HA.out.below HB5.out) k hlt
            have HXI := Lib.hid (dfSub HR5.out k hk1)
            have HGI := Lib.hid (dfSub (HA.out.below HB5.out) k hlt)
            have HXK := Lib.hid (HX1.out k hlt hk1)
            have HYK := Lib.hid (show k ≠ r → ∃ (yb yo j : Nat) (nm : ByteArray) (Y : Lt), V2 = some ⟨yb, yo, none⟩ ∧ j < la.length - 1 ∧ (j : Int) = (if k < r then (k : Int) else (k : Int) - 1) ∧ nm = la[k].name ∧ Y.tr = la[k].t.tr ∧ Y.inn W (fun _ => True) ∧ W.cell? ⟨yb, yo + j * 3, none⟩ = some (.string nm) ∧ W.cell? ⟨yb, yo + j * 3 + 1, none⟩ = some (.slice Y.A Y.ls.length Y.c) ∧ W.cell? ⟨yb, yo + j * 3 + 2, none⟩ = some (.int .i64 Y.root) from fun hne => by
              by_cases hkr : k < r
              · have hj : k < e2.length := by rw [HN2.out]; omega
                obtain ⟨yb, yo, hv, _, _, z0, z1, z2⟩ := dfRow HR2.out k hj
                have h6 := HX2.out k hlt hj hkr
                exact ⟨yb, yo, k, _, e2[k].t, hv, by omega, by rw [if_pos hkr], h6.1, h6.2, dfSub HR2.out k hj, z0, z1, z2⟩
              · obtain ⟨m, rfl⟩ : ∃ m, k = m + 1 := ⟨k - 1, by omega⟩
                have hj : m < e2.length := by rw [HN2.out]; omega
                obtain ⟨yb, yo, hv, _, _, z0, z1, z2⟩ := dfRow HR2.out m hj
                have h6 := HY2.out m hlt hj (by omega)
                exact ⟨yb, yo, m, _, e2[m].t, hv, by omega, by rw [if_neg hkr]; omega, h6.1, h6.2, dfSub HR2.out m hj, z0, z1, z2⟩)
            generalize e1[k] = x at *
            generalize la[k] = g at *
            obtain ⟨xn, XA, xc, xls, xr⟩ := x
            obtain ⟨gn, GA, gc, gls, gr⟩ := g
            simp only at u0 u1 u2 v0 v1 v2 HXI HGI HXK HYK
            obtain rfl : xn = gn := HXK.out.1
            have HCL := Lib.hid (show ∀ w', Below W.heap.size W w' → w'.cell? ⟨xb, xo + k * 3, none⟩ = some (.string xn) ∧ w'.cell? ⟨xb, xo + k * 3 + 1, none⟩ = some (.slice XA xls.length xc) ∧ w'.cell? ⟨xb, xo + k * 3 + 2, none⟩ = some (.int .i64 xr) ∧ w'.cell? ⟨gb, go + k * 3, none⟩ = some (.string xn) ∧ w'.cell? ⟨gb, go + k * 3 + 1, none⟩ = some (.slice GA gls.length gc) ∧ w'.cell? ⟨gb, go + k * 3 + 2, none⟩ = some (.int .i64 gr) from fun w' h => ⟨(h.cell (by exact cellLt u0)).trans u0, (h.cell (by exact cellLt u1)).trans u1, (h.cell (by exact cellLt u2)).trans u2, (h.cell (by exact cellLt v0)).trans v0, (h.cell (by exact cellLt v1)).trans v1, (h.cell (by exact cellLt v2)).trans v2⟩)
            clear u0 u1 u2 v0 v1 v2
            obtain ⟨p1, p2, p3⟩ := HKR.out wr HB.out
            obtain ⟨u0, u1, u2, v0, v1, v2⟩ := HCL.out wr HB.out
            go_upto_region 15 with (fail)
            by_cases hkr : k = r
            · have HTE := Lib.hid (show Lt.tr ⟨XA, xc, xls, xr⟩ = Lt.tr ⟨B, d, ls, root⟩ from by have h := HXK.out.2; rw [if_pos hkr] at h; exact h)
              subst hkr
              have HZ0 := Lib.hid (bx_new wr (.cells #[.slice GA gls.length gc, .int .i64 gr] 24))
              have HBA := Lib.hid (Below.step HB.out (bx1 wr (.cells #[.slice GA gls.length gc, .int .i64 gr] 24)))
              have HNB := Lib.hid HB.out.size
              have HTW := Lib.hid (HT.out.below HB5.out)
              clear p1 p2 p3 u0 u1 u2 v0 v1 v2
              generalize wr.alloc (.cells #[.slice GA gls.length gc, .int .i64 gr] 24) = Z0 at *
              generalize wr.heap.size = nb at *
              obtain ⟨q1, q2, q3, q4⟩ := blk2 (bx_kept HBA.out HK5.out.2.1)
              obtain ⟨n1, n2, n3, n4⟩ := blk2 HZ0.out
              go_upto_region 17 with (fail)
              have HZK := Lib.hid (set_blk2' (u := .int .i64 root) (show (Z0.setCell ⟨nb, 0, none⟩ (.slice B ls.length d)).heap[nb]? = some (.cells #[.slice B ls.length d, .int .i64 gr] 24 (0, 0)) from by
                have h := heap_setCell_same Z0 nb 0 _ 24 (.slice B ls.length d) HZ0.out
                simpa using h))
              have HBZ := Lib.hid ((HBA.out.setCell (p := ⟨nb, 0, none⟩) HNB.out (.slice B ls.length d)).setCell (p := ⟨nb, 1, none⟩) HNB.out (.int .i64 root))
              clear q1 q2 q3 q4 n1 n2 n3 n4 HZ0 HBA
              generalize (Z0.setCell ⟨nb, 0, none⟩ (.slice B ls.length d)).setCell ⟨nb, 1, none⟩ (.int .i64 root) = Z at *
              have HXM := Lib.hid (show ∀ w', Below Z.heap.size Z w' → _ from fun w' h => exactT_any ⟨XA, xc, xls, xr⟩ ⟨B, d, ls, root⟩ (fun _ => True) (fun _ => True) w' (HXI.out.below (Below.step HBZ.out h)) ((HTW.out.below (Below.step HBZ.out h)).mono (fun _ _ _ => trivial)) HTE.out)
              have HS17 := Lib.hid (show ∀ w', Below Z.heap.size Z w' → w'.cell? ⟨w.heap.size, 0, none⟩ = some (.slice (some ⟨gb, go, none⟩) la.length c) ∧ w'.cell? ⟨b7, 0, none⟩ = some (.slice (some ⟨xb, xo, none⟩) la.length vc1) ∧ w'.cell? ⟨xb, xo + k * 3, none⟩ = some (.string xn) ∧ w'.cell? ⟨xb, xo + k * 3 + 1, none⟩ = some (.slice XA xls.length xc) ∧ w'.cell? ⟨xb, xo + k * 3 + 2, none⟩ = some (.int .i64 xr) ∧ w'.cell? ⟨gb, go + k * 3, none⟩ = some (.string xn) ∧ w'.cell? ⟨nb, 0, none⟩ = some (.slice B ls.length d) ∧ w'.cell? ⟨nb, 1, none⟩ = some (.int .i64 root) from fun w' h => by
                obtain ⟨a1, a2, _⟩ := HKR.out w' (Below.step HBZ.out h)
                obtain ⟨a3, a4, a5, a6, _⟩ := HCL.out w' (Below.step HBZ.out h)
                obtain ⟨a7, a8, _, _⟩ := blk2 (bx_kept h HZK.out)
                exact ⟨a1, a2, a3, a4, a5, a6, a7, a8⟩)
              have HC := Lib.hid (Below.refl Z.heap.size Z)
              go_cut [122] from 82 to 162 (fun v wx => v = .bool false ∧ Hid (Below Z.heap.size Z wx))
              case first =>
                go_region_held3 (fun w' => w'.cell? ⟨w.heap.size, 0, none⟩ = some (.slice (some ⟨gb, go, none⟩) la.length c) ∧ w'.cell? ⟨b7, 0, none⟩ = some (.slice (some ⟨xb, xo, none⟩) la.length vc1) ∧ w'.cell? ⟨xb, xo + k * 3, none⟩ = some (.string xn) ∧ w'.cell? ⟨xb, xo + k * 3 + 1, none⟩ = some (.slice XA xls.length xc) ∧ w'.cell? ⟨xb, xo + k * 3 + 2, none⟩ = some (.int .i64 xr) ∧ w'.cell? ⟨gb, go + k * 3, none⟩ = some (.string xn) ∧ w'.cell? ⟨nb, 0, none⟩ = some (.slice B ls.length d) ∧ w'.cell? ⟨nb, 1, none⟩ = some (.int .i64 root))
                  (exact HS17.out _ (by first | exact HC.out | exact HC.out.drew))
                  ((go_at_call 20; (with_reducible refine (HXM.out _ (by first | exact HC.out | exact HC.out.drew)).mono ?_); rintro e wx ⟨rfl, hb⟩; have HC' := Lib.hid (Below.step (by first | exact HC.out | exact HC.out.drew) hb); clear HC; have HC := HC'; clear HC' hb))
                all_goals go_wp2_with fail
                all_goals go_meet
                all_goals exact ⟨rfl, HC⟩
              case rest =>
                obtain ⟨rfl, HCR⟩ := hcut
                have HBR := Lib.hid (Below.step HBZ.out HCR.out)
                go_wp2_with fail
                go_quiet (fail)
                go_wp2_with fail
                exact ⟨⟨k + 1, by omega, by go_num, Lib.hid (drewN_below HBR.out nq)⟩, by simp [intOf]; omega⟩
            · have hkr2 : ((k : Int) == (r : Int)) = false := by simp; omega
              have hkr3 : ¬ (k : Int) = (r : Int) := by omega
              have hkr4 : ((k : Int) != (r : Int)) = true := by simp [bne, hkr2]
              have hkr5 : (k == r) = false := by simpa using hkr
              have hkr6 : (k != r) = true := by simpa using hkr
              have HZK := Lib.hid (bx_new wr (.cells #[.slice GA gls.length gc, .int .i64 gr] 24))
              have HBZ := Lib.hid (Below.step HB.out (bx1 wr (.cells #[.slice GA gls.length gc, .int .i64 gr] 24)))
              have HTE := Lib.hid (show Lt.tr ⟨XA, xc, xls, xr⟩ = Lt.tr ⟨GA, gc, gls, gr⟩ from by have h := HXK.out.2; rw [if_neg hkr] at h; exact h)
              clear p1 p2 p3 u0 u1 u2 v0 v1 v2
              generalize wr.alloc (.cells #[.slice GA gls.length gc, .int .i64 gr] 24) = Z at *
              generalize wr.heap.size = nb at *
              have HXM := Lib.hid (show ∀ w', Below Z.heap.size Z w' → _ from fun w' h => exactT_any ⟨XA, xc, xls, xr⟩ ⟨GA, gc, gls, gr⟩ (fun _ => True) (fun _ => True) w' (HXI.out.below (Below.step HBZ.out h)) ((HGI.out.below (Below.step HBZ.out h)).mono (fun _ _ _ => trivial)) HTE.out)
              have HS17 := Lib.hid (show ∀ w', Below Z.heap.size Z w' → w'.cell? ⟨w.heap.size, 0, none⟩ = some (.slice (some ⟨gb, go, none⟩) la.length c) ∧ w'.cell? ⟨b7, 0, none⟩ = some (.slice (some ⟨xb, xo, none⟩) la.length vc1) ∧ w'.cell? ⟨xb, xo + k * 3, none⟩ = some (.string xn) ∧ w'.cell? ⟨xb, xo + k * 3 + 1, none⟩ = some (.slice XA xls.length xc) ∧ w'.cell? ⟨xb, xo + k * 3 + 2, none⟩ = some (.int .i64 xr) ∧ w'.cell? ⟨gb, go + k * 3, none⟩ = some (.string xn) ∧ w'.cell? ⟨nb, 0, none⟩ = some (.slice GA gls.length gc) ∧ w'.cell? ⟨nb, 1, none⟩ = some (.int .i64 gr) from fun w' h => by
                obtain ⟨a1, a2, _⟩ := HKR.out w' (Below.step HBZ.out h)
                obtain ⟨a3, a4, a5, a6, _⟩ := HCL.out w' (Below.step HBZ.out h)
                obtain ⟨a7, a8, _, _⟩ := blk2 (bx_kept h HZK.out)
                exact ⟨a1, a2, a3, a4, a5, a6, a7, a8⟩)
              have HC := Lib.hid (Below.refl Z.heap.size Z)
              go_upto_region 17 with (fail)
              go_cut [122] from 82 to 162 (fun v wx => v = .bool false ∧ Hid (Below Z.heap.size Z wx))
              case first =>
                go_region_held3 (fun w' => w'.cell? ⟨w.heap.size, 0, none⟩ = some (.slice (some ⟨gb, go, none⟩) la.length c) ∧ w'.cell? ⟨b7, 0, none⟩ = some (.slice (some ⟨xb, xo, none⟩) la.length vc1) ∧ w'.cell? ⟨xb, xo + k * 3, none⟩ = some (.string xn) ∧ w'.cell? ⟨xb, xo + k * 3 + 1, none⟩ = some (.slice XA xls.length xc) ∧ w'.cell? ⟨xb, xo + k * 3 + 2, none⟩ = some (.int .i64 xr) ∧ w'.cell? ⟨gb, go + k * 3, none⟩ = some (.string xn) ∧ w'.cell? ⟨nb, 0, none⟩ = some (.slice GA gls.length gc) ∧ w'.cell? ⟨nb, 1, none⟩ = some (.int .i64 gr))
                  (exact HS17.out _ (by first | exact HC.out | exact HC.out.drew))
                  ((go_at_call 20; (with_reducible refine (HXM.out _ (by first | exact HC.out | exact HC.out.drew)).mono ?_); rintro e wx ⟨rfl, hb⟩; have HC' := Lib.hid (Below.step (by first | exact HC.out | exact HC.out.drew) hb); clear HC; have HC := HC'; clear HC' hb))
                all_goals go_wp2_with fail
                all_goals go_meet
                all_goals exact ⟨rfl, HC⟩
              case rest =>
                obtain ⟨rfl, HCR⟩ := hcut
                have HBR := Lib.hid (Below.step HBZ.out HCR.out)
                obtain ⟨yb, yo, j, nm, Y, rfl, hj, hji, hnm, hytr, hyi, z0, z1, z2⟩ := HYK.out hkr
                obtain ⟨YA, yc, yls, yr⟩ := Y
                simp only at z1 z2
                subst hnm
                have HYI := Lib.hid hyi
                clear hyi
                have i4 : (j : Int) < ((la.length - 1 : Nat) : Int) := by omega
                have i5 : (0 : Int) ≤ (j : Int) := by omega
                by_cases hgt : k < r
                · rw [if_pos hgt] at hji
                  obtain rfl : j = k := by omega
                  have hd1 : decide ((r : Int) < (j : Int)) = false := by simp; omega
                  have hd2 : ¬ (r : Int) < (j : Int) := by omega
                  go_upto_region 22 with (fail)
                  have HS22 := Lib.hid (show ∀ w', Below wc.heap.size wc w' → w'.cell? ⟨w.heap.size, 0, none⟩ = some (.slice (some ⟨gb, go, none⟩) la.length c) ∧ w'.cell? ⟨b9, 0, none⟩ = some (.slice (some ⟨yb, yo, none⟩) (la.length - 1) vc2) ∧ w'.cell? ⟨gb, go + j * 3, none⟩ = some (.string nm) ∧ w'.cell? ⟨gb, go + j * 3 + 1, none⟩ = some (.slice GA gls.length gc) ∧ w'.cell? ⟨gb, go + j * 3 + 2, none⟩ = some (.int .i64 gr) ∧ w'.cell? ⟨yb, yo + j * 3, none⟩ = some (.string nm) ∧ w'.cell? ⟨yb, yo + j * 3 + 1, none⟩ = some (.slice YA yls.length yc) ∧ w'.cell? ⟨yb, yo + j * 3 + 2, none⟩ = some (.int .i64 yr) from fun w' h => by
                    obtain ⟨a1, _, a2⟩ := HKR.out w' (Below.step HBR.out h)
                    obtain ⟨_, _, _, a3, a4, a5⟩ := HCL.out w' (Below.step HBR.out h)
                    have h7 := Below.step HBR.out h
                    exact ⟨a1, a2, a3, a4, a5, (h7.cell (by exact cellLt z0)).trans z0, (h7.cell (by exact cellLt z1)).trans z1, (h7.cell (by exact cellLt z2)).trans z2⟩)
                  have HXY := Lib.hid (show ∀ w', Below wc.heap.size wc w' → _ from fun w' h => exactT_any ⟨YA, yc, yls, yr⟩ ⟨GA, gc, gls, gr⟩ (fun _ => True) (fun _ => True) w' (HYI.out.below (Below.step HBR.out h)) ((HGI.out.below (Below.step HBR.out h)).mono (fun _ _ _ => trivial)) hytr)
                  have HC := Lib.hid (Below.refl wc.heap.size wc)
                  clear z0 z1 z2
                  go_cut [162] from 82 to 162 (fun v wx => v = .bool false ∧ Hid (Below wc.heap.size wc wx))
                  case first =>
                    go_region_held3 (fun w' => w'.cell? ⟨w.heap.size, 0, none⟩ = some (.slice (some ⟨gb, go, none⟩) la.length c) ∧ w'.cell? ⟨b9, 0, none⟩ = some (.slice (some ⟨yb, yo, none⟩) (la.length - 1) vc2) ∧ w'.cell? ⟨gb, go + j * 3, none⟩ = some (.string nm) ∧ w'.cell? ⟨gb, go + j * 3 + 1, none⟩ = some (.slice GA gls.length gc) ∧ w'.cell? ⟨gb, go + j * 3 + 2, none⟩ = some (.int .i64 gr) ∧ w'.cell? ⟨yb, yo + j * 3, none⟩ = some (.string nm) ∧ w'.cell? ⟨yb, yo + j * 3 + 1, none⟩ = some (.slice YA yls.length yc) ∧ w'.cell? ⟨yb, yo + j * 3 + 2, none⟩ = some (.int .i64 yr))
                      (exact HS22.out _ (by first | exact HC.out | exact HC.out.drew))
                      ((go_at_call 20; (with_reducible refine (HXY.out _ (by first | exact HC.out | exact HC.out.drew)).mono ?_); rintro e wx ⟨rfl, hb⟩; have HC' := Lib.hid (Below.step (by first | exact HC.out | exact HC.out.drew) hb); clear HC; have HC := HC'; clear HC' hb))
                    all_goals go_wp2_with fail
                    all_goals go_meet
                    all_goals exact ⟨rfl, HC⟩
                  case rest =>
                    obtain ⟨rfl, HCE⟩ := hcut
                    go_wp2_with fail
                    exact ⟨⟨j + 1, by omega, by go_num, Lib.hid (Below.step HBR.out HCE.out)⟩, by simp [intOf]; omega⟩
                · rw [if_neg hgt] at hji
                  have hd1 : decide ((r : Int) < (k : Int)) = true := by simp; omega
                  have hd2 : (r : Int) < (k : Int) := by omega
                  go_upto_region 22 with (fail)
                  rw [← hji]
                  clear hji
                  have HS22 := Lib.hid (show ∀ w', Below wc.heap.size wc w' → w'.cell? ⟨w.heap.size, 0, none⟩ = some (.slice (some ⟨gb, go, none⟩) la.length c) ∧ w'.cell? ⟨b9, 0, none⟩ = some (.slice (some ⟨yb, yo, none⟩) (la.length - 1) vc2) ∧ w'.cell? ⟨gb, go + k * 3, none⟩ = some (.string nm) ∧ w'.cell? ⟨gb, go + k * 3 + 1, none⟩ = some (.slice GA gls.length gc) ∧ w'.cell? ⟨gb, go + k * 3 + 2, none⟩ = some (.int .i64 gr) ∧ w'.cell? ⟨yb, yo + j * 3, none⟩ = some (.string nm) ∧ w'.cell? ⟨yb, yo + j * 3 + 1, none⟩ = some (.slice YA yls.length yc) ∧ w'.cell? ⟨yb, yo + j * 3 + 2, none⟩ = some (.int .i64 yr) from fun w' h => by
                    obtain ⟨a1, _, a2⟩ := HKR.out w' (Below.step HBR.out h)
                    obtain ⟨_, _, _, a3, a4, a5⟩ := HCL.out w' (Below.step HBR.out h)
                    have h7 := Below.step HBR.out h
                    exact ⟨a1, a2, a3, a4, a5, (h7.cell (by exact cellLt z0)).trans z0, (h7.cell (by exact cellLt z1)).trans z1, (h7.cell (by exact cellLt z2)).trans z2⟩)
                  have HXY := Lib.hid (show ∀ w', Below wc.heap.size wc w' → _ from fun w' h => exactT_any ⟨YA, yc, yls, yr⟩ ⟨GA, gc, gls, gr⟩ (fun _ => True) (fun _ => True) w' (HYI.out.below (Below.step HBR.out h)) ((HGI.out.below (Below.step HBR.out h)).mono (fun _ _ _ => trivial)) hytr)
                  have HC := Lib.hid (Below.refl wc.heap.size wc)
                  clear z0 z1 z2
                  go_cut [162] from 82 to 162 (fun v wx => v = .bool false ∧ Hid (Below wc.heap.size wc wx))
                  case first =>
                    go_region_held3 (fun w' => w'.cell? ⟨w.heap.size, 0, none⟩ = some (.slice (some ⟨gb, go, none⟩) la.length c) ∧ w'.cell? ⟨b9, 0, none⟩ = some (.slice (some ⟨yb, yo, none⟩) (la.length - 1) vc2) ∧ w'.cell? ⟨gb, go + k * 3, none⟩ = some (.string nm) ∧ w'.cell? ⟨gb, go + k * 3 + 1, none⟩ = some (.slice GA gls.length gc) ∧ w'.cell? ⟨gb, go + k * 3 + 2, none⟩ = some (.int .i64 gr) ∧ w'.cell? ⟨yb, yo + j * 3, none⟩ = some (.string nm) ∧ w'.cell? ⟨yb, yo + j * 3 + 1, none⟩ = some (.slice YA yls.length yc) ∧ w'.cell? ⟨yb, yo + j * 3 + 2, none⟩ = some (.int .i64 yr))
                      (exact HS22.out _ (by first | exact HC.out | exact HC.out.drew))
                      ((go_at_call 20; (with_reducible refine (HXY.out _ (by first | exact HC.out | exact HC.out.drew)).mono ?_); rintro e wx ⟨rfl, hb⟩; have HC' := Lib.hid (Below.step (by first | exact HC.out | exact HC.out.drew) hb); clear HC; have HC := HC'; clear HC' hb))
                    all_goals go_wp2_with fail
                    all_goals go_meet
                    all_goals exact ⟨rfl, HC⟩
                  case rest =>
                    obtain ⟨rfl, HCE⟩ := hcut
                    go_wp2_with fail
                    exact ⟨⟨k + 1, by omega, by go_num, Lib.hid (Below.step HBR.out HCE.out)⟩, by simp [intOf]; omega⟩
          · obtain rfl : k = la.length := by omega
            obtain ⟨p1, p2, p3⟩ := HKR.out wr HB.out
            go_wp2_with fail
            go_ret
            exact ⟨rfl, Below.step HB5.out HB.out⟩
      · have hno : rule < 0 ∨ (la.length : Int) ≤ rule := by omega
        refine (with_no A c la rule ⟨B, d, ls, root⟩ w3 hno).mono ?_
        rintro e w4 ⟨rfl, hb⟩
        have HK4 := Lib.hid (bx_old (p := .cells #[.slice none 0 0] 34) (bx_kept hb HK3.out.1))
        have HX4 := Lib.hid (bx_new w4 (.cells #[.slice none 0 0] 34))
        have HB4 := Lib.hid (Below.step (Below.step HB3.out hb) (bx1 w4 (.cells #[.slice none 0 0] 34)))
        clear hb HK3 HB3 p1 p2 q1 q2 q3 q4
        obtain ⟨p1, p2⟩ := blk1 HK4.out
        go_wp2_with fail
        refine (drop_no A c la rule _ hno).mono ?_
        rintro e w5 ⟨rfl, hb⟩
        have HK5 := Lib.hid (bx_old (p := .cells #[.slice none 0 0] 34) (bx_kept hb HK4.out))
        have HX5 := Lib.hid (bx_old (p := .cells #[.slice none 0 0] 34) (bx_kept hb HX4.out))
        have HY5 := Lib.hid (bx_new w5 (.cells #[.slice none 0 0] 34))
        have HB5 := Lib.hid (Below.step (Below.step HB4.out hb) (bx1 w5 (.cells #[.slice none 0 0] 34)))
        clear hb HK4 HX4 HB4 p1 p2
        obtain ⟨p1, p2⟩ := blk1 HK5.out
        obtain ⟨x1, x2⟩ := blk1 HX5.out
        obtain ⟨y1, y2⟩ := blk1 HY5.out
        by_cases h0 : rule < 0
        · have h1 : decide (0 ≤ rule) = false := by simp; omega
          have h2 : ¬ 0 ≤ rule := by omega
          go_wp2_with fail
          go_ret
          exact ⟨rfl, HB5.out⟩
        · have h1 : decide (0 ≤ rule) = true := by simp; omega
          have h3 : 0 ≤ rule := by omega
          have h2 : decide (rule < (la.length : Int)) = false := by simp; omega
          have h4 : ¬ rule < (la.length : Int) := by omega
          go_wp2_with fail
          go_ret
          exact ⟨rfl, HB5.out⟩
    · as_aux_lemma =>
        go_wp2_with (go_at_call 39; refine (awake9_any _ (HP.out.below HB2.out)).mono ?_; rintro e w3 ⟨rfl, hb3⟩; have HB3 := Lib.hid (Below.step HB2.out hb3); clear hb3)
        go_ret
        exact ⟨rfl, HB3.out⟩
  · as_aux_lemma =>
      go_wp2_with (go_at_call 39; refine (awake9_any _ (HP.out.below HB1.out)).mono ?_; rintro e w3 ⟨rfl, hb3⟩; have HB3 := Lib.hid (Below.step HB1.out hb3); clear hb3)
      go_ret
      exact ⟨rfl, HB3.out⟩
end Go.Proofs.YtjlohjdmekbipaaDoor
