/- The walk of GramChanges. -/
import Derived.Test.YtdcgbcdmkhleoaaDoorVg
import Derived.Deep.RegionHeld3
import Derived.Deep.DeepCutAuto
import Derived.Deep.Cut
import Derived.Deep.CutRange
namespace Go.Proofs.YtdcgbcdmkhleoaaDoor
open Go.RowKit
set_option linter.unusedSimpArgs false
set_option linter.unusedVariables false

attribute [local go_sem] field_rules
theorem Spoilt.toBelow {Q : Nat → Prop} {w w' : World} {B : Nat} (h : Spoilt Q w w') (hq : ∀ x, Q x → B ≤ x) (hB : B ≤ w.heap.size) : Below B w w' :=
  ⟨h.os, h.tape, h.output, h.size, fun k hk => h.block k (by omega) (fun e => by have := hq k e; omega)⟩
theorem Spoilt.agree {Q R : Nat → Prop} {w w' : World} (h : Spoilt Q w w') (hr : ∀ x, R x → ¬ Q x) : Agree R w w' := fun x hx hl => h.block x hl (hr x hx)
theorem df_mod {d : Ld} (h : Small9D d) : DfMod d.df := (dmod_iff d).1 h.mod

set_option maxRecDepth 100000 in
set_option maxHeartbeats 25600000 in
theorem gramchanges_walk (A : Option Addr) (c : Nat) (la : List Ld) (t : Lt) (rule : Int) (S T : Nat → Prop) (w : World) (hA : dfL.row w S A la) (hT : t.inn w T) (hl1 : la.length ≤ 281474976710656) (hlc : la.length ≤ c) (hcm : c ≤ 9223372036854775807) (hp : PTabs w) :
    Calls Tryd.prog 7 #[.agg #[.slice A la.length c], .int .i64 rule, .agg #[.slice t.A t.ls.length t.c, .int .i64 t.root]] w fun e w' => e = .returned (.bool true) ∧ Below w.heap.size w w' := by
  obtain ⟨B, d, ls, root⟩ := t
  simp only
  have HA := Lib.hid hA; have HT := Lib.hid hT; have HP := Lib.hid hp
  clear hA hT hp
  generalize ho1 : Obj.cells #[.slice A la.length c] 50 (0, 0) = o1
  generalize ho2 : Obj.cells #[.slice B ls.length d, .int .i64 root] 24 (0, 0) = o2
  have HB3 := Lib.hid (bx3 w o1 o2 (.cells #[.slice A la.length c] 50))
  have HGR := Lib.hid (show grL.row (((w.alloc o1).alloc o2).alloc (.cells #[.slice A la.length c] 50)) (fun _ => True) (some ⟨w.heap.size + 1 + 1, 0, none⟩) [⟨A, c, la⟩] from by
    refine ⟨⟨?_, fun _ _ _ => trivial⟩, fun g hg => ?_⟩
    · have h := bx_new ((w.alloc o1).alloc o2) (.cells #[.slice A la.length c] 50)
      rw [World.size_alloc, World.size_alloc] at h
      exact row_blk (cs := [.slice A la.length c]) h
    · simp only [List.mem_cons, List.not_mem_nil, or_false] at hg
      subst hg
      exact ⟨hl1, (HA.out.below HB3.out).mono (fun _ _ _ => trivial)⟩)
  have HKK := Lib.hid (show ∀ o w', Below (((w.alloc o1).alloc o2).alloc o).heap.size (((w.alloc o1).alloc o2).alloc o) w' → w'.heap[w.heap.size]? = some o1 ∧ w'.heap[w.heap.size + 1]? = some o2 from fun o w' hb => by
    refine ⟨bx_kept hb (bx_old (bx_old (bx_new w o1))), bx_kept hb (bx_old ?_)⟩
    have h := bx_new (w.alloc o1) o2
    rw [World.size_alloc] at h; exact h)
  subst ho1 ho2
  go_enter Tryd.func7, Tryd.ntmps7
  go_wp2_with fail
  refine (large9_any [⟨A, c, la⟩] (some ⟨w.heap.size + 1 + 1, 0, none⟩) 1 (fun _ => True) _ HGR.out (by simp)).mono ?_
  rintro e w1 ⟨r, rfl, hr1, hb1⟩
  have HB1 := Lib.hid (Below.step HB3.out hb1)
  have HK1 := Lib.hid (HKK.out _ _ hb1)
  clear hb1 HGR HKK HB3
  have HWK := Lib.hid (show ∀ w', Below w.heap.size w w' → _ from fun w' hb => awake9_any w' (HP.out.below hb))
  cases r
  · have HS1 := Lib.hid (show Small9G la from hr1 rfl ⟨A, c, la⟩ (by simp))
    clear hr1
    obtain ⟨q1, q2, _, _⟩ := blk2 HK1.out.2
    go_wp2_with fail
    refine (wide9_any ⟨B, d, ls, root⟩ T _ (HT.out.below HB1.out)).mono ?_
    rintro e w2 ⟨r, rfl, hr1, hb⟩
    have HB2 := Lib.hid (Below.step HB1.out hb)
    have HK2 := Lib.hid (And.intro (bx_kept hb HK1.out.1) (bx_kept hb HK1.out.2))
    clear hb HK1 HB1 q1 q2
    cases r
    · have HS2 := Lib.hid (hr1 rfl)
      clear hr1
      have hs1 := HS1.out.1
      have hs2 : ls.length ≤ 600 := HS2.out.1
      have HMD := Lib.hid (show ∀ x ∈ la, DMod x from fun x hx => Small9D.mod (HS1.out.2 x hx))
      have HMF := Lib.hid (show ∀ x ∈ la.map Ld.df, DfMod x from fun x hx => by
        obtain ⟨y, hy, rfl⟩ := List.mem_map.1 hx
        exact df_mod (HS1.out.2 y hy))
      have HMT := Lib.hid (show (∀ l ∈ ls, l.nd.kids.length ≤ 4294967296) from fun l hl => Nat.le_trans (HS2.out.2 l hl) (by decide))
      have HMB := Lib.hid (show (Lt.tr ⟨B, d, ls, root⟩).nodes.length ≤ 4294967296 ∧ ∀ n ∈ (Lt.tr ⟨B, d, ls, root⟩).nodes, n.kids.length ≤ 4294967296 from by
        refine ⟨by show (ls.map Ln.nd).length ≤ _; rw [List.length_map]; omega, fun n hn => ?_⟩
        obtain ⟨l, hl, rfl⟩ := List.mem_map.1 hn
        exact HMT.out l hl)
      obtain ⟨p1, p2⟩ := blk1 HK2.out.1
      have hH2 := heap_lt' HK2.out.2
      go_wp2_with fail
      refine (own9_any A c la S w2 (HA.out.below HB2.out) (by omega) HMD.out).mono ?_
      rintro e w3 ⟨V0, v0, x0, rfl, hx0, hg0, hb⟩
      have hx0l : x0.length = la.length := by have := congrArg List.length hx0; simpa using this
      have HX0 := Lib.hid hx0; have HX0L := Lib.hid hx0l; clear hx0l
      have HR0 := Lib.hid (show dfL.row w3 (fun _ => True) V0 x0 from hg0.inn.mono (fun _ _ _ => trivial))
      have HB3 := Lib.hid (Below.step HB2.out hb)
      have HK3 := Lib.hid (And.intro (bx_kept hb HK2.out.1) (bx_kept hb HK2.out.2))
      clear hb HK2 HB2 p1 p2 hH2 hx0 hg0
      go_upto_region 4 with (fail)
      have HKX := Lib.hid (And.intro (bx_old (p := .cells #[.slice V0 x0.length v0] 50) HK3.out.1) (And.intro (bx_old (p := .cells #[.slice V0 x0.length v0] 50) HK3.out.2) (bx_new w3 (.cells #[.slice V0 x0.length v0] 50))))
      have HBX := Lib.hid (Below.step HB3.out (bx1 w3 (.cells #[.slice V0 x0.length v0] 50)))
      have HRX := Lib.hid (HR0.out.below (bx1 w3 (.cells #[.slice V0 x0.length v0] 50)))
      generalize w3.alloc (.cells #[.slice V0 x0.length v0] 50) = W3 at *
      generalize w3.heap.size = bX at *
      clear HR0 HK3 HB3
      obtain ⟨p1, _⟩ := blk1 HKX.out.1
      obtain ⟨q1, q2, _, _⟩ := blk2 HKX.out.2.1
      go_wp2_with fail
      refine (rwith_all A c la rule ⟨B, d, ls, root⟩ S T W3 (HA.out.below HBX.out) (HT.out.below HBX.out) (by omega)).mono ?_
      rintro e w4 ⟨Va, vca, da, rfl, hda, hra, hb⟩
      have HDA := Lib.hid hda; have HRA := Lib.hid hra
      have HB4 := Lib.hid (Below.step HBX.out hb)
      have HK4 := Lib.hid (And.intro (bx_kept hb HKX.out.1) (And.intro (bx_kept hb HKX.out.2.1) (bx_kept hb HKX.out.2.2)))
      have HR4 := Lib.hid (HRX.out.below hb)
      clear hb HKX HBX HRX p1 q1 q2 hda hra
      go_upto_region 5 with (fail)
      have HKY := Lib.hid (And.intro (bx_old (p := .cells #[.slice Va da.length vca] 50) HK4.out.1) (And.intro (bx_old (p := .cells #[.slice Va da.length vca] 50) HK4.out.2.1) (And.intro (bx_old (p := .cells #[.slice Va da.length vca] 50) HK4.out.2.2) (bx_new w4 (.cells #[.slice Va da.length vca] 50)))))
      have HBY := Lib.hid (Below.step HB4.out (bx1 w4 (.cells #[.slice Va da.length vca] 50)))
      have HRY := Lib.hid (And.intro (HR4.out.below (bx1 w4 (.cells #[.slice Va da.length vca] 50))) (HRA.out.below (bx1 w4 (.cells #[.slice Va da.length vca] 50))))
      generalize w4.alloc (.cells #[.slice Va da.length vca] 50) = W4 at *
      generalize w4.heap.size = bA at *
      clear HR4 HRA HK4 HB4
      obtain ⟨p1, _⟩ := blk1 HKY.out.1
      go_wp2_with fail
      refine (rdrop_all A c la rule S W4 (HA.out.below HBY.out) (by omega) hlc hcm).mono ?_
      rintro e w5 ⟨Vb, vcb, db, rfl, hdb, hrb, hb⟩
      have HDB := Lib.hid hdb
      have HB5 := Lib.hid (Below.step HBY.out hb)
      have HK5 := Lib.hid (And.intro (bx_kept hb HKY.out.1) (And.intro (bx_kept hb HKY.out.2.1) (And.intro (bx_kept hb HKY.out.2.2.1) (bx_kept hb HKY.out.2.2.2))))
      have HR5 := Lib.hid (And.intro (HRY.out.1.below hb) (And.intro (HRY.out.2.below hb) hrb))
      clear hb HKY HBY HRY p1 hdb hrb
      go_upto_region 6 with (fail)
      have HKZ := Lib.hid (And.intro (bx_old (p := .cells #[.slice Vb db.length vcb] 50) HK5.out.1) (And.intro (bx_old (p := .cells #[.slice Vb db.length vcb] 50) HK5.out.2.1) (And.intro (bx_old (p := .cells #[.slice Vb db.length vcb] 50) HK5.out.2.2.1) (And.intro (bx_old (p := .cells #[.slice Vb db.length vcb] 50) HK5.out.2.2.2) (bx_new w5 (.cells #[.slice Vb db.length vcb] 50))))))
      have HBZ := Lib.hid (Below.step HB5.out (bx1 w5 (.cells #[.slice Vb db.length vcb] 50)))
      have HRZ := Lib.hid (And.intro (HR5.out.1.below (bx1 w5 (.cells #[.slice Vb db.length vcb] 50))) (And.intro (HR5.out.2.1.below (bx1 w5 (.cells #[.slice Vb db.length vcb] 50))) (HR5.out.2.2.below (bx1 w5 (.cells #[.slice Vb db.length vcb] 50)))))
      generalize w5.alloc (.cells #[.slice Vb db.length vcb] 50) = W5 at *
      generalize w5.heap.size = bB at *
      clear HR5 HK5 HB5
      obtain ⟨q1, q2, _, _⟩ := blk2 HKZ.out.2.1
      have HROW := Lib.hid (show dfL.row (W5.alloc (.cells #[.string ⟨#[]⟩, .slice B ls.length d, .int .i64 root] 47)) (fun _ => True) (some ⟨W5.heap.size, 0, none⟩) [⟨⟨#[]⟩, ⟨B, d, ls, root⟩⟩] from by
        refine ⟨⟨row_blk (cs := [.string ⟨#[]⟩, .slice B ls.length d, .int .i64 root]) (bx_new W5 _), fun _ _ _ => trivial⟩, fun x hx => ?_⟩
        obtain rfl := List.mem_singleton.1 hx
        exact ⟨by show (⟨#[]⟩ : ByteArray).size ≤ _; decide, ((HT.out.below HBZ.out).below (bx1 W5 _)).mono (fun _ _ _ => trivial)⟩)
      go_wp2_with fail
      refine (own9_any (some ⟨W5.heap.size, 0, none⟩) 1 [⟨⟨#[]⟩, ⟨B, d, ls, root⟩⟩] _ _ HROW.out (by simp) (fun x hx => by
        obtain rfl := List.mem_singleton.1 hx
        exact ⟨by show ls.length ≤ _; omega, HMT.out⟩)).mono ?_
      rintro e w6 ⟨V6, v6, d6, rfl, hd6, hg6, hb⟩
      obtain ⟨y, rfl⟩ : ∃ y, d6 = [y] := List.length_eq_one_iff.1 (by have := congrArg List.length hd6; simpa using this)
      obtain ⟨yn, ⟨B6, c6, l6, r6⟩⟩ := y
      obtain ⟨g6, rfl, _, hg6l⟩ := own_some hg6.row.1 (by simp)
      obtain ⟨_, y1, y2⟩ := own_at3 hg6.row.1 0 (by simp)
      simp only [Nat.zero_mul, Nat.zero_add, List.getElem_cons_zero] at y1 y2
      have htr6 : Lt.tr ⟨B6, c6, l6, r6⟩ = Lt.tr ⟨B, d, ls, root⟩ := by
        simp only [List.map_cons, List.map_nil, List.cons.injEq, and_true] at hd6
        exact congrArg Df.body hd6
      have hr6 : r6 = root := congrArg Tr.root htr6
      subst hr6
      have hl6 : l6.length = ls.length := by have := congrArg (fun x => x.nodes.length) htr6; simpa [Lt.tr] using this
      have HTR6 := Lib.hid htr6; have HL6 := Lib.hid hl6; clear hl6
      have HT6 := Lib.hid (show Lt.inn w6 (fun _ => True) ⟨B6, c6, l6, r6⟩ from (hg6.inn.2 _ (List.mem_singleton.2 rfl)).2.mono (fun _ _ _ => trivial))
      have HBs := Lib.hid (Below.step (bx1 W5 (.cells #[.string ⟨#[]⟩, .slice B ls.length d, .int .i64 r6] 47)) hb)
      have HB6 := Lib.hid (Below.step HBZ.out HBs.out)
      have HK6 := Lib.hid (And.intro (bx_kept HBs.out HKZ.out.1) (And.intro (bx_kept HBs.out HKZ.out.2.1) (And.intro (bx_kept HBs.out HKZ.out.2.2.1) (And.intro (bx_kept HBs.out HKZ.out.2.2.2.1) (bx_kept HBs.out HKZ.out.2.2.2.2)))))
      have HR6 := Lib.hid (And.intro (HRZ.out.1.below HBs.out) (And.intro (HRZ.out.2.1.below HBs.out) (HRZ.out.2.2.below HBs.out)))
      clear hb HKZ HBZ HRZ HROW HBs q1 q2 hd6 hg6 htr6
      go_upto_region 7 with (fail)
      have HKW := Lib.hid (And.intro (bx_old (p := .cells #[.slice B6 l6.length c6, .int .i64 r6] 24) HK6.out.1) (And.intro (bx_old (p := .cells #[.slice B6 l6.length c6, .int .i64 r6] 24) HK6.out.2.1) (And.intro (bx_old (p := .cells #[.slice B6 l6.length c6, .int .i64 r6] 24) HK6.out.2.2.1) (And.intro (bx_old (p := .cells #[.slice B6 l6.length c6, .int .i64 r6] 24) HK6.out.2.2.2.1) (And.intro (bx_old (p := .cells #[.slice B6 l6.length c6, .int .i64 r6] 24) HK6.out.2.2.2.2) (bx_new w6 (.cells #[.slice B6 l6.length c6, .int .i64 r6] 24)))))))
      have HBW := Lib.hid (Below.step HB6.out (bx1 w6 (.cells #[.slice B6 l6.length c6, .int .i64 r6] 24)))
      have HRW := Lib.hid (And.intro (HR6.out.1.below (bx1 w6 (.cells #[.slice B6 l6.length c6, .int .i64 r6] 24))) (And.intro (HR6.out.2.1.below (bx1 w6 (.cells #[.slice B6 l6.length c6, .int .i64 r6] 24))) (HR6.out.2.2.below (bx1 w6 (.cells #[.slice B6 l6.length c6, .int .i64 r6] 24)))))
      have HTW := Lib.hid (HT6.out.below (bx1 w6 (.cells #[.slice B6 l6.length c6, .int .i64 r6] 24)))
      generalize w6.alloc (.cells #[.slice B6 l6.length c6, .int .i64 r6] 24) = W0 at *
      generalize w6.heap.size = bT at *
      clear HR6 HK6 HB6 HT6 y1 y2
      have HCL := Lib.hid (show ∀ w', Below W0.heap.size W0 w' → (w'.cell? ⟨w.heap.size, 0, none⟩ = some (.slice A la.length c) ∧ w'.cell? ⟨w.heap.size + 1, 0, none⟩ = some (.slice B ls.length d) ∧ w'.cell? ⟨w.heap.size + 1, 1, none⟩ = some (.int .i64 r6) ∧ w'.cell? ⟨bX, 0, none⟩ = some (.slice V0 x0.length v0) ∧ w'.cell? ⟨bA, 0, none⟩ = some (.slice Va da.length vca) ∧ w'.cell? ⟨bB, 0, none⟩ = some (.slice Vb db.length vcb) ∧ w'.cell? ⟨bT, 0, none⟩ = some (.slice B6 l6.length c6) ∧ w'.cell? ⟨bT, 1, none⟩ = some (.int .i64 r6)) ∧ w.heap.size < w'.heap.size ∧ w.heap.size + 1 < w'.heap.size ∧ bX < w'.heap.size ∧ bA < w'.heap.size ∧ bB < w'.heap.size ∧ bT < w'.heap.size from fun w' h => by
        have k1 := bx_kept h HKW.out.1; have k2 := bx_kept h HKW.out.2.1; have k3 := bx_kept h HKW.out.2.2.1; have k4 := bx_kept h HKW.out.2.2.2.1; have k5 := bx_kept h HKW.out.2.2.2.2.1; have k6 := bx_kept h HKW.out.2.2.2.2.2
        have t2 := blk2 k2; have t6 := blk2 k6
        exact ⟨⟨(blk1 k1).1, t2.1, t2.2.1, (blk1 k3).1, (blk1 k4).1, (blk1 k5).1, t6.1, t6.2.1⟩, heap_lt' k1, heap_lt' k2, heap_lt' k3, heap_lt' k4, heap_lt' k5, heap_lt' k6⟩)
      have HGA := Lib.hid (show ∀ w', Below W0.heap.size W0 w' → dfL.row w' S A la ∧ Lt.inn w' T ⟨B, d, ls, r6⟩ ∧ dfL.row w' (fun _ => True) V0 x0 ∧ dfL.row w' (fun _ => True) Va da ∧ dfL.row w' (fun _ => True) Vb db ∧ Lt.inn w' (fun _ => True) ⟨B6, c6, l6, r6⟩ from fun w' h => ⟨HA.out.below (Below.step HBW.out h), HT.out.below (Below.step HBW.out h), HRW.out.1.below h, HRW.out.2.1.below h, HRW.out.2.2.below h, HTW.out.below h⟩)
      have HWW := Lib.hid (show ∀ w', Below W0.heap.size W0 w' → _ from fun w' hb => HWK.out w' (Below.step HBW.out hb))
      clear HKW HRW HTW HWK
      have HM6 := Lib.hid (show l6.length ≤ 4294967296 ∧ ∀ l ∈ l6, l.nd.kids.length ≤ 4294967296 from by
        have h1 := HL6.out
        refine ⟨by omega, fun l hl => ?_⟩
        have h2 : l.nd ∈ (Lt.tr ⟨B6, c6, l6, r6⟩).nodes := List.mem_map.2 ⟨l, hl, rfl⟩
        rw [HTR6.out] at h2
        exact HMB.out.2 _ h2)
      have HM0 := Lib.hid (show ∀ x ∈ x0, DMod x from dmod_ofE HX0.out HMF.out)
      have HIN := Lib.hid (show inR x0.length rule = inR la.length rule from by rw [HX0L.out])
      have hxl : x0.length ≤ 600 := by have := HX0L.out; omega
      go_wp2_with fail
      go_loopw [13] (fun v13 wr => ∃ k : Nat, k ≤ 2 ∧ v13 = .int .i64 k ∧ Hid (Below W0.heap.size W0 wr)) (fun v13 _ => 2 - (intOf v13).toNat)
      case atStart => exact ⟨0, by omega, rfl, Lib.hid (Below.refl _ _)⟩
      case round =>
        obtain ⟨k, hk, rfl, HB⟩ := hrel
        have i0 : (0 : Int) ≤ (k : Int) := by omega
        by_cases hlt : k < 2
        · have i1 : (k : Int) < 2 := by omega
          obtain ⟨⟨p1, q1, q2, x1, a1, b1, t1, t2⟩, hh1, hh2, hh3, hh4, hh5, hh6⟩ := HCL.out wr HB.out
          go_wp2_with fail
          have hwc := gwith_all V0 v0 x0 rule ⟨B6, c6, l6, r6⟩ _ _ wr (HGA.out wr HB.out).2.2.1 (HGA.out wr HB.out).2.2.2.2.2 (by omega) HM0.out HM6.out.1 HM6.out.2
          rw [HIN.out] at hwc
          refine hwc.mono ?_
          clear hwc
          rintro e w1' ⟨Vc, vcc, dc, rfl, hdc, hgc, hb⟩
          have HDC := Lib.hid hdc; have HGC := Lib.hid hgc; have HBc := Lib.hid hb
          have HB1 := Lib.hid (Below.step HB.out hb)
          clear hdc hgc hb p1 q1 q2 x1 a1 b1 t1 t2 hh1 hh2 hh3 hh4 hh5 hh6
          go_upto_region 11 with (fail)
          have HGC1 := Lib.hid (HGC.out.agree (w' := w1'.alloc (.cells #[.slice Vc dc.length vcc] 50)) (fun y hy _ => Below.heap_alloc _ _ y hy.2))
          have HKC1 := Lib.hid (bx_new w1' (.cells #[.slice Vc dc.length vcc] 50))
          have HZ1 := Lib.hid (show (w1'.alloc (.cells #[.slice Vc dc.length vcc] 50)).heap.size = w1'.heap.size + 1 from by simp)
          have HBA := Lib.hid (Below.step HB1.out (bx1 w1' (.cells #[.slice Vc dc.length vcc] 50)))
          generalize w1'.alloc (.cells #[.slice Vc dc.length vcc] 50) = WA at *
          have HZc := Lib.hid (show wr.heap.size ≤ w1'.heap.size from HBc.out.size)
          generalize hbc : w1'.heap.size = bC at *
          clear hbc HGC HB1 HBc
          obtain ⟨⟨p1, q1, q2, x1, a1, b1, t1, t2⟩, hh1, hh2, hh3, hh4, hh5, hh6⟩ := HCL.out WA HBA.out
          go_wp2_with fail
          have hwc := gdrop_all V0 v0 x0 rule _ WA (HGA.out WA HBA.out).2.2.1 (by omega) HM0.out
          rw [HIN.out] at hwc
          refine hwc.mono ?_
          clear hwc
          rintro e w2' ⟨Vd, vcd, dd, rfl, hdd, hgd, hb⟩
          have HDD := Lib.hid hdd
          have HGD2 := Lib.hid (hgd.agree (w' := w2'.alloc (.cells #[.slice Vd dd.length vcd] 50)) (fun y hy _ => Below.heap_alloc _ _ y hy.2))
          have HGC2 := Lib.hid ((HGC1.out.agree (below_all hb)).agree (below_all (bx1 w2' (.cells #[.slice Vd dd.length vcd] 50))))
          have HKC2 := Lib.hid (bx_old (p := .cells #[.slice Vd dd.length vcd] 50) (bx_kept hb HKC1.out))
          have HKD2 := Lib.hid (bx_new w2' (.cells #[.slice Vd dd.length vcd] 50))
          have HZ2 := Lib.hid (show (w2'.alloc (.cells #[.slice Vd dd.length vcd] 50)).heap.size = w2'.heap.size + 1 from by simp)
          have HZd := Lib.hid (show WA.heap.size ≤ w2'.heap.size from hb.size)
          have HBD := Lib.hid (Below.step (Below.step HBA.out hb) (bx1 w2' (.cells #[.slice Vd dd.length vcd] 50)))
          clear hdd hgd hb p1 q1 q2 x1 a1 b1 t1 t2 hh1 hh2 hh3 hh4 hh5 hh6 HGC1 HKC1
          go_upto_region 12 with (fail)
          generalize w2'.alloc (.cells #[.slice Vd dd.length vcd] 50) = WD at *
          generalize hbd : w2'.heap.size = bD at *
          clear hbd
          obtain ⟨⟨p1, q1, q2, x1, a1, b1, t1, t2⟩, hh1, hh2, hh3, hh4, hh5, hh6⟩ := HCL.out WD HBD.out
          go_wp2_with fail
          refine (gcopy_any V0 v0 x0 _ WD (HGA.out WD HBD.out).2.2.1 (by omega) HM0.out).mono ?_
          rintro e w3' ⟨Ve, vce, de, rfl, hde, hge0, hb⟩
          have hge := hge0.cap
          have HDE := Lib.hid hde
          have HGE3 := Lib.hid (hge.agree (w' := w3'.alloc (.cells #[.slice Ve de.length vce] 50)) (fun y hy _ => Below.heap_alloc _ _ y hy.2))
          have HGC3 := Lib.hid ((HGC2.out.agree (below_all hb)).agree (below_all (bx1 w3' (.cells #[.slice Ve de.length vce] 50))))
          have HGD3 := Lib.hid ((HGD2.out.agree (below_all hb)).agree (below_all (bx1 w3' (.cells #[.slice Ve de.length vce] 50))))
          have HKC3 := Lib.hid (bx_old (p := .cells #[.slice Ve de.length vce] 50) (bx_kept hb HKC2.out))
          have HKD3 := Lib.hid (bx_old (p := .cells #[.slice Ve de.length vce] 50) (bx_kept hb HKD2.out))
          have HKE3 := Lib.hid (bx_new w3' (.cells #[.slice Ve de.length vce] 50))
          have HZ3 := Lib.hid (show (w3'.alloc (.cells #[.slice Ve de.length vce] 50)).heap.size = w3'.heap.size + 1 from by simp)
          have HZe := Lib.hid (show WD.heap.size ≤ w3'.heap.size from hb.size)
          have HBE := Lib.hid (Below.step (Below.step HBD.out hb) (bx1 w3' (.cells #[.slice Ve de.length vce] 50)))
          clear hde hge hge0 hb p1 q1 q2 x1 a1 b1 t1 t2 hh1 hh2 hh3 hh4 hh5 hh6 HGC2 HKC2 HGD2 HKD2
          go_upto_region 13 with (fail)
          generalize w3'.alloc (.cells #[.slice Ve de.length vce] 50) = WE at *
          generalize hbe : w3'.heap.size = bE at *
          clear hbe
          have HX := Lib.hid (show ∀ w', Below WE.heap.size WE w' → Below W0.heap.size W0 w' from fun w' h => Below.step HBE.out h)
          have hlc : dc.length ≤ 600 := by
            have h1 := congrArg List.length HDC.out
            have h2 := withE_len (x0.map Ld.df) rule (Lt.tr ⟨B6, c6, l6, r6⟩)
            simp only [List.length_map] at h1 h2
            omega
          have hld : dd.length ≤ 600 := by
            have h1 := congrArg List.length HDD.out
            have h2 := dropE_len (x0.map Ld.df) rule
            simp only [List.length_map] at h1 h2
            omega
          have hle : de.length ≤ 600 := by
            have h1 := congrArg List.length HDE.out
            simp only [List.length_map] at h1
            omega
          have HEC := Lib.hid (show ∀ w', Below WE.heap.size WE w' → _ from fun w' h => exact9_any Vc Va vcc vca dc da _ _ w' (HGC3.out.inn.below h) (HGA.out w' (HX.out w' h)).2.2.2.1 (by rw [HDC.out, HDA.out, HX0.out, HTR6.out]) (by omega))
          have HED := Lib.hid (show ∀ w', Below WE.heap.size WE w' → _ from fun w' h => exact9_any Vd Vb vcd vcb dd db _ _ w' (HGD3.out.inn.below h) (HGA.out w' (HX.out w' h)).2.2.2.2.1 (by rw [HDD.out, HDB.out, HX0.out]) (by omega))
          have HEE := Lib.hid (show ∀ w', Below WE.heap.size WE w' → _ from fun w' h => exact9_any Ve A vce c de la _ _ w' (HGE3.out.inn.below h) (HGA.out w' (HX.out w' h)).1 (by rw [HDE.out, HX0.out]) (by omega))
          have HCE := Lib.hid (show ∀ w', Below WE.heap.size WE w' → w'.cell? ⟨bC, 0, none⟩ = some (.slice Vc dc.length vcc) ∧ w'.cell? ⟨bD, 0, none⟩ = some (.slice Vd dd.length vcd) ∧ w'.cell? ⟨bE, 0, none⟩ = some (.slice Ve de.length vce) from fun w' h => ⟨(blk1 (bx_kept h HKC3.out)).1, (blk1 (bx_kept h HKD3.out)).1, (blk1 (bx_kept h HKE3.out)).1⟩)
          obtain ⟨⟨p1, q1, q2, x1, a1, b1, t1, t2⟩, _⟩ := HCL.out WE HBE.out
          obtain ⟨c1, d1, e1⟩ := HCE.out WE (Below.refl _ _)
          have HE := Lib.hid (Below.refl WE.heap.size WE)
          go_wp2_with (first
            | (go_at_call 46; (with_reducible refine (HEC.out _ HE.out).mono ?_); rintro e wx ⟨rfl, hb⟩; have HE' := Lib.hid (Below.step HE.out hb); clear HE hb p1 q1 q2 x1 a1 b1 t1 t2 c1 d1 e1; have HE := HE'; clear HE'; obtain ⟨⟨p1, q1, q2, x1, a1, b1, t1, t2⟩, _⟩ := HCL.out _ (HX.out _ HE.out); obtain ⟨c1, d1, e1⟩ := HCE.out _ HE.out)
            | (go_at_call 46; (with_reducible refine (HED.out _ HE.out).mono ?_); rintro e wx ⟨rfl, hb⟩; have HE' := Lib.hid (Below.step HE.out hb); clear HE hb p1 q1 q2 x1 a1 b1 t1 t2 c1 d1 e1; have HE := HE'; clear HE'; obtain ⟨⟨p1, q1, q2, x1, a1, b1, t1, t2⟩, _⟩ := HCL.out _ (HX.out _ HE.out); obtain ⟨c1, d1, e1⟩ := HCE.out _ HE.out)
            | (go_at_call 46; (with_reducible refine (HEE.out _ HE.out).mono ?_); rintro e wx ⟨rfl, hb⟩; have HE' := Lib.hid (Below.step HE.out hb); clear HE hb p1 q1 q2 x1 a1 b1 t1 t2 c1 d1 e1; have HE := HE'; clear HE'; obtain ⟨⟨p1, q1, q2, x1, a1, b1, t1, t2⟩, _⟩ := HCL.out _ (HX.out _ HE.out); obtain ⟨c1, d1, e1⟩ := HCE.out _ HE.out)
            | fail)
          have hzc := HZc.out; have hz1 := HZ1.out; have hzd := HZd.out; have hz2 := HZ2.out; have hze := HZe.out; have hz3 := HZ3.out
          have hsW := HB.out.size
          have hsE := HE.out.size
          have hbE := HX.out _ HE.out
          refine (spoil9_any Vc vcc dc _ _ (HGC3.out.agree (below_all HE.out)) (by omega) (dmod_ofE HDC.out (withE_mod (fun x hx => by
            obtain ⟨y, hy, rfl⟩ := List.mem_map.1 hx
            exact (dmod_iff y).1 (HM0.out y hy)) (by rw [HTR6.out]; exact HMB.out)))).mono ?_
          rintro e wy ⟨rfl, hsp⟩
          have HKD4 := Lib.hid ((hsp.block bD (by omega) (fun q => by omega)).trans (bx_kept HE.out HKD3.out))
          have HKE4 := Lib.hid ((hsp.block bE (by omega) (fun q => by omega)).trans (bx_kept HE.out HKE3.out))
          have HGD4 := Lib.hid ((HGD3.out.agree (below_all HE.out)).agree (hsp.agree (fun y hy q => by omega)))
          have HGE4 := Lib.hid ((HGE3.out.agree (below_all HE.out)).agree (hsp.agree (fun y hy q => by omega)))
          have HB4 := Lib.hid (show Below W0.heap.size W0 wy from hbE.trans (hsp.toBelow (fun y q => by omega) hbE.size))
          have hs4 := hsp.size
          obtain ⟨d1', _⟩ := blk1 HKD4.out
          clear hsp p1 q1 q2 x1 a1 b1 t1 t2 c1 d1 e1 HGC3 HGD3 HGE3 HKC3 HKD3 HKE3 HCE HEC HED HEE HX HBE HBD HBA
          go_wp2_with fail
          refine (spoil9_any Vd vcd dd _ _ HGD4.out (by omega) (dmod_ofE HDD.out (dropE_mod (fun x hx => by
            obtain ⟨y, hy, rfl⟩ := List.mem_map.1 hx
            exact (dmod_iff y).1 (HM0.out y hy))))).mono ?_
          rintro e wz ⟨rfl, hsp⟩
          have HKE5 := Lib.hid ((hsp.block bE (by omega) (fun q => by omega)).trans HKE4.out)
          have HGE5 := Lib.hid (HGE4.out.agree (hsp.agree (fun y hy q => by omega)))
          have HB5 := Lib.hid (show Below W0.heap.size W0 wz from HB4.out.trans (hsp.toBelow (fun y q => by omega) HB4.out.size))
          have hs5 := hsp.size
          obtain ⟨e1', _⟩ := blk1 HKE5.out
          clear hsp d1' HKD4 HKE4 HGD4 HGE4
          go_wp2_with fail
          refine (spoil9_any Ve vce de _ _ HGE5.out (by omega) (dmod_ofE HDE.out (fun x hx => by
            obtain ⟨y, hy, rfl⟩ := List.mem_map.1 hx
            exact (dmod_iff y).1 (HM0.out y hy)))).mono ?_
          rintro e wq ⟨rfl, hsp⟩
          have HB6 := Lib.hid (show Below W0.heap.size W0 wq from HB5.out.trans (hsp.toBelow (fun y q => by omega) HB5.out.size))
          clear hsp e1' hzc hz1 hzd hz2 hze hz3 hsW hsE hbE hs4 hs5 HE HGE5 HKE5 HZc HZ1 HZd HZ2 HZe HZ3
          as_aux_lemma =>
            go_wp2_with fail
            exact ⟨⟨k + 1, by omega, by go_num, HB6⟩, by simp only [intOf]; omega⟩
        · have hk2 : k = 2 := by omega
          subst hk2
          have HX := Lib.hid (show ∀ w', Below wr.heap.size wr w' → Below W0.heap.size W0 w' from fun w' h => Below.step HB.out h)
          have HE1 := Lib.hid (show ∀ w', Below wr.heap.size wr w' → _ from fun w' h => exact9_any V0 A v0 c x0 la _ _ w' (HGA.out w' (HX.out w' h)).2.2.1 (HGA.out w' (HX.out w' h)).1 HX0.out (by omega))
          have HE2 := Lib.hid (show ∀ w', Below wr.heap.size wr w' → _ from fun w' h => exactT_any ⟨B6, c6, l6, r6⟩ ⟨B, d, ls, r6⟩ _ _ w' (HGA.out w' (HX.out w' h)).2.2.2.2.2 (HGA.out w' (HX.out w' h)).2.1 HTR6.out)
          have HE3 := Lib.hid (show ∀ w', Below wr.heap.size wr w' → _ from fun w' h => HWW.out w' (HX.out w' h))
          obtain ⟨⟨p1, q1, q2, x1, a1, b1, t1, t2⟩, _⟩ := HCL.out wr HB.out
          have HE := Lib.hid (Below.refl wr.heap.size wr)
          as_aux_lemma =>
            go_wp2_with (first
              | (go_at_call 46; (with_reducible refine (HE1.out _ HE.out).mono ?_); rintro e wx ⟨rfl, hb⟩; have HE' := Lib.hid (Below.step HE.out hb); clear HE hb p1 q1 q2 x1 a1 b1 t1 t2; have HE := HE'; clear HE'; obtain ⟨⟨p1, q1, q2, x1, a1, b1, t1, t2⟩, _⟩ := HCL.out _ (HX.out _ HE.out))
              | (go_at_call 15; (with_reducible refine (HE2.out _ HE.out).mono ?_); rintro e wx ⟨rfl, hb⟩; have HE' := Lib.hid (Below.step HE.out hb); clear HE hb p1 q1 q2 x1 a1 b1 t1 t2; have HE := HE'; clear HE'; obtain ⟨⟨p1, q1, q2, x1, a1, b1, t1, t2⟩, _⟩ := HCL.out _ (HX.out _ HE.out))
              | (go_at_call 27; (with_reducible refine (HE3.out _ HE.out).mono ?_); rintro e wx ⟨rfl, hb⟩; have HE' := Lib.hid (Below.step HE.out hb); clear HE hb p1 q1 q2 x1 a1 b1 t1 t2; have HE := HE'; clear HE')
              | fail)
            go_ret
            exact ⟨rfl, Below.step HBW.out (HX.out _ HE.out)⟩
    · go_wp2_with (go_at_call 27; refine (HWK.out _ HB2.out).mono ?_; rintro e w3 ⟨rfl, hb⟩; have HB3 := Lib.hid (Below.step HB2.out hb); clear hb)
      go_ret
      exact ⟨rfl, HB3.out⟩
  · go_wp2_with (go_at_call 27; refine (HWK.out _ HB1.out).mono ?_; rintro e w3 ⟨rfl, hb⟩; have HB3 := Lib.hid (Below.step HB1.out hb); clear hb)
    go_ret
    exact ⟨rfl, HB3.out⟩
end Go.Proofs.YtdcgbcdmkhleoaaDoor
