/- The contract of bonsairef18.put. -/
import Derived.Test.YtfncfmiccomgcaaDoorCe
import Derived.Deep.RegionLaw
import Derived.Deep.DeepCutAuto
import Derived.Deep.Cut
import Derived.Deep.CutRange
namespace Go.Proofs.YtfncfmiccomgcaaDoor
open Go.RowKit
set_option linter.unusedSimpArgs false
set_option linter.unusedVariables false

theorem DnL.set {xs : List TT} {ks : List Lt} (h : DnL xs ks) (i : Nat) {x : TT} {k : Lt} (hk : Dn x k.tr) : DnL (xs.set i x) (ks.set i k) := by
  refine ⟨?_, fun j hj => ?_⟩
  · rw [List.map_set, h.1, hk.2]
  · rcases List.mem_or_eq_of_mem_set hj with hj | rfl
    · exact h.2 j hj
    · exact hk.1
theorem all_set2 (l : List Lt) (k : Nat) (hk : k < l.length) (t : Lt) : ((ttL.all l).set (k * 2) (.slice t.A t.ls.length t.c)).set (k * 2 + 1) (.int .i64 t.root) = ttL.all (l.set k t) := by
  have hlen : ∀ m : List Lt, (ttL.all m).length = m.length * 2 := fun m => ttL.all_length m
  apply List.ext_getElem?
  intro i
  by_cases hi : i < l.length * 2
  · have hq : i / 2 < l.length := by omega
    have hr : i % 2 < 2 := by omega
    have e : i = i / 2 * 2 + i % 2 := by omega
    have h2 : (ttL.all (l.set k t))[i]? = (ttL.cells ((l.set k t)[i / 2]'(by simpa using hq)))[i % 2]? := by
      have := ttL.all_at (l.set k t) (i / 2) (i % 2) (by simpa using hq) hr
      rw [show ttL.size = 2 from rfl] at this
      rw [← this, ← e]
    have h1 : (ttL.all l)[i]? = (ttL.cells l[i / 2])[i % 2]? := by
      have := ttL.all_at l (i / 2) (i % 2) hq hr
      rw [show ttL.size = 2 from rfl] at this
      rw [← this, ← e]
    rw [h2]
    by_cases hik : i / 2 = k
    · subst hik
      simp only [List.getElem_set_self]
      have h01 : i % 2 = 0 ∨ i % 2 = 1 := by omega
      rcases h01 with h0 | h0
      · have hi0 : i = i / 2 * 2 := by omega
        rw [h0, List.getElem?_set_ne (by omega), ← hi0, List.getElem?_set_self (by rw [hlen]; omega)]; rfl
      · have hi1 : i = i / 2 * 2 + 1 := by omega
        rw [h0, ← hi1, List.getElem?_set_self (by rw [List.length_set, hlen]; omega)]; rfl
    · rw [List.getElem?_set_ne (by omega), List.getElem?_set_ne (by omega), h1]
      simp only [List.getElem_set_ne (show k ≠ i / 2 from fun e => hik e.symm)]
  · rw [List.getElem?_eq_none (by simp only [List.length_set, hlen]; omega), List.getElem?_eq_none (by rw [hlen, List.length_set]; omega)]
/-- Where another tree has been laid into the row of kids. -/
structure PutCut (W0 wk : World) (g kvc : Nat) (ks : List Lt) (kn : Nat) (x : TT) (wx : World) (l : Lt) : Prop where
  own : wx.ownsRow W0.heap.size 24 2 (.slice (some ⟨g, 0, none⟩) ks.length kvc) ks.length (ttL.all (ks.set kn l))
  inn : ∀ j ∈ ks.set kn l, j.inn wx (fun _ => True)
  dn : Dn x l.tr
  kept : ∀ b, b < wk.heap.size → b ≠ g → wx.heap[b]? = wk.heap[b]?
  below : Below W0.heap.size wk wx
theorem put_cut {S : Nat → Prop} {W0 wk w4 : World} {g kvc kn : Nat} {ks : List Lt} {x : TT} {A4 : Option Addr} {c4 : Nat} {l4 : List Ln} {r4 : Int} (hO : wk.ownsRow W0.heap.size 24 2 (.slice (some ⟨g, 0, none⟩) ks.length kvc) ks.length (ttL.all ks)) (hI : ∀ k ∈ ks, k.inn wk (fun b => W0.heap.size ≤ b ∧ blkOf (some ⟨g, 0, none⟩) ≠ some b)) (hg : W0.heap.size ≤ g ∧ g < wk.heap.size) (hk : kn < ks.length)
    (hR : ndL.row w4 (fun b => S b ∨ wk.heap.size ≤ b) A4 l4) (hS : ∀ b, S b → b < W0.heap.size) (hd : Dn x ⟨l4.map Ln.nd, r4⟩) (hs : szTT x ≤ 100000) (hb : Below wk.heap.size wk w4) :
    PutCut W0 wk g kvc ks kn x ((w4.setCell ⟨g, kn * 2, none⟩ (.slice A4 l4.length c4)).setCell ⟨g, kn * 2 + 1, none⟩ (.int .i64 r4)) ⟨A4, c4, l4, r4⟩ := by
  have he : ∀ y, y ≠ g → ((w4.setCell ⟨g, kn * 2, none⟩ (.slice A4 l4.length c4)).setCell ⟨g, kn * 2 + 1, none⟩ (.int .i64 r4)).heap[y]? = w4.heap[y]? := fun y hy => (Below.heap_setCell _ _ _ _ hy).trans (Below.heap_setCell _ _ _ _ hy)
  have hll : l4.length ≤ 281474976710656 := by have := hd.len; simp only [List.length_map] at this; omega
  refine ⟨?_, fun j hj => ?_, hd, fun b h1 h2 => (he b h2).trans (hb.block b h1), ?_⟩
  · have h1 := (World.ownsRow.stored (World.ownsRow.stored (own_belowA hO hb) (kn * 2) (.slice A4 l4.length c4)).1 (kn * 2 + 1) (.int .i64 r4)).1
    have h2 := all_set2 ks kn hk ⟨A4, c4, l4, r4⟩
    simp only at h2
    rw [h2] at h1; exact h1
  · rcases List.mem_or_eq_of_mem_set hj with hj | rfl
    · have h1 := ((hI j hj).mono (T := fun b => b ≠ g ∧ b < wk.heap.size) (fun b a h => ⟨fun e => h.2 (by rw [e]; rfl), a⟩)).below hb
      exact (h1.agree (fun b hy _ => he b hy.1)).mono (fun _ _ _ => trivial)
    · have h1 : Lt.inn w4 (fun b => b ≠ g) ⟨A4, c4, l4, r4⟩ := ⟨hll, hR.mono (fun b _ h => h.elim (fun h => by have := hS b h; omega) (fun h => by omega))⟩
      exact (h1.agree (fun b hy _ => he b hy)).mono (fun _ _ _ => trivial)
  · exact ((hb.mono (by omega)).setCell (p := ⟨g, kn * 2, none⟩) hg.1 _).setCell (p := ⟨g, kn * 2 + 1, none⟩) hg.1 _
def PutDn (S : Nat → Prop) (x : TT) (w : World) (e : Ending) (w' : World) : Prop := ∃ (A : Option Addr) (c : Nat) (ls : List Ln) (r : Int), e = .returned (.agg #[.slice A ls.length c, .int .i64 r]) ∧ ndL.row w' (fun b => S b ∨ w.heap.size ≤ b) A ls ∧ Dn x ⟨ls.map Ln.nd, r⟩ ∧ Below w.heap.size w w'
set_option maxRecDepth 100000 in
set_option maxHeartbeats 12800000 in
theorem r18put_dn : ∀ (p : List Int) (x y z : TT) (T : Tr) (A : Option Addr) (c : Nat) (ls : List Ln) (r : Int) (PA : Option Addr) (pc : Nat) (XA : Option Addr) (xc : Nat) (xs : List Ln) (xr : Int) (S : Nat → Prop) (w : World), Dn x T → Lies w T A c ls r → intL.row w (fun _ => True) PA p → p.length ≤ pc → Dn y ⟨xs.map Ln.nd, xr⟩ → ndL.row w S XA xs → szTT x + szTT y ≤ 100000 → atTT x p = some z →
    Calls Tryd.prog 32 #[.agg #[.slice A ls.length c, .int .i64 r], .slice PA p.length pc, .agg #[.slice XA xs.length xc, .int .i64 xr]] w (PutDn S (putTT x p y) w) := by
  intro p
  induction p with
  | nil =>
    intro x y z T A c ls r PA pc XA xc xs xr S w hd hT hP hpc hdy hX hs hat
    have HB0 := Lib.hid (box3 w (.cells #[.slice A ls.length c, .int .i64 r] 24) (.cells #[.slice XA xs.length xc, .int .i64 xr] 24) (.cells #[.slice none 0 0, .int .i64 0] 24)).1
    have hk1 := bx_new (w.alloc (.cells #[.slice A ls.length c, .int .i64 r] 24)) (.cells #[.slice XA xs.length xc, .int .i64 xr] 24)
    rw [World.size_alloc] at hk1
    have hk2 := bx_new ((w.alloc (.cells #[.slice A ls.length c, .int .i64 r] 24)).alloc (.cells #[.slice XA xs.length xc, .int .i64 xr] 24)) (.cells #[.slice none 0 0, .int .i64 0] 24)
    rw [World.size_alloc, World.size_alloc] at hk2
    have HK1 := Lib.hid (bx_old (p := .cells #[.slice none 0 0, .int .i64 0] 24) hk1); have HK2 := Lib.hid hk2
    have HX := Lib.hid hX; have HY := Lib.hid hdy
    clear hk1 hk2 hd hT hP hpc hdy hX hs hat
    go_enter Tryd.func32, Tryd.ntmps32
    go_upto_region 1 with (fail)
    generalize ((w.alloc (.cells #[.slice A ls.length c, .int .i64 r] 24)).alloc (.cells #[.slice XA xs.length xc, .int .i64 xr] 24)).alloc (.cells #[.slice none 0 0, .int .i64 0] 24) = W0 at *
    obtain ⟨x0, x1, _, _⟩ := blk2 HK1.out
    obtain ⟨t0, t1, t2, t3⟩ := blk2 HK2.out
    go_wp2_with fail
    refine bodyPost_ret (v := .agg #[.slice XA xs.length xc, .int .i64 xr]) (by simp [results, Tryd.results32, go_sem, t0, t1]) rfl ?_
    have hb := (HB0.out.setCell (p := ⟨w.heap.size + 2, 0, none⟩) (Nat.le_add_right _ 2) (.slice XA xs.length xc)).setCell (p := ⟨w.heap.size + 2, 1, none⟩) (Nat.le_add_right _ 2) (.int .i64 xr)
    exact ⟨XA, xc, xs, xr, rfl, (HX.out.below hb).mono (fun b _ h => .inl h), HY.out, hb⟩
  | cons k p ih =>
    intro x y z T A c ls r PA pc XA xc xs xr S w hd hT hP hpc hdy hX hs hat
    have IH := Lib.hid ih; have HD := Lib.hid hd; have HY := Lib.hid hdy
    have HB0 := Lib.hid (box3 w (.cells #[.slice A ls.length c, .int .i64 r] 24) (.cells #[.slice XA xs.length xc, .int .i64 xr] 24) (.cells #[.slice none 0 0, .int .i64 0] 24))
    have hk1 := bx_new (w.alloc (.cells #[.slice A ls.length c, .int .i64 r] 24)) (.cells #[.slice XA xs.length xc, .int .i64 xr] 24)
    rw [World.size_alloc] at hk1
    have hk2 := bx_new ((w.alloc (.cells #[.slice A ls.length c, .int .i64 r] 24)).alloc (.cells #[.slice XA xs.length xc, .int .i64 xr] 24)) (.cells #[.slice none 0 0, .int .i64 0] 24)
    rw [World.size_alloc, World.size_alloc] at hk2
    have HK := Lib.hid (And.intro (bx_old (p := .cells #[.slice none 0 0, .int .i64 0] 24) (bx_old (p := .cells #[.slice XA xs.length xc, .int .i64 xr] 24) (bx_new w (.cells #[.slice A ls.length c, .int .i64 r] 24)))) (And.intro (bx_old (p := .cells #[.slice none 0 0, .int .i64 0] 24) hk1) hk2))
    have HT0 := Lib.hid (hT.below HB0.out.1)
    have HX0 := Lib.hid (hX.below HB0.out.1)
    have HX := Lib.hid (show ndL.row w (fun b => S b ∧ b < w.heap.size) XA xs from hX.mono (fun b a h => ⟨h, a⟩))
    have HP := Lib.hid hP
    obtain ⟨hk0, u, hu, hatu⟩ := atTT_cons hat
    obtain ⟨kn, rfl⟩ := Int.eq_ofNat_of_zero_le hk0
    simp only [Int.toNat_natCast] at hu
    have HU := Lib.hid hu; have HAU := Lib.hid hatu; have HAT := Lib.hid hat
    have hkl : kn < x.kids.length := (List.getElem?_eq_some_iff.1 hu).1
    have HWF := Lib.hid (root_wf hT hd)
    have hpl : p.length + 1 ≤ pc := by simpa using hpc
    clear hk1 hk2 ih hd hT hP hdy hX hk0 hu hatu hat hpc
    obtain ⟨pb, po, hPA, _, hpb, z0⟩ := intRow HP.out 0 (by simp)
    simp only [List.getElem_cons_zero, Nat.add_zero] at z0
    have HZ0 := Lib.hid (show ∀ w', Below w.heap.size w w' → w'.cell? ⟨pb, po, none⟩ = some (.int .i64 (kn : Int)) from fun w' h => (h.cell (cellLt z0)).trans z0)
    clear z0
    go_enter Tryd.func32, Tryd.ntmps32
    go_upto_region 1 with (fail)
    generalize ((w.alloc (.cells #[.slice A ls.length c, .int .i64 r] 24)).alloc (.cells #[.slice XA xs.length xc, .int .i64 xr] 24)).alloc (.cells #[.slice none 0 0, .int .i64 0] 24) = W0 at *
    obtain ⟨q0, q1, _, _⟩ := blk2 HK.out.1
    have i0 : ¬ (((((kn : Int) :: p).length : Nat)) : Int) = 0 := by simp only [List.length_cons]; omega
    go_wp2_with fail
    refine (rkids_dn (c := c) HT0.out HD.out (by omega)).mono ?_
    rintro e wk ⟨KV, kvc, ks, rfl, hdk, hok, hik, hbk⟩
    have HDK := Lib.hid hdk; have HOK := Lib.hid hok; have HIK := Lib.hid hik; have HBK := Lib.hid (Below.step HB0.out.1 hbk); have HBKW := Lib.hid hbk
    have HKt := Lib.hid (bx_kept hbk HK.out.1); have HKx := Lib.hid (bx_kept hbk HK.out.2.1); have HKr := Lib.hid (bx_kept hbk HK.out.2.2)
    have HZK := Lib.hid (show w.heap.size + 3 ≤ W0.heap.size ∧ W0.heap.size ≤ wk.heap.size from ⟨by rw [HB0.out.2]; omega, hbk.size⟩)
    have hkl2 : kn < ks.length := by rw [hdk.len]; exact hkl
    clear hdk hok hik hbk q0 q1 HK
    obtain ⟨g, rfl, hgB, hgs⟩ := own_some HOK.out (by omega)
    have HGB := Lib.hid hgB; have HGS := Lib.hid hgs; clear hgB hgs
    obtain ⟨lb, lo, hLB, _, _, y0, y1⟩ := ttRow (show ttL.row wk (fun _ => True) (some ⟨g, 0, none⟩) ks from ⟨own_rowIn HOK.out (fun _ _ => trivial), fun j hj => (HIK.out j hj).mono (fun _ _ _ => trivial)⟩) kn hkl2
    cases hLB
    simp only [Nat.zero_add] at y0 y1
    have HDU := Lib.hid (show Dn u ks[kn].tr from by
      have h := HDK.out.at kn hkl2
      have e : (x.kids[kn]'(by rw [← HDK.out.len]; exact hkl2)) = u := (List.getElem?_eq_some_iff.1 HU.out).2
      rwa [e] at h)
    have HSZ := Lib.hid (show szTT u + szTT y ≤ 100000 from by
      have h := sz_kid (n := x.nd) (List.mem_of_getElem? HU.out)
      rw [TT.eta] at h
      omega)
    have HEL := Lib.hid (show Lies wk ks[kn].tr ks[kn].A ks[kn].c ks[kn].ls ks[kn].root from ⟨(HIK.out _ (List.getElem_mem hkl2)).2.mono (fun _ _ _ => trivial), rfl⟩)
    generalize hkk : ks[kn] = tk at *
    have HKK := Lib.hid hkk
    obtain ⟨UA, uc, uls, ur⟩ := tk
    clear hkk
    simp only at y0 y1 HEL HDU
    obtain ⟨VD, hVD⟩ : ∃ VD, (if pc = 1 then some (⟨pb, po, none⟩ : Addr) else some ⟨pb, po + 1, none⟩) = VD := ⟨_, rfl⟩
    subst hPA
    have HPD := Lib.hid (show intL.row w (fun _ => True) VD p from by
      have h := row_drop HP.out 1 pc (by simpa using hpl)
      rw [← hVD]
      exact h)
    have HI := Lib.hid (IH.out u y z _ UA uc uls ur VD (pc - 1) XA xc xs xr _ wk.drew HDU.out (HEL.out.below (Below.refl _ wk).drew) (HPD.out.below (Below.drew HBK.out)) (by omega) HY.out (HX.out.below (Below.drew HBK.out)) HSZ.out HAU.out)
    have HST := Lib.hid (show ∀ w', Below wk.heap.size wk w' → w'.cell? ⟨g, kn * 2, none⟩ = some (.slice UA uls.length uc) ∧ w'.cell? ⟨g, kn * 2 + 1, none⟩ = some (.int .i64 ur) ∧ w'.frozen? ⟨g, kn * 2, none⟩ = false ∧ w'.frozen? ⟨g, kn * 2 + 1, none⟩ = false from fun w' hb => by
      have hown := own_belowA HOK.out hb
      exact ⟨(hb.cell (cellLt y0)).trans y0, (hb.cell (cellLt y1)).trans y1, World.ownsRow.frozenAt hown _, World.ownsRow.frozenAt hown _⟩)
    obtain ⟨x0, x1, _, _⟩ := blk2 HKx.out
    have z0 := HZ0.out wk HBK.out
    have z9 := cellLt z0
    have i1 : (1 : Int) ≤ (p.length : Int) + 1 := by omega
    have i2 : (0 : Int) ≤ (kn : Int) := by omega
    have i3 : (kn : Int) < (ks.length : Int) := by omega
    have i4 : (p.length : Int) + 1 ≤ (pc : Int) := by omega
    go_upto_region 4 with (fail)
    go_cut [] from 16 to 30 (fun wx => ∃ l : Lt, Hid (PutCut W0 wk g kvc ks kn (putTT u p y) wx l))
    case first =>
      go_region_law ((go_simp; go_at_call 32; refine (HI.out).mono ?_; rintro e w4 ⟨A4, c4, l4, r4, rfl, hr4, hd4, hb4⟩; have HR4 := Lib.hid hr4; have HD4 := Lib.hid hd4; have HB4 := Lib.hid (show Below wk.heap.size wk w4 from (Below.refl _ wk).drew.trans hb4); clear hr4 hd4 hb4; obtain ⟨s0, s1, s2, s3⟩ := HST.out w4 HB4.out; have z4 := HZ0.out w4 (Below.step HBK.out HB4.out)))
      all_goals go_wp2_with fail
      all_goals go_meet
      all_goals exact ⟨⟨A4, c4, l4, r4⟩, Lib.hid (put_cut HOK.out HIK.out ⟨HGB.out, HGS.out⟩ hkl2 HR4.out (fun b hb => by have h1 : b < w.heap.size := hb.2; have h2 := HZK.out.1; omega) HD4.out (by have h1 := sz_put p u y z HAU.out; have h2 := HSZ.out; omega) HB4.out)⟩
    case rest =>
      obtain ⟨⟨A4, c4, l4, r4⟩, HPC⟩ := hcut
      have hgb := HGB.out; have hz1 := HZK.out.1; have hz2 := HZK.out.2
      have HBC := Lib.hid (HBKW.out.trans HPC.out.below)
      have HBCW := Lib.hid (Below.step HB0.out.1 HBC.out)
      have HKt2 := Lib.hid ((HPC.out.kept w.heap.size (by omega) (by omega)).trans HKt.out)
      have HKr2 := Lib.hid ((HPC.out.kept (w.heap.size + 1 + 1) (by omega) (by omega)).trans HKr.out)
      have HTC := Lib.hid (HT0.out.below HBC.out)
      have HRW := Lib.hid (show ttL.row wc (fun _ => True) (some ⟨g, 0, none⟩) (ks.set kn ⟨A4, c4, l4, r4⟩) from ⟨own_rowIn (by have h := HPC.out.own; rw [show ks.length = (ks.set kn ⟨A4, c4, l4, r4⟩).length by simp] at h; exact h) (fun _ _ => trivial), HPC.out.inn⟩)
      have HDS := Lib.hid (HDK.out.set kn HPC.out.dn)
      have hfx := HD.out.fit
      have hpe : putTT x ((kn : Int) :: p) y = .mk x.nd (x.kids.set kn (putTT u p y)) := by
        simp only [putTT, Int.toNat_natCast, HU.out, Option.getD_some]
      have HPE := Lib.hid hpe
      have hsz : szTT (putTT x ((kn : Int) :: p) y) ≤ 100000 := by have h := sz_put _ x y z HAT.out; omega
      have HSS := Lib.hid (show szs (x.kids.set kn (putTT u p y)) ≤ 100000 from by rw [hpe, sz_mk] at hsz; omega)
      clear hpe hsz
      obtain ⟨nd, kk⟩ := x
      simp only [TT.nd, TT.kids] at HPE HWF HDS HSS hkl
      have HFT := Lib.hid (show fitN nd ((kk.set kn (putTT u p y)).length : Nat) = true from by rw [List.length_set]; exact (fitTT_mk.1 hfx).1.2)
      have HFF := Lib.hid (show fitTT (.mk nd (kk.set kn (putTT u p y))) from by
        rw [← HPE.out]
        exact fit_put _ _ _ _ hfx HAT.out HY.out.fit)
      clear hfx
      obtain ⟨q0, q1, _, _⟩ := blk2 HKt2.out
      go_wp2_with fail
      refine (rroot_dn (c := c) HTC.out HD.out (by omega)).mono ?_
      rintro e w5 ⟨rfl, hb5⟩
      have HO := Lib.hid (rof_dn (lc := kvc) (K := .slice none 0 0) (n := nd) (HRW.out.below hb5) HDS.out HSS.out HWF.out.1 HFT.out)
      have HB5 := Lib.hid (Below.step HBCW.out hb5); have HKr5 := Lib.hid (bx_kept hb5 HKr2.out); have HZ5 := Lib.hid (show w.heap.size + 3 ≤ w5.heap.size from by have h1 := hb5.size; have h2 := HBC.out.size; omega)
      rw [List.length_set] at HO
      clear hb5 q0 q1
      obtain ⟨kd, s0, s1, s2, s3, tx, mn, mx, ki⟩ := nd
      simp only [TT.nd]
      go_wp2_with fail
      refine HO.out.mono ?_
      rintro e w6 ⟨A6, c6, l6, r6, rfl, hl6, hb6⟩
      have HL6 := Lib.hid (hl6.below (bx1 w6 (.cells #[.slice A6 l6.length c6, .int .i64 r6] 24)))
      have HB6 := Lib.hid (Below.step (Below.step HB5.out hb6) (bx1 w6 (.cells #[.slice A6 l6.length c6, .int .i64 r6] 24)))
      have HKr6 := Lib.hid (bx_old (p := .cells #[.slice A6 l6.length c6, .int .i64 r6] 24) (bx_kept hb6 HKr5.out))
      have HG6 := Lib.hid (bx_new w6 (.cells #[.slice A6 l6.length c6, .int .i64 r6] 24))
      clear hl6 hb6 HO
      go_upto_region 6 with (fail)
      generalize w6.alloc (.cells #[.slice A6 l6.length c6, .int .i64 r6] 24) = W6 at *
      generalize w6.heap.size = gz at *
      obtain ⟨t0, t1, t2, t3⟩ := blk2 HKr6.out
      obtain ⟨v0, v1, _, _⟩ := blk2 HG6.out
      go_wp2_with fail
      refine bodyPost_ret (v := .agg #[.slice A6 l6.length c6, .int .i64 r6]) (by simp [results, Tryd.results32, go_sem, t0, t1]) rfl ?_
      have h := box_lateO (g := w.heap.size + 1 + 1) HKr6.out (Nat.lt_succ_self _) (HL6.out.mono (by have := HZ5.out; omega)) HB6.out (by omega)
      rw [HPE.out]
      refine ⟨A6, c6, l6, r6, rfl, h.2.1.1.mono (fun b _ hb => .inr (by have hb : w.heap.size + 1 + 1 + 1 ≤ b := hb; omega)), ?_, h.2.2⟩
      rw [show (⟨l6.map Ln.nd, r6⟩ : Tr) = _ from HL6.out.2]
      exact Dn.of HFF.out
end Go.Proofs.YtfncfmiccomgcaaDoor

/- The contracts of bonsairef18.At and bonsairef18.Put. -/
namespace Go.Proofs.YtfncfmiccomgcaaDoor
open Go.RowKit
set_option linter.unusedSimpArgs false
set_option linter.unusedVariables false

/-- A tree, or none. -/
def TupOr (R : Option Tr) (w : World) (e : Ending) (w' : World) : Prop := ∃ (A : Option Addr) (c : Nat) (ls : List Ln) (r : Int), e = .returned (.tuple #[.agg #[.slice A ls.length c, .int .i64 r], .bool R.isSome]) ∧ LiesO w.heap.size w' (R.getD ⟨[], 0⟩) A c ls r ∧ Below w.heap.size w w'
theorem NotPost.tup {w : World} {e : Ending} {w' : World} (h : NotPost w e w') : TupOr none w e w' := by
  obtain ⟨rfl, hb⟩ := h
  exact ⟨none, 0, [], 0, rfl, ⟨Lay.row.nil _ _ _, rfl⟩, hb⟩
theorem TupPost.tup {R : Tr} {w : World} {e : Ending} {w' : World} (h : TupPost R w e w') : TupOr (some R) w e w' := h
/-- Small enough for the reference. -/
def SmallT (T : Tr) : Prop := T.nodes.length ≤ 1500 ∧ ∀ n ∈ T.nodes, n.kids.length ≤ 1500
theorem rright_small {w : World} {T : Tr} {A : Option Addr} {c : Nat} {ls : List Ln} {r : Int} (hT : Lies w T A c ls r) (hs : SmallT T) :
    Calls Tryd.prog 27 #[.agg #[.slice A ls.length c, .int .i64 r]] w fun e w' => e = .returned (.bool (rightT T)) ∧ Below w.heap.size w w' := by
  have hl := hT.len
  obtain ⟨h1, h2⟩ := hs
  have h3 := flat_len Nd.kids 1500 T.nodes h2
  rw [← hT.2] at h2 h3 ⊢
  refine rright_any A c ls r _ w hT.1 (by omega) (fun l hl' => by have := h2 l.nd (List.mem_map.2 ⟨l, hl', rfl⟩); omega) ?_
  have h4 : (kidsOf (ls.map Ln.nd)).length ≤ (ls.map Ln.nd).length * 1500 := h3
  rw [List.length_map] at h4
  omega
def RAtRel (w : World) (T : Tr) (p : List Int) (bx : Obj) (b2 : Obj) (v6 v7 : Value) (wr : World) : Prop :=
  ∃ (k nd : Nat), k ≤ p.length ∧ v7 = .int .i64 k ∧ v6 = .int .i64 nd ∧ nd < T.nodes.length ∧ Hid (atTT (den T.nodes nd) (p.drop k) = atT T p) ∧ Hid (wr.heap[w.heap.size]? = some bx) ∧ Hid (wr.heap[w.heap.size + 1]? = some b2) ∧ Hid (w.heap.size + 2 ≤ wr.heap.size) ∧ Hid (Below w.heap.size w wr)
set_option maxRecDepth 100000 in
set_option maxHeartbeats 12800000 in
theorem r18at_any {w : World} {T : Tr} {A PA : Option Addr} {c pc : Nat} {ls : List Ln} {r : Int} {p : List Int} (hT : Lies w T A c ls r) (hs : SmallT T) (hP : intL.row w (fun _ => True) PA p) (hpl : p.length ≤ 1500) :
    Calls Tryd.prog 10 #[.agg #[.slice A ls.length c, .int .i64 r], .slice PA p.length pc] w (TupOr ((atT T p).map treeOf) w) := by
  have HB0 := Lib.hid (bx2 w (.cells #[.slice A ls.length c, .int .i64 r] 24) (.cells #[.slice none 0 0, .int .i64 0] 24))
  have HK0 := Lib.hid (box2 w (.slice A ls.length c) (.int .i64 r))
  have HT0 := Lib.hid (hT.below HB0.out)
  have HP := Lib.hid hP
  have HFIN := Lib.hid (show ∀ (wd : World), wd.heap[w.heap.size + 1]? = some (.cells #[.slice none 0 0, .int .i64 0] 24 (0, 0)) → Below w.heap.size w wd → Below w.heap.size w ((wd.setCell ⟨w.heap.size + 1, 0, none⟩ (.slice none 0 0)).setCell ⟨w.heap.size + 1, 1, none⟩ (.int .i64 0)) from fun wd h1 h2 => (h2.setCell (p := ⟨w.heap.size + 1, 0, none⟩) (Nat.le_succ _) _).setCell (p := ⟨w.heap.size + 1, 1, none⟩) (Nat.le_succ _) _)
  have hll := hT.len
  have hlb : ls.length ≤ 1500 := by have := hs.1; omega
  have HLT := Lib.hid hT.2
  have HTL := Lib.hid hll.symm
  have HTT := Lib.hid hT
  clear hT hP hll
  go_enter Tryd.func10, Tryd.ntmps10
  go_upto_region 1 with (fail)
  generalize (w.alloc (.cells #[.slice A ls.length c, .int .i64 r] 24)).alloc (.cells #[.slice none 0 0, .int .i64 0] 24) = W0 at *
  obtain ⟨q0, q1, _, _⟩ := blk2 HK0.out.1
  go_wp2_with fail
  refine (rright_small (c := c) HT0.out hs).mono ?_
  rintro e w1 ⟨rfl, hb⟩
  have HB1 := Lib.hid (Below.step HB0.out hb); have HKT := Lib.hid (bx_kept hb HK0.out.1); have HKR := Lib.hid (bx_kept hb HK0.out.2.1); have HZ1 := Lib.hid (show w.heap.size + 2 ≤ w1.heap.size from by have h1 := hb.size; have h2 := HK0.out.2.2; omega)
  clear hb q0 q1 HT0 HK0
  obtain ⟨q0, q1, _, _⟩ := blk2 HKT.out
  obtain ⟨t0, t1, t2, t3⟩ := blk2 HKR.out
  rcases hrt : rightT T with _ | _
  · have HN := Lib.hid (show atT T p = none from by unfold atT; rw [hrt]; rfl)
    have HS := Lib.hid (HFIN.out w1 HKR.out HB1.out)
    go_wp2_with fail
    refine bodyPost_ret (v := .tuple #[.agg #[.slice none 0 0, .int .i64 0], .bool false]) (by simp [results, Tryd.results10, go_sem, t0, t1]) rfl ?_
    rw [HN.out]
    exact NotPost.tup ⟨rfl, HS.out⟩
  have hD : Dn (denT T) T := ⟨hrt, rfl⟩
  have HD := Lib.hid hD
  have HSX := Lib.hid (show szTT (denT T) ≤ 100000 from by have h := hD.len; have := hs.1; omega)
  have hr := hD.right.1
  have hroot : r = T.root := by rw [← HLT.out]
  have hrr : 0 ≤ r ∧ r < (T.nodes.length : Int) := by rw [hroot]; exact hr
  obtain ⟨rn, rfl⟩ := Int.eq_ofNat_of_zero_le hrr.1
  have HAT := Lib.hid (show atTT (den T.nodes rn) (p.drop 0) = atT T p from by rw [atT_of hrt]; show _ = atTT (den T.nodes T.root.toNat) p; rw [← hroot]; rfl)
  have hrn : rn < T.nodes.length := by omega
  clear hD hr hroot hrr t0 t1 t2 t3 hrt
  go_wp2_with fail
  go_loopw [6, 7] (fun v6 v7 wr => RAtRel w T p (.cells #[.slice A ls.length c, .int .i64 (rn : Int)] 24 (0, 0)) (.cells #[.slice none 0 0, .int .i64 0] 24 (0, 0)) v6 v7 wr) (fun _ v7 _ => p.length - (intOf v7).toNat)
  case atStart => exact ⟨0, rn, Nat.zero_le _, rfl, rfl, hrn, HAT, HKT, HKR, HZ1, HB1⟩
  case round =>
    clear HKT HKR HZ1 HAT q0 q1 hrn
    obtain ⟨k, nd, hk, rfl, rfl, hnd, HAT, HKT, HKR, HZ, HB⟩ := hrel
    obtain ⟨q0, q1, _, _⟩ := blk2 HKT.out
    obtain ⟨t0, t1, t2, t3⟩ := blk2 HKR.out
    by_cases hk1 : k < p.length
    · have i1 : (k : Int) < (p.length : Int) := by omega
      have i2 : (0 : Int) ≤ (k : Int) := by omega
      have hnl : nd < ls.length := by have := HTL.out; omega
      have i3 : (nd : Int) < (ls.length : Int) := by omega
      have i4 : (0 : Int) ≤ (nd : Int) := by omega
      obtain ⟨pb, po, hPA, _, _, z0⟩ := intRow (HP.out.below HB.out) k hk1
      subst hPA
      obtain ⟨nb, no, hNA, _, _, x0, x1, x2, x3, x4, x5, x6, x7, x8⟩ := ndRow (HTT.out.1.below HB.out) nd hnl
      subst hNA
      have HKR' := Lib.hid (ndSub (HTT.out.1.below HB.out) nd hnl)
      have HDR := Lib.hid (show p.drop k = p[k] :: p.drop (k + 1) from List.drop_eq_getElem_cons hk1)
      have HKA := Lib.hid (show (den T.nodes nd).kids = (ls[nd].nd.kids.map Int.toNat).map (den T.nodes) from by
        have h1 := den_eq (rightP_ahead HD.out.right) nd
        rw [h1]
        show (kidsAt T.nodes nd).map (den T.nodes) = _
        rw [kidsAt_nd, ← HLT.out]; simp [ndAt, hnl])
      have HKB := Lib.hid (show ∀ z ∈ ls[nd].nd.kids, 0 ≤ z ∧ z < (T.nodes.length : Int) from fun z hz => by
        have h := rightP_kid HD.out.right (i := nd) (n := ls[nd].nd) (by rw [← HLT.out]; simp [hnl]) hz
        omega)
      have hkl : ls[nd].nd.kids.length ≤ 1500 := hs.2 _ (by rw [← HLT.out]; exact List.mem_map.2 ⟨ls[nd], List.getElem_mem hnl, rfl⟩)
      generalize p[k] = pk at *
      generalize ls[nd] = ln at *
      obtain ⟨⟨kd, s0, s1, s2, s3, tx, mn, mx, ki⟩, KA, Kc⟩ := ln
      simp only at x8 HKA HKB HKR' hkl
      clear x0 x1 x2 x3 x4 x5 x6 x7
      have HS := Lib.hid (HFIN.out wr HKR.out HB.out)
      by_cases hp0 : pk < 0
      · have HN := Lib.hid (show atT T p = none from by rw [← HAT.out, HDR.out]; simp only [atTT]; rw [if_neg (by omega)])
        have e0 : decide (pk < 0) = true := by simpa using hp0
        as_aux_lemma =>
          go_wp2_with fail
          refine bodyPost_ret (v := .tuple #[.agg #[.slice none 0 0, .int .i64 0], .bool false]) (by simp [results, Tryd.results10, go_sem, t0, t1]) rfl ?_
          rw [HN.out]
          exact NotPost.tup ⟨rfl, HS.out⟩
      have e0 : decide (pk < 0) = false := by simpa using hp0
      by_cases hp1 : (ki.length : Int) ≤ pk
      · have HN := Lib.hid (show atT T p = none from by
          rw [← HAT.out, HDR.out]
          simp only [atTT]
          rw [if_pos (by omega), HKA.out, List.getElem?_eq_none (by simp only [List.length_map]; omega)]; rfl)
        have e1 : decide ((ki.length : Int) ≤ pk) = true := by simpa using hp1
        as_aux_lemma =>
          go_wp2_with fail
          refine bodyPost_ret (v := .tuple #[.agg #[.slice none 0 0, .int .i64 0], .bool false]) (by simp [results, Tryd.results10, go_sem, t0, t1]) rfl ?_
          rw [HN.out]
          exact NotPost.tup ⟨rfl, HS.out⟩
      have e1 : decide ((ki.length : Int) ≤ pk) = false := by simpa using hp1
      obtain ⟨pn, rfl⟩ := Int.eq_ofNat_of_zero_le (show 0 ≤ pk by omega)
      have hpn : pn < ki.length := by omega
      have i5 : (pn : Int) < (ki.length : Int) := by omega
      have i6 : (0 : Int) ≤ (pn : Int) := by omega
      obtain ⟨kb, ko, hKA, _, _, y0⟩ := intRow HKR'.out pn hpn
      subst hKA
      have hkz := HKB.out ki[pn] (List.getElem_mem hpn)
      obtain ⟨kn, hkn⟩ := Int.eq_ofNat_of_zero_le hkz.1
      have HNX := Lib.hid (show atTT (den T.nodes kn) (p.drop (k + 1)) = atT T p from by
        rw [← HAT.out, HDR.out]
        simp only [atTT]
        rw [if_pos (by omega), HKA.out, Int.toNat_natCast]
        simp [hpn, hkn])
      rw [hkn] at y0 hkz
      clear hkn
      as_aux_lemma =>
        go_wp2_with fail
        exact ⟨⟨k + 1, kn, hk1, by go_num, rfl, by omega, HNX, HKT, HKR, HZ, HB⟩, by simp only [intOf]; omega⟩
    · have hke : k = p.length := by omega
      subst hke
      have i1 : ¬ (p.length : Int) < (p.length : Int) := by omega
      have HY := Lib.hid (show atT T p = some (den T.nodes nd) from by rw [← HAT.out, List.drop_length]; rfl)
      have HVt := Lib.hid (HTT.out.below HB.out)
      go_wp2_with fail
      refine (rsub_dn (c := c) HVt.out HD.out HSX.out nd (by have := HTL.out; omega)).mono ?_
      rintro e w3 ⟨A4, c4, l4, r4, rfl, hl4, hb4⟩
      have HL4 := Lib.hid hl4; have HB4 := Lib.hid (Below.step HB.out hb4); have HK4 := Lib.hid (bx_kept hb4 HKR.out)
      clear hl4 hb4 t0 t1 t2 t3
      obtain ⟨t0, t1, t2, t3⟩ := blk2 HK4.out
      go_wp2_with fail
      refine bodyPost_ret (v := .tuple #[.agg #[.slice A4 l4.length c4, .int .i64 r4], .bool true]) (by simp [results, Tryd.results10, go_sem, t0, t1]) rfl ?_
      have h := box_lateO HK4.out (Nat.lt_succ_self _) (HL4.out.mono HZ.out) HB4.out (Nat.le_succ _)
      rw [HY.out]
      exact ⟨A4, c4, l4, r4, rfl, h.2.1.mono (by omega), h.2.2⟩
set_option maxRecDepth 100000 in
set_option maxHeartbeats 12800000 in
theorem r18Put_any {w : World} {T X : Tr} {A PA XA : Option Addr} {c pc xc : Nat} {ls xs : List Ln} {r xr : Int} {p : List Int} (hT : Lies w T A c ls r) (hs : SmallT T) (hP : intL.row w (fun _ => True) PA p) (hpl : p.length ≤ 1500) (hpc : p.length ≤ pc) (hX : Lies w X XA xc xs xr) (hx : SmallT X) :
    Calls Tryd.prog 12 #[.agg #[.slice A ls.length c, .int .i64 r], .slice PA p.length pc, .agg #[.slice XA xs.length xc, .int .i64 xr]] w (TupOr ((putT T p X).map fun y => treeOf (makeTT y)) w) := by
  have HB0 := Lib.hid (box3 w (.cells #[.slice A ls.length c, .int .i64 r] 24) (.cells #[.slice XA xs.length xc, .int .i64 xr] 24) (.cells #[.slice none 0 0, .int .i64 0] 24))
  have hk1 := bx_new (w.alloc (.cells #[.slice A ls.length c, .int .i64 r] 24)) (.cells #[.slice XA xs.length xc, .int .i64 xr] 24)
  rw [World.size_alloc] at hk1
  have hk2 := bx_new ((w.alloc (.cells #[.slice A ls.length c, .int .i64 r] 24)).alloc (.cells #[.slice XA xs.length xc, .int .i64 xr] 24)) (.cells #[.slice none 0 0, .int .i64 0] 24)
  rw [World.size_alloc, World.size_alloc] at hk2
  have HKt := Lib.hid (bx_old (p := .cells #[.slice none 0 0, .int .i64 0] 24) (bx_old (p := .cells #[.slice XA xs.length xc, .int .i64 xr] 24) (bx_new w (.cells #[.slice A ls.length c, .int .i64 r] 24))))
  have HKx := Lib.hid (bx_old (p := .cells #[.slice none 0 0, .int .i64 0] 24) hk1); have HKr := Lib.hid hk2
  have HVt := Lib.hid (hT.below HB0.out.1); have HVx := Lib.hid (hX.below HB0.out.1); have HPp := Lib.hid (hP.below HB0.out.1)
  have HXE := Lib.hid (show (⟨xs.map Ln.nd, xr⟩ : Tr) = X from hX.2)
  clear hk1 hk2 hT hX hP
  go_enter Tryd.func12, Tryd.ntmps12
  go_upto_region 1 with (fail)
  have HZ := Lib.hid (show w.heap.size + 3 ≤ (((w.alloc (.cells #[.slice A ls.length c, .int .i64 r] 24)).alloc (.cells #[.slice XA xs.length xc, .int .i64 xr] 24)).alloc (.cells #[.slice none 0 0, .int .i64 0] 24)).heap.size from by simp)
  have HB := Lib.hid HB0.out.1
  clear HB0
  generalize ((w.alloc (.cells #[.slice A ls.length c, .int .i64 r] 24)).alloc (.cells #[.slice XA xs.length xc, .int .i64 xr] 24)).alloc (.cells #[.slice none 0 0, .int .i64 0] 24) = W0 at *
  obtain ⟨q0, q1, _, _⟩ := blk2 HKt.out
  go_wp2_with fail
  refine (r18at_any (c := c) (pc := pc) HVt.out hs HPp.out hpl).mono ?_
  rintro e w1 ⟨A1, c1, l1, r1, rfl, -, hb1⟩
  have HR := Lib.hid (Below.step hb1 (bx1 w1 (.cells #[.slice A1 l1.length c1, .int .i64 r1] 24)))
  clear hb1 q0 q1
  go_upto_region 2 with (fail)
  generalize w1.alloc (.cells #[.slice A1 l1.length c1, .int .i64 r1] 24) = W1 at *
  have HVt1 := Lib.hid (HVt.out.below HR.out); have HVx1 := Lib.hid (HVx.out.below HR.out); have HPp1 := Lib.hid (HPp.out.below HR.out); have HKt1 := Lib.hid (bx_kept HR.out HKt.out); have HKx1 := Lib.hid (bx_kept HR.out HKx.out); have HKr1 := Lib.hid (bx_kept HR.out HKr.out); have HB1 := Lib.hid (Below.step HB.out HR.out); have HZ1 := Lib.hid (Nat.le_trans HZ.out HR.out.size)
  clear HVt HVx HPp HKt HKx HKr HB HZ HR
  have HNO := Lib.hid (show ∀ (wd : World), wd.heap[w.heap.size + 1 + 1]? = some (.cells #[.slice none 0 0, .int .i64 0] 24 (0, 0)) → Below w.heap.size w wd → Below w.heap.size w ((wd.setCell ⟨w.heap.size + 1 + 1, 0, none⟩ (.slice none 0 0)).setCell ⟨w.heap.size + 1 + 1, 1, none⟩ (.int .i64 0)) from fun wd h1 h2 => (h2.setCell (p := ⟨w.heap.size + 1 + 1, 0, none⟩) (by show w.heap.size ≤ w.heap.size + 1 + 1; omega) _).setCell (p := ⟨w.heap.size + 1 + 1, 1, none⟩) (by show w.heap.size ≤ w.heap.size + 1 + 1; omega) _)
  obtain ⟨t0, t1, t2, t3⟩ := blk2 HKr1.out
  rcases hat : atT T p with _ | z
  · have HN := Lib.hid (show putT T p X = none from by have h := putT_isSome T p X; rw [hat] at h; simpa using h)
    have HS := Lib.hid (HNO.out W1 HKr1.out HB1.out)
    go_wp2_with fail
    refine bodyPost_ret (v := .tuple #[.agg #[.slice none 0 0, .int .i64 0], .bool false]) (by simp [results, Tryd.results12, go_sem, t0, t1]) rfl ?_
    rw [HN.out]
    exact NotPost.tup ⟨rfl, HS.out⟩
  obtain ⟨x0, x1, _, _⟩ := blk2 HKx1.out
  have HAT := Lib.hid hat
  have HIS := Lib.hid (show (putT T p X).isSome = rightT X from by rw [putT_isSome, hat]; simp)
  clear hat
  go_wp2_with fail
  refine (rright_small (c := xc) HVx1.out hx).mono ?_
  rintro e w2 ⟨rfl, hb2⟩
  have HVt2 := Lib.hid (HVt1.out.below hb2); have HVx2 := Lib.hid (HVx1.out.below hb2); have HPp2 := Lib.hid (HPp1.out.below hb2); have HKt2 := Lib.hid (bx_kept hb2 HKt1.out); have HKx2 := Lib.hid (bx_kept hb2 HKx1.out); have HKr2 := Lib.hid (bx_kept hb2 HKr1.out); have HB2 := Lib.hid (Below.step HB1.out hb2); have HZ2 := Lib.hid (Nat.le_trans HZ1.out hb2.size)
  clear HVt1 HVx1 HPp1 HKt1 HKx1 HKr1 HB1 HZ1 hb2 x0 x1 t0 t1 t2 t3
  obtain ⟨t0, t1, t2, t3⟩ := blk2 HKr2.out
  rcases hrx : rightT X with _ | _
  · have HN := Lib.hid (show putT T p X = none from by have h := HIS.out; rw [hrx] at h; simpa using h)
    have HS := Lib.hid (HNO.out w2 HKr2.out HB2.out)
    go_wp2_with fail
    refine bodyPost_ret (v := .tuple #[.agg #[.slice none 0 0, .int .i64 0], .bool false]) (by simp [results, Tryd.results12, go_sem, t0, t1]) rfl ?_
    rw [HN.out]
    exact NotPost.tup ⟨rfl, HS.out⟩
  obtain ⟨hrt, hatz⟩ := atT_some HAT.out
  have hDT : Dn (denT T) T := ⟨hrt, rfl⟩
  have hDX : Dn (denT X) X := ⟨hrx, rfl⟩
  have HPT := Lib.hid (putT_of hrt hrx hatz)
  have HSZ := Lib.hid (show szTT (denT T) + szTT (denT X) ≤ 3000 from by have h1 := hDT.len; have h2 := hDX.len; have := hs.1; have := hx.1; omega)
  have HSP := Lib.hid (show szTT (putTT (denT T) p (denT X)) ≤ 3000 from by have h1 := sz_put p (denT T) (denT X) z hatz; have h2 := HSZ.out; omega)
  have HPU := Lib.hid (r18put_dn p (denT T) (denT X) z T A c ls r PA pc XA xc xs xr _ w2 hDT HVt2.out HPp2.out hpc (by rw [HXE.out]; exact hDX) HVx2.out.1 (by have := HSZ.out; omega) hatz)
  clear hrt hatz hDT hDX hrx
  obtain ⟨q0, q1, _, _⟩ := blk2 HKt2.out
  obtain ⟨x0, x1, _, _⟩ := blk2 HKx2.out
  go_wp2_with fail
  refine HPU.out.mono ?_
  rintro e w3 ⟨A3, c3, l3, r3, rfl, hr3, hd3, hb3⟩
  have HMK := Lib.hid (r5make_dn 100000 _ _ A3 c3 l3 r3 w3 (by have := HSP.out; omega) (Nat.le_refl _) hd3 ⟨hr3.mono (fun _ _ _ => trivial), rfl⟩)
  have HB3 := Lib.hid (Below.step HB2.out hb3); have HKr3 := Lib.hid (bx_kept hb3 HKr2.out); have HZ3 := Lib.hid (Nat.le_trans HZ2.out hb3.size)
  clear hr3 hd3 hb3 q0 q1 x0 x1 t0 t1 t2 t3 HPU
  go_wp2_with fail
  refine HMK.out.mono ?_
  rintro e w4 ⟨A4, c4, l4, r4, rfl, hl4, hb4⟩
  have HL4 := Lib.hid hl4; have HB4 := Lib.hid (Below.step HB3.out hb4); have HK4 := Lib.hid (bx_kept hb4 HKr3.out)
  clear hl4 hb4 HMK
  obtain ⟨t0, t1, t2, t3⟩ := blk2 HK4.out
  go_wp2_with fail
  refine bodyPost_ret (v := .tuple #[.agg #[.slice A4 l4.length c4, .int .i64 r4], .bool true]) (by simp [results, Tryd.results12, go_sem, t0, t1]) rfl ?_
  have h := box_lateO (g := w.heap.size + 1 + 1) HK4.out (Nat.lt_succ_self _) (HL4.out.mono (by have := HZ3.out; omega)) HB4.out (by omega)
  rw [HPT.out]
  exact ⟨A4, c4, l4, r4, rfl, h.2.1.mono (by omega), h.2.2⟩
end Go.Proofs.YtfncfmiccomgcaaDoor
