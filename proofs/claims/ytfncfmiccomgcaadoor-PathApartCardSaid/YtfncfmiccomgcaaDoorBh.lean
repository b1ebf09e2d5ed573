/- The walk of the statement PathApart. -/
import Derived.Test.YtfncfmiccomgcaaDoorBg
import Derived.Deep.DeepCutAuto
import Derived.Deep.Cut
import Derived.Deep.CutRange
import Derived.Deep.RegionHeld3
namespace Go.Proofs.YtfncfmiccomgcaaDoor
open Go.RowKit
set_option linter.unusedSimpArgs false
set_option linter.unusedVariables false

theorem long_lies2 {w : World} {A XA YA PA QA : Option Addr} {ds : List Ld} {xs ys : List Ln} {p q : List Int} (hG : dfL.row w (fun _ => True) A ds) (hX : ndL.row w (fun _ => True) XA xs) (hY : ndL.row w (fun _ => True) YA ys) (hP : intL.row w (fun _ => True) PA p) (hQ : intL.row w (fun _ => True) QA q)
    (hdl : ds.length ≤ 281474976710656) (hxl : xs.length ≤ 281474976710656) (hyl : ys.length ≤ 281474976710656) (hpl : p.length ≤ 281474976710656) (hql : q.length ≤ 281474976710656) (xroot yroot : Int) (c xc yc pc qc : Nat) :
    Calls Tryd.prog 6 #[.agg #[.slice A ds.length c], .slice (some ⟨w.heap.size, 0, none⟩) 2 2, .slice (some ⟨w.heap.size + 1, 0, none⟩) 2 2] ((w.alloc (.cells #[.slice XA xs.length xc, .int .i64 xroot, .slice YA ys.length yc, .int .i64 yroot] 24)).alloc (.cells #[.slice PA p.length pc, .slice QA q.length qc] 25)) fun e w' => ∃ r, e = .returned (.bool r) ∧ (r = false → (ds.length ≤ 1500 ∧ ∀ d ∈ ds, ShortN d.t) ∧ (xs.length ≤ 1500 ∧ ys.length ≤ 1500) ∧ p.length ≤ 1500 ∧ q.length ≤ 1500) ∧ Below w.heap.size w w' := by
  have hb1 := bx1 w (.cells #[.slice XA xs.length xc, .int .i64 xroot, .slice YA ys.length yc, .int .i64 yroot] 24)
  have hb2 := bx2 w (.cells #[.slice XA xs.length xc, .int .i64 xroot, .slice YA ys.length yc, .int .i64 yroot] 24) (.cells #[.slice PA p.length pc, .slice QA q.length qc] 25)
  have hn1 := bx_new w (.cells #[.slice XA xs.length xc, .int .i64 xroot, .slice YA ys.length yc, .int .i64 yroot] 24)
  have hn2 := bx_new (w.alloc (.cells #[.slice XA xs.length xc, .int .i64 xroot, .slice YA ys.length yc, .int .i64 yroot] 24)) (.cells #[.slice PA p.length pc, .slice QA q.length qc] 25)
  rw [World.size_alloc] at hn2
  have hs : ((w.alloc (.cells #[.slice XA xs.length xc, .int .i64 xroot, .slice YA ys.length yc, .int .i64 yroot] 24)).alloc (.cells #[.slice PA p.length pc, .slice QA q.length qc] 25)).heap.size = w.heap.size + 2 := by simp
  have hn1' := bx_old (p := .cells #[.slice PA p.length pc, .slice QA q.length qc] 25) hn1
  generalize (w.alloc (.cells #[.slice XA xs.length xc, .int .i64 xroot, .slice YA ys.length yc, .int .i64 yroot] 24)).alloc (.cells #[.slice PA p.length pc, .slice QA q.length qc] 25) = W at *
  have hk : ∀ w', KeptL w.heap.size (some ⟨w.heap.size, 0, none⟩) W w' → Below w.heap.size w w' := fun w' h => hb2.trans h.1
  refine (long_any A c ds (some ⟨w.heap.size, 0, none⟩) 2 [⟨XA, xc, xs, xroot⟩, ⟨YA, yc, ys, yroot⟩] (some ⟨w.heap.size + 1, 0, none⟩) 2 [⟨PA, pc, p⟩, ⟨QA, qc, q⟩] w.heap.size W hb2.size (fun w' h => hG.below (hk w' h)) (own_of_fullN hn1' rfl (Nat.le_refl _) (by show 2 ≤ maxLen; decide)) (fun w' h t ht => ?_) (fun w' h => ⟨⟨row_blk (cs := [.slice PA p.length pc, .slice QA q.length qc]) ((h.2 _ (by omega) (by simp [blkOf])).trans hn2), fun _ _ _ => trivial⟩, fun q hq => ?_⟩) hdl (by simp) (by simp)).mono ?_
  · simp only [List.mem_cons, List.not_mem_nil, or_false] at ht
    rcases ht with rfl | rfl
    · exact ⟨hxl, hX.below (hk w' h)⟩
    · exact ⟨hyl, hY.below (hk w' h)⟩
  · simp only [List.mem_cons, List.not_mem_nil, or_false] at hq
    rcases hq with rfl | rfl
    · exact ⟨hpl, hP.below (hk w' h)⟩
    · exact ⟨hql, hQ.below (hk w' h)⟩
  · rintro e w' ⟨r, rfl, hr, hb⟩
    refine ⟨r, rfl, fun h => ?_, hb2.trans hb⟩
    obtain ⟨h0, h3, h1, h2⟩ := hr h
    exact ⟨⟨h0, h3⟩, ⟨(h1 ⟨XA, xc, xs, xroot⟩ (by simp)).1, (h1 ⟨YA, yc, ys, yroot⟩ (by simp)).1⟩, h2 ⟨PA, pc, p⟩ (by simp), h2 ⟨QA, qc, q⟩ (by simp)⟩
theorem same_lies18 {w : World} {G : List Df} {A B : Option Addr} {c d : Nat} {ds es : List Ld} (hA : GLies w G A ds) (hB : GLies w G B es) (hl : ds.length ≤ 281474976710656) :
    Calls Tryd.prog 16 #[.agg #[.slice A ds.length c], .agg #[.slice B es.length d]] w fun e w' => e = .returned (.bool true) ∧ Below w.heap.size w w' :=
  same18_any A B c d ds es _ _ w hA.1 hB.1 (hA.2.trans hB.2.symm) hl
set_option maxRecDepth 100000 in
set_option maxHeartbeats 12800000 in
theorem pathapart_walk (A : Option Addr) (c : Nat) (ds : List Ld) (r : Int) (PA : Option Addr) (pc : Nat) (p : List Int) (s : Int) (QA : Option Addr) (qc : Nat) (q : List Int) (x y : Lt) (S0 S1 S2 S3 S4 : Nat → Prop) (W : World) (hG : dfL.row W S0 A ds) (hdl : ds.length ≤ 281474976710656) (hP : intL.row W S1 PA p) (hpl : p.length ≤ 281474976710656) (hQ : intL.row W S2 QA q) (hql : q.length ≤ 281474976710656) (hX : x.inn W S3) (hY : y.inn W S4) (ht : CntTab W) :
    Calls Tryd.prog 4 #[.agg #[.slice A ds.length c], .agg #[.int .i64 r, .slice PA p.length pc], .agg #[.int .i64 s, .slice QA q.length qc], x.val, y.val] W fun e w' => e = .returned (.bool true) ∧ Below W.heap.size W w' := by
  obtain ⟨XA, xc, xs, xroot⟩ := x
  obtain ⟨YA, yc, ys, yroot⟩ := y
  simp only [Lt.val]
  have hxl : xs.length ≤ 281474976710656 := hX.1
  have hyl : ys.length ≤ 281474976710656 := hY.1
  obtain ⟨W0, hW⟩ : ∃ W0, W0 = (((((W.alloc (.cells #[.slice A ds.length c] 29)).alloc (.cells #[.int .i64 r, .slice PA p.length pc] 40)).alloc (.cells #[.int .i64 s, .slice QA q.length qc] 40)).alloc (.cells #[.slice XA xs.length xc, .int .i64 xroot] 24)).alloc (.cells #[.slice YA ys.length yc, .int .i64 yroot] 24)) := ⟨_, rfl⟩
  have HB0 := Lib.hid (show Below W.heap.size W W0 from by rw [hW]; exact Below.step (Below.step (bx3 W _ _ _) (bx1 _ _)) (bx1 _ _))
  have HKg := Lib.hid (show W0.heap[W.heap.size]? = some (.cells #[.slice A ds.length c] 29 (0, 0)) from by rw [hW]; exact bx_old (bx_old (bx_old (bx_old (bx_new W _)))))
  have HKp := Lib.hid (show W0.heap[W.heap.size + 1]? = some (.cells #[.int .i64 r, .slice PA p.length pc] 40 (0, 0)) from by
    rw [hW]
    have h := bx_new (W.alloc (.cells #[.slice A ds.length c] 29)) (.cells #[.int .i64 r, .slice PA p.length pc] 40)
    simp only [World.size_alloc] at h
    exact bx_old (bx_old (bx_old h)))
  have HKq := Lib.hid (show W0.heap[W.heap.size + 1 + 1]? = some (.cells #[.int .i64 s, .slice QA q.length qc] 40 (0, 0)) from by
    rw [hW]
    have h := bx_new ((W.alloc (.cells #[.slice A ds.length c] 29)).alloc (.cells #[.int .i64 r, .slice PA p.length pc] 40)) (.cells #[.int .i64 s, .slice QA q.length qc] 40)
    simp only [World.size_alloc] at h
    exact bx_old (bx_old h))
  have HKx := Lib.hid (show W0.heap[W.heap.size + 1 + 1 + 1]? = some (.cells #[.slice XA xs.length xc, .int .i64 xroot] 24 (0, 0)) from by
    rw [hW]
    have h := bx_new (((W.alloc (.cells #[.slice A ds.length c] 29)).alloc (.cells #[.int .i64 r, .slice PA p.length pc] 40)).alloc (.cells #[.int .i64 s, .slice QA q.length qc] 40)) (.cells #[.slice XA xs.length xc, .int .i64 xroot] 24)
    simp only [World.size_alloc] at h
    exact bx_old h)
  have HKy := Lib.hid (show W0.heap[W.heap.size + 1 + 1 + 1 + 1]? = some (.cells #[.slice YA ys.length yc, .int .i64 yroot] 24 (0, 0)) from by
    rw [hW]
    have h := bx_new ((((W.alloc (.cells #[.slice A ds.length c] 29)).alloc (.cells #[.int .i64 r, .slice PA p.length pc] 40)).alloc (.cells #[.int .i64 s, .slice QA q.length qc] 40)).alloc (.cells #[.slice XA xs.length xc, .int .i64 xroot] 24)) (.cells #[.slice YA ys.length yc, .int .i64 yroot] 24)
    simp only [World.size_alloc] at h
    exact h)
  have HVg := Lib.hid (show dfL.row W0 (fun _ => True) A ds from (hG.below HB0.out).mono (fun _ _ _ => trivial))
  have HVx := Lib.hid (show ndL.row W0 (fun _ => True) XA xs from (hX.2.below HB0.out).mono (fun _ _ _ => trivial))
  have HVy := Lib.hid (show ndL.row W0 (fun _ => True) YA ys from (hY.2.below HB0.out).mono (fun _ _ _ => trivial))
  have HPp := Lib.hid (show intL.row W0 (fun _ => True) PA p from (hP.below HB0.out).mono (fun _ _ _ => trivial))
  have HPq := Lib.hid (show intL.row W0 (fun _ => True) QA q from (hQ.below HB0.out).mono (fun _ _ _ => trivial))
  have HCc := Lib.hid (ht.below HB0.out)
  clear hG hX hY hP hQ ht
  go_enter Tryd.func4, Tryd.ntmps4
  go_upto_region 1 with (fail)
  rw [← hW]
  clear hW
  have HB := Lib.hid HB0.out
  clear HB0
  obtain ⟨HKg0, HKg1⟩ := blk1 HKg.out
  obtain ⟨HKp0, HKp1, HKp2, HKp3⟩ := blk2 HKp.out
  obtain ⟨HKq0, HKq1, HKq2, HKq3⟩ := blk2 HKq.out
  obtain ⟨HKx0, HKx1, HKx2, HKx3⟩ := blk2 HKx.out
  obtain ⟨HKy0, HKy1, HKy2, HKy3⟩ := blk2 HKy.out
  go_wp2_with fail
  refine (works18_any W0 HCc.out).mono ?_
  rintro e w1 ⟨rfl, hb1⟩
  have HR := Lib.hid hb1
  clear hb1
  clear HKg0 HKg1 HKp0 HKp1 HKp2 HKp3 HKq0 HKq1 HKq2 HKq3 HKx0 HKx1 HKx2 HKx3 HKy0 HKy1 HKy2 HKy3
  have HVg' := Lib.hid (HVg.out.below HR.out); clear HVg; have HVg := HVg'; clear HVg'
  have HVx' := Lib.hid (HVx.out.below HR.out); clear HVx; have HVx := HVx'; clear HVx'
  have HVy' := Lib.hid (HVy.out.below HR.out); clear HVy; have HVy := HVy'; clear HVy'
  have HPp' := Lib.hid (HPp.out.below HR.out); clear HPp; have HPp := HPp'; clear HPp'
  have HPq' := Lib.hid (HPq.out.below HR.out); clear HPq; have HPq := HPq'; clear HPq'
  have HCc' := Lib.hid (HCc.out.below HR.out); clear HCc; have HCc := HCc'; clear HCc'
  have HKg' := Lib.hid (bx_kept HR.out HKg.out); clear HKg; have HKg := HKg'; clear HKg'
  have HKp' := Lib.hid (bx_kept HR.out HKp.out); clear HKp; have HKp := HKp'; clear HKp'
  have HKq' := Lib.hid (bx_kept HR.out HKq.out); clear HKq; have HKq := HKq'; clear HKq'
  have HKx' := Lib.hid (bx_kept HR.out HKx.out); clear HKx; have HKx := HKx'; clear HKx'
  have HKy' := Lib.hid (bx_kept HR.out HKy.out); clear HKy; have HKy := HKy'; clear HKy'
  have HB' := Lib.hid (Below.step HB.out HR.out); clear HB; have HB := HB'; clear HB'
  clear HR
  obtain ⟨HKg0, HKg1⟩ := blk1 HKg.out
  obtain ⟨HKp0, HKp1, HKp2, HKp3⟩ := blk2 HKp.out
  obtain ⟨HKq0, HKq1, HKq2, HKq3⟩ := blk2 HKq.out
  obtain ⟨HKx0, HKx1, HKx2, HKx3⟩ := blk2 HKx.out
  obtain ⟨HKy0, HKy1, HKy2, HKy3⟩ := blk2 HKy.out
  have HL := Lib.hid (long_lies2 (w := w1) HVg.out HVx.out HVy.out HPp.out HPq.out hdl hxl hyl hpl hql xroot yroot c xc yc pc qc)
  have z1 := cellLt HKp1
  have z2 := cellLt HKq1
  go_wp2_with fail
  refine HL.out.mono ?_
  rintro e w2 ⟨rr, rfl, hr, hb2⟩
  have HR := Lib.hid hb2
  clear hb2 HL
  clear HKg0 HKg1 HKp0 HKp1 HKp2 HKp3 HKq0 HKq1 HKq2 HKq3 HKx0 HKx1 HKx2 HKx3 HKy0 HKy1 HKy2 HKy3
  have HVg' := Lib.hid (HVg.out.below HR.out); clear HVg; have HVg := HVg'; clear HVg'
  have HVx' := Lib.hid (HVx.out.below HR.out); clear HVx; have HVx := HVx'; clear HVx'
  have HVy' := Lib.hid (HVy.out.below HR.out); clear HVy; have HVy := HVy'; clear HVy'
  have HPp' := Lib.hid (HPp.out.below HR.out); clear HPp; have HPp := HPp'; clear HPp'
  have HPq' := Lib.hid (HPq.out.below HR.out); clear HPq; have HPq := HPq'; clear HPq'
  have HCc' := Lib.hid (HCc.out.below HR.out); clear HCc; have HCc := HCc'; clear HCc'
  have HKg' := Lib.hid (bx_kept HR.out HKg.out); clear HKg; have HKg := HKg'; clear HKg'
  have HKp' := Lib.hid (bx_kept HR.out HKp.out); clear HKp; have HKp := HKp'; clear HKp'
  have HKq' := Lib.hid (bx_kept HR.out HKq.out); clear HKq; have HKq := HKq'; clear HKq'
  have HKx' := Lib.hid (bx_kept HR.out HKx.out); clear HKx; have HKx := HKx'; clear HKx'
  have HKy' := Lib.hid (bx_kept HR.out HKy.out); clear HKy; have HKy := HKy'; clear HKy'
  have HB' := Lib.hid (Below.step HB.out HR.out); clear HB; have HB := HB'; clear HB'
  clear HR
  obtain ⟨HKg0, HKg1⟩ := blk1 HKg.out
  obtain ⟨HKp0, HKp1, HKp2, HKp3⟩ := blk2 HKp.out
  obtain ⟨HKq0, HKq1, HKq2, HKq3⟩ := blk2 HKq.out
  obtain ⟨HKx0, HKx1, HKx2, HKx3⟩ := blk2 HKx.out
  obtain ⟨HKy0, HKy1, HKy2, HKy3⟩ := blk2 HKy.out
  rcases rr with _ | _
  case true =>
    clear hr
    go_wp2_with fail
    refine (works18_any w2 HCc.out).mono ?_
    rintro e w3 ⟨rfl, hb3⟩
    have HB3 := Lib.hid (Below.step HB.out hb3)
    clear hb3
    go_wp2_with fail
    go_ret
    exact ⟨rfl, HB3.out⟩
  by_cases hrs : r = s
  · subst hrs
    clear hr
    go_wp2_with fail
    refine (works18_any w2 HCc.out).mono ?_
    rintro e w3 ⟨rfl, hb3⟩
    have HB3 := Lib.hid (Below.step HB.out hb3)
    clear hb3
    go_wp2_with fail
    go_ret
    exact ⟨rfl, HB3.out⟩
  have ers : decide (r = s) = false := by simpa using hrs
  have ers2 : (r == s) = false := by simpa using hrs
  obtain ⟨⟨h0, h1⟩, ⟨h2, h3⟩, h4, h5⟩ := hr rfl
  have HSD := Lib.hid h1
  clear hr h1
  obtain ⟨G, hG⟩ : ∃ G : List Df, G = ds.map Ld.df := ⟨_, rfl⟩
  obtain ⟨X, hX⟩ : ∃ T : Tr, T = ⟨xs.map Ln.nd, xroot⟩ := ⟨_, rfl⟩
  obtain ⟨Y, hY⟩ : ∃ T : Tr, T = ⟨ys.map Ln.nd, yroot⟩ := ⟨_, rfl⟩
  have HSG := Lib.hid (show (∀ f ∈ G, SmallDf 1500 f) ∧ X.nodes.length ≤ 1500 ∧ Y.nodes.length ≤ 1500 from by
    rw [hG, hX, hY]
    refine ⟨fun f hf => ?_, by simpa using h2, by simpa using h3⟩
    obtain ⟨d, hd, rfl⟩ := List.mem_map.1 hf
    have h := HSD.out d hd
    refine ⟨by have := h.1; simpa [Ld.df, Lt.tr] using this, fun nd hnd => ?_⟩
    obtain ⟨l, hl, rfl⟩ := List.mem_map.1 hnd
    exact h.2 l hl)
  have HGg := Lib.hid (show GLies w2 G A ds from ⟨HVg.out, hG.symm⟩)
  have HLx := Lib.hid (show Lies w2 X XA xc xs xroot from ⟨HVx.out, hX.symm⟩)
  have HLy := Lib.hid (show Lies w2 Y YA yc ys yroot from ⟨HVy.out, hY.symm⟩)
  clear HVg HVx HVy HSD hG hX hY
  go_wp2_with fail
  refine (pwith_lies (c := c) (pc := pc) (xc := xc) HGg.out HPp.out HLx.out HSG.out.1 (by omega) (by omega) (by omega) (by omega) HCc.out).mono ?_
  rintro e wq ⟨Va, va, ea, rfl, hlq, hbq⟩
  have HR := Lib.hid (Below.step hbq (bx1 wq (.cells #[.slice Va ea.length va] 29)))
  have hkq := bx_new wq (.cells #[.slice Va ea.length va] 29)
  have HMa := Lib.hid (show ∀ G', pWith G r p X = some G' → GLies (wq.alloc (.cells #[.slice Va ea.length va] 29)) G' Va ea from fun G' h => (hlq G' h).below (bx1 wq _))
  clear HKg0 HKg1 HKp0 HKp1 HKp2 HKp3 HKq0 HKq1 HKq2 HKq3 HKx0 HKx1 HKx2 HKx3 HKy0 HKy1 HKy2 HKy3
  go_upto_region 4 with (fail)
  generalize wq.alloc (.cells #[.slice Va ea.length va] 29) = Wa at *
  generalize wq.heap.size = gga at *
  have HKa := Lib.hid hkq; clear hkq hbq hlq
  have HGg' := Lib.hid (HGg.out.below HR.out); clear HGg; have HGg := HGg'; clear HGg'
  have HLx' := Lib.hid (HLx.out.below HR.out); clear HLx; have HLx := HLx'; clear HLx'
  have HLy' := Lib.hid (HLy.out.below HR.out); clear HLy; have HLy := HLy'; clear HLy'
  have HPp' := Lib.hid (HPp.out.below HR.out); clear HPp; have HPp := HPp'; clear HPp'
  have HPq' := Lib.hid (HPq.out.below HR.out); clear HPq; have HPq := HPq'; clear HPq'
  have HCc' := Lib.hid (HCc.out.below HR.out); clear HCc; have HCc := HCc'; clear HCc'
  have HKg' := Lib.hid (bx_kept HR.out HKg.out); clear HKg; have HKg := HKg'; clear HKg'
  have HKp' := Lib.hid (bx_kept HR.out HKp.out); clear HKp; have HKp := HKp'; clear HKp'
  have HKq' := Lib.hid (bx_kept HR.out HKq.out); clear HKq; have HKq := HKq'; clear HKq'
  have HKx' := Lib.hid (bx_kept HR.out HKx.out); clear HKx; have HKx := HKx'; clear HKx'
  have HKy' := Lib.hid (bx_kept HR.out HKy.out); clear HKy; have HKy := HKy'; clear HKy'
  have HB' := Lib.hid (Below.step HB.out HR.out); clear HB; have HB := HB'; clear HB'
  clear HR
  clear z1 z2
  rcases ha : pWith G r p X with _ | a
  case none =>
    rw [ha] at HMa
    clear HMa
    obtain ⟨HKg0, HKg1⟩ := blk1 HKg.out
    obtain ⟨HKp0, HKp1, HKp2, HKp3⟩ := blk2 HKp.out
    obtain ⟨HKq0, HKq1, HKq2, HKq3⟩ := blk2 HKq.out
    obtain ⟨HKx0, HKx1, HKx2, HKx3⟩ := blk2 HKx.out
    obtain ⟨HKy0, HKy1, HKy2, HKy3⟩ := blk2 HKy.out
    obtain ⟨HKa0, HKa1⟩ := blk1 HKa.out
    go_wp2_with fail
    refine (pwith_lies (c := c) (pc := qc) (xc := yc) HGg.out HPq.out HLy.out HSG.out.1 (by omega) (by omega) (by omega) (by omega) HCc.out).mono ?_
    rintro e wq ⟨Vb, vb, eb, rfl, hlq, hbq⟩
    have HR := Lib.hid (Below.step hbq (bx1 wq (.cells #[.slice Vb eb.length vb] 29)))
    have hkq := bx_new wq (.cells #[.slice Vb eb.length vb] 29)
    have HMb := Lib.hid (show ∀ G', pWith G s q Y = some G' → GLies (wq.alloc (.cells #[.slice Vb eb.length vb] 29)) G' Vb eb from fun G' h => (hlq G' h).below (bx1 wq _))
    clear HKg0 HKg1 HKp0 HKp1 HKp2 HKp3 HKq0 HKq1 HKq2 HKq3 HKx0 HKx1 HKx2 HKx3 HKy0 HKy1 HKy2 HKy3 HKa0 HKa1
    go_upto_region 5 with (fail)
    generalize wq.alloc (.cells #[.slice Vb eb.length vb] 29) = Wb at *
    generalize wq.heap.size = ggb at *
    have HKb := Lib.hid hkq; clear hkq hbq hlq
    have HGg' := Lib.hid (HGg.out.below HR.out); clear HGg; have HGg := HGg'; clear HGg'
    have HLx' := Lib.hid (HLx.out.below HR.out); clear HLx; have HLx := HLx'; clear HLx'
    have HLy' := Lib.hid (HLy.out.below HR.out); clear HLy; have HLy := HLy'; clear HLy'
    have HPp' := Lib.hid (HPp.out.below HR.out); clear HPp; have HPp := HPp'; clear HPp'
    have HPq' := Lib.hid (HPq.out.below HR.out); clear HPq; have HPq := HPq'; clear HPq'
    have HCc' := Lib.hid (HCc.out.below HR.out); clear HCc; have HCc := HCc'; clear HCc'
    have HKg' := Lib.hid (bx_kept HR.out HKg.out); clear HKg; have HKg := HKg'; clear HKg'
    have HKp' := Lib.hid (bx_kept HR.out HKp.out); clear HKp; have HKp := HKp'; clear HKp'
    have HKq' := Lib.hid (bx_kept HR.out HKq.out); clear HKq; have HKq := HKq'; clear HKq'
    have HKx' := Lib.hid (bx_kept HR.out HKx.out); clear HKx; have HKx := HKx'; clear HKx'
    have HKy' := Lib.hid (bx_kept HR.out HKy.out); clear HKy; have HKy := HKy'; clear HKy'
    have HKa' := Lib.hid (bx_kept HR.out HKa.out); clear HKa; have HKa := HKa'; clear HKa'
    have HB' := Lib.hid (Below.step HB.out HR.out); clear HB; have HB := HB'; clear HB'
    clear HR
    go_wp2_with fail
    go_ret
    exact ⟨rfl, HB.out⟩
  rw [ha] at HMa
  have HGa := Lib.hid (HMa.out a rfl)
  have HA := Lib.hid ha
  clear HMa ha
  obtain ⟨HKg0, HKg1⟩ := blk1 HKg.out
  obtain ⟨HKp0, HKp1, HKp2, HKp3⟩ := blk2 HKp.out
  obtain ⟨HKq0, HKq1, HKq2, HKq3⟩ := blk2 HKq.out
  obtain ⟨HKx0, HKx1, HKx2, HKx3⟩ := blk2 HKx.out
  obtain ⟨HKy0, HKy1, HKy2, HKy3⟩ := blk2 HKy.out
  obtain ⟨HKa0, HKa1⟩ := blk1 HKa.out
  go_wp2_with fail
  refine (pwith_lies (c := c) (pc := qc) (xc := yc) HGg.out HPq.out HLy.out HSG.out.1 (by omega) (by omega) (by omega) (by omega) HCc.out).mono ?_
  rintro e wq ⟨Vb, vb, eb, rfl, hlq, hbq⟩
  have HR := Lib.hid (Below.step hbq (bx1 wq (.cells #[.slice Vb eb.length vb] 29)))
  have hkq := bx_new wq (.cells #[.slice Vb eb.length vb] 29)
  have HMb := Lib.hid (show ∀ G', pWith G s q Y = some G' → GLies (wq.alloc (.cells #[.slice Vb eb.length vb] 29)) G' Vb eb from fun G' h => (hlq G' h).below (bx1 wq _))
  clear HKg0 HKg1 HKp0 HKp1 HKp2 HKp3 HKq0 HKq1 HKq2 HKq3 HKx0 HKx1 HKx2 HKx3 HKy0 HKy1 HKy2 HKy3 HKa0 HKa1
  go_upto_region 5 with (fail)
  generalize wq.alloc (.cells #[.slice Vb eb.length vb] 29) = Wb at *
  generalize wq.heap.size = ggb at *
  have HKb := Lib.hid hkq; clear hkq hbq hlq
  have HGg' := Lib.hid (HGg.out.below HR.out); clear HGg; have HGg := HGg'; clear HGg'
  have HLx' := Lib.hid (HLx.out.below HR.out); clear HLx; have HLx := HLx'; clear HLx'
  have HLy' := Lib.hid (HLy.out.below HR.out); clear HLy; have HLy := HLy'; clear HLy'
  have HPp' := Lib.hid (HPp.out.below HR.out); clear HPp; have HPp := HPp'; clear HPp'
  have HPq' := Lib.hid (HPq.out.below HR.out); clear HPq; have HPq := HPq'; clear HPq'
  have HCc' := Lib.hid (HCc.out.below HR.out); clear HCc; have HCc := HCc'; clear HCc'
  have HGa' := Lib.hid (HGa.out.below HR.out); clear HGa; have HGa := HGa'; clear HGa'
  have HKg' := Lib.hid (bx_kept HR.out HKg.out); clear HKg; have HKg := HKg'; clear HKg'
  have HKp' := Lib.hid (bx_kept HR.out HKp.out); clear HKp; have HKp := HKp'; clear HKp'
  have HKq' := Lib.hid (bx_kept HR.out HKq.out); clear HKq; have HKq := HKq'; clear HKq'
  have HKx' := Lib.hid (bx_kept HR.out HKx.out); clear HKx; have HKx := HKx'; clear HKx'
  have HKy' := Lib.hid (bx_kept HR.out HKy.out); clear HKy; have HKy := HKy'; clear HKy'
  have HKa' := Lib.hid (bx_kept HR.out HKa.out); clear HKa; have HKa := HKa'; clear HKa'
  have HB' := Lib.hid (Below.step HB.out HR.out); clear HB; have HB := HB'; clear HB'
  clear HR
  rcases hb : pWith G s q Y with _ | b
  case none =>
    go_wp2_with fail
    go_ret
    exact ⟨rfl, HB.out⟩
  rw [hb] at HMb
  have HGb := Lib.hid (HMb.out b rfl)
  have HBB := Lib.hid hb
  clear HMb hb
  obtain ⟨G2, hc, hd⟩ := pWith_apart hrs HA.out HBB.out
  have HC := Lib.hid hc; have HD := Lib.hid hd; clear hc hd
  have HSA := Lib.hid (pWith_small HA.out HSG.out.1 HSG.out.2.1)
  have HSB := Lib.hid (pWith_small HBB.out HSG.out.1 HSG.out.2.2)
  have HLA := Lib.hid (show ea.length = ds.length ∧ eb.length = ds.length from by
    obtain ⟨_, _, _, _, h7⟩ := pWith_get HA.out
    obtain ⟨_, _, _, _, h8⟩ := pWith_get HBB.out
    have h9 := congrArg List.length HGa.out.2; have h10 := congrArg List.length HGb.out.2; have h11 := congrArg List.length HGg.out.2
    rw [h7] at h9; rw [h8] at h10; simp only [List.length_map, List.length_set] at h9 h10 h11; omega)
  go_upto_region 7 with (fail)
  obtain ⟨HKg0, HKg1⟩ := blk1 HKg.out
  obtain ⟨HKp0, HKp1, HKp2, HKp3⟩ := blk2 HKp.out
  obtain ⟨HKq0, HKq1, HKq2, HKq3⟩ := blk2 HKq.out
  obtain ⟨HKx0, HKx1, HKx2, HKx3⟩ := blk2 HKx.out
  obtain ⟨HKy0, HKy1, HKy2, HKy3⟩ := blk2 HKy.out
  obtain ⟨HKa0, HKa1⟩ := blk1 HKa.out
  obtain ⟨HKb0, HKb1⟩ := blk1 HKb.out
  go_wp2_with fail
  refine (pwith_lies (c := va) (pc := qc) (xc := yc) HGa.out HPq.out HLy.out HSA.out (by omega) (by have := HLA.out.1; omega) (by omega) (by omega) HCc.out).mono ?_
  rintro e wq ⟨Vc, vc, ec, rfl, hlq, hbq⟩
  have HR := Lib.hid (Below.step hbq (bx1 wq (.cells #[.slice Vc ec.length vc] 29)))
  have hkq := bx_new wq (.cells #[.slice Vc ec.length vc] 29)
  have HMc := Lib.hid (show ∀ G', pWith a s q Y = some G' → GLies (wq.alloc (.cells #[.slice Vc ec.length vc] 29)) G' Vc ec from fun G' h => (hlq G' h).below (bx1 wq _))
  clear HKg0 HKg1 HKp0 HKp1 HKp2 HKp3 HKq0 HKq1 HKq2 HKq3 HKx0 HKx1 HKx2 HKx3 HKy0 HKy1 HKy2 HKy3 HKa0 HKa1 HKb0 HKb1
  go_upto_region 8 with (fail)
  generalize wq.alloc (.cells #[.slice Vc ec.length vc] 29) = Wc at *
  generalize wq.heap.size = ggc at *
  have HKc := Lib.hid hkq; clear hkq hbq hlq
  have HGg' := Lib.hid (HGg.out.below HR.out); clear HGg; have HGg := HGg'; clear HGg'
  have HLx' := Lib.hid (HLx.out.below HR.out); clear HLx; have HLx := HLx'; clear HLx'
  have HLy' := Lib.hid (HLy.out.below HR.out); clear HLy; have HLy := HLy'; clear HLy'
  have HPp' := Lib.hid (HPp.out.below HR.out); clear HPp; have HPp := HPp'; clear HPp'
  have HPq' := Lib.hid (HPq.out.below HR.out); clear HPq; have HPq := HPq'; clear HPq'
  have HCc' := Lib.hid (HCc.out.below HR.out); clear HCc; have HCc := HCc'; clear HCc'
  have HGa' := Lib.hid (HGa.out.below HR.out); clear HGa; have HGa := HGa'; clear HGa'
  have HGb' := Lib.hid (HGb.out.below HR.out); clear HGb; have HGb := HGb'; clear HGb'
  have HKg' := Lib.hid (bx_kept HR.out HKg.out); clear HKg; have HKg := HKg'; clear HKg'
  have HKp' := Lib.hid (bx_kept HR.out HKp.out); clear HKp; have HKp := HKp'; clear HKp'
  have HKq' := Lib.hid (bx_kept HR.out HKq.out); clear HKq; have HKq := HKq'; clear HKq'
  have HKx' := Lib.hid (bx_kept HR.out HKx.out); clear HKx; have HKx := HKx'; clear HKx'
  have HKy' := Lib.hid (bx_kept HR.out HKy.out); clear HKy; have HKy := HKy'; clear HKy'
  have HKa' := Lib.hid (bx_kept HR.out HKa.out); clear HKa; have HKa := HKa'; clear HKa'
  have HKb' := Lib.hid (bx_kept HR.out HKb.out); clear HKb; have HKb := HKb'; clear HKb'
  have HB' := Lib.hid (Below.step HB.out HR.out); clear HB; have HB := HB'; clear HB'
  clear HR
  have HGc := Lib.hid (HMc.out G2 HC.out)
  have HZC := Lib.hid (show ec.length ≤ 281474976710656 from by
    obtain ⟨_, _, _, _, h7⟩ := pWith_get HC.out
    have h9 := congrArg List.length HGc.out.2; have h10 := congrArg List.length HGa.out.2; have h11 := HLA.out.1
    rw [h7] at h9; simp only [List.length_map, List.length_set] at h9 h10; omega)
  rw [HC.out]
  clear HMc
  obtain ⟨HKg0, HKg1⟩ := blk1 HKg.out
  obtain ⟨HKp0, HKp1, HKp2, HKp3⟩ := blk2 HKp.out
  obtain ⟨HKq0, HKq1, HKq2, HKq3⟩ := blk2 HKq.out
  obtain ⟨HKx0, HKx1, HKx2, HKx3⟩ := blk2 HKx.out
  obtain ⟨HKy0, HKy1, HKy2, HKy3⟩ := blk2 HKy.out
  obtain ⟨HKa0, HKa1⟩ := blk1 HKa.out
  obtain ⟨HKb0, HKb1⟩ := blk1 HKb.out
  obtain ⟨HKc0, HKc1⟩ := blk1 HKc.out
  go_wp2_with fail
  refine (pwith_lies (c := vb) (pc := pc) (xc := xc) HGb.out HPp.out HLx.out HSB.out (by omega) (by have := HLA.out.2; omega) (by omega) (by omega) HCc.out).mono ?_
  rintro e wq ⟨Vd, vd, ed, rfl, hlq, hbq⟩
  have HR := Lib.hid (Below.step hbq (bx1 wq (.cells #[.slice Vd ed.length vd] 29)))
  have hkq := bx_new wq (.cells #[.slice Vd ed.length vd] 29)
  have HMd := Lib.hid (show ∀ G', pWith b r p X = some G' → GLies (wq.alloc (.cells #[.slice Vd ed.length vd] 29)) G' Vd ed from fun G' h => (hlq G' h).below (bx1 wq _))
  clear HKg0 HKg1 HKp0 HKp1 HKp2 HKp3 HKq0 HKq1 HKq2 HKq3 HKx0 HKx1 HKx2 HKx3 HKy0 HKy1 HKy2 HKy3 HKa0 HKa1 HKb0 HKb1 HKc0 HKc1
  go_upto_region 9 with (fail)
  generalize wq.alloc (.cells #[.slice Vd ed.length vd] 29) = Wd at *
  generalize wq.heap.size = ggd at *
  have HKd := Lib.hid hkq; clear hkq hbq hlq
  have HGg' := Lib.hid (HGg.out.below HR.out); clear HGg; have HGg := HGg'; clear HGg'
  have HLx' := Lib.hid (HLx.out.below HR.out); clear HLx; have HLx := HLx'; clear HLx'
  have HLy' := Lib.hid (HLy.out.below HR.out); clear HLy; have HLy := HLy'; clear HLy'
  have HPp' := Lib.hid (HPp.out.below HR.out); clear HPp; have HPp := HPp'; clear HPp'
  have HPq' := Lib.hid (HPq.out.below HR.out); clear HPq; have HPq := HPq'; clear HPq'
  have HCc' := Lib.hid (HCc.out.below HR.out); clear HCc; have HCc := HCc'; clear HCc'
  have HGa' := Lib.hid (HGa.out.below HR.out); clear HGa; have HGa := HGa'; clear HGa'
  have HGb' := Lib.hid (HGb.out.below HR.out); clear HGb; have HGb := HGb'; clear HGb'
  have HGc' := Lib.hid (HGc.out.below HR.out); clear HGc; have HGc := HGc'; clear HGc'
  have HKg' := Lib.hid (bx_kept HR.out HKg.out); clear HKg; have HKg := HKg'; clear HKg'
  have HKp' := Lib.hid (bx_kept HR.out HKp.out); clear HKp; have HKp := HKp'; clear HKp'
  have HKq' := Lib.hid (bx_kept HR.out HKq.out); clear HKq; have HKq := HKq'; clear HKq'
  have HKx' := Lib.hid (bx_kept HR.out HKx.out); clear HKx; have HKx := HKx'; clear HKx'
  have HKy' := Lib.hid (bx_kept HR.out HKy.out); clear HKy; have HKy := HKy'; clear HKy'
  have HKa' := Lib.hid (bx_kept HR.out HKa.out); clear HKa; have HKa := HKa'; clear HKa'
  have HKb' := Lib.hid (bx_kept HR.out HKb.out); clear HKb; have HKb := HKb'; clear HKb'
  have HKc' := Lib.hid (bx_kept HR.out HKc.out); clear HKc; have HKc := HKc'; clear HKc'
  have HB' := Lib.hid (Below.step HB.out HR.out); clear HB; have HB := HB'; clear HB'
  clear HR
  have HGd := Lib.hid (HMd.out G2 HD.out)
  rw [HD.out]
  clear HMd
  obtain ⟨HKg0, HKg1⟩ := blk1 HKg.out
  obtain ⟨HKp0, HKp1, HKp2, HKp3⟩ := blk2 HKp.out
  obtain ⟨HKq0, HKq1, HKq2, HKq3⟩ := blk2 HKq.out
  obtain ⟨HKx0, HKx1, HKx2, HKx3⟩ := blk2 HKx.out
  obtain ⟨HKy0, HKy1, HKy2, HKy3⟩ := blk2 HKy.out
  obtain ⟨HKa0, HKa1⟩ := blk1 HKa.out
  obtain ⟨HKb0, HKb1⟩ := blk1 HKb.out
  obtain ⟨HKc0, HKc1⟩ := blk1 HKc.out
  obtain ⟨HKd0, HKd1⟩ := blk1 HKd.out
  go_wp2_with fail
  refine (same_lies18 (c := vc) (d := vd) HGc.out HGd.out HZC.out).mono ?_
  rintro e wl ⟨rfl, hbl⟩
  have HB' := Lib.hid (Below.step HB.out hbl)
  clear hbl
  go_wp2_with fail
  go_ret
  exact ⟨rfl, HB'.out⟩
end Go.Proofs.YtfncfmiccomgcaaDoor
