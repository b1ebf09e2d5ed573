/- The contracts of path.last and path.up. -/
import Derived.Test.YtfncfmiccomgcaaDoorAo
import Derived.Test.YtfncfmiccomgcaaDoorAp
namespace Go.Proofs.YtfncfmiccomgcaaDoor
open Go.RowKit
set_option linter.unusedSimpArgs false
set_option linter.unusedVariables false

theorem set_two {W : World} {b : Nat} {u v x y : Value} {T : TypeId} (h : W.heap[b]? = some (.cells #[u, v] T (0, 0))) : ((W.setCell ⟨b, 0, none⟩ x).setCell ⟨b, 1, none⟩ y).heap[b]? = some (.cells #[x, y] T (0, 0)) := by
  have h1 := heap_setCell_same W b 0 _ T x h
  have h2 := heap_setCell_same _ b 1 _ T y h1
  simpa using h2
set_option maxRecDepth 100000 in
set_option maxHeartbeats 3200000 in
theorem last_any (g n c : Nat) (x y : Int) (w : World) (hn : n ≤ 4294967296) (hc : n + 1 ≤ c) (h0 : w.cell? ⟨g, n * 2, none⟩ = some (.int .i64 x)) (h1 : w.cell? ⟨g, n * 2 + 1, none⟩ = some (.int .i64 y)) :
    Calls Tryd.prog 44 #[.slice (some ⟨g, 0, none⟩) (n + 1) c] w fun e w' => e = .returned (.tuple #[.agg #[.int .i64 x, .int .i64 y], .slice (some ⟨g, 0, none⟩) n n]) ∧ Below w.heap.size w w' := by
  go_enter Tryd.func44, Tryd.ntmps44
  go_upto_region 1 with (fail)
  have HB := Lib.hid (bx1 w (.cells #[.int .i64 0, .int .i64 0] 84))
  have HX := Lib.hid (bx_new w (.cells #[.int .i64 0, .int .i64 0] 84))
  have c0 := (HB.out.cell (p := ⟨g, n * 2, none⟩) (cellLt h0)).trans h0
  have c1 := (HB.out.cell (p := ⟨g, n * 2 + 1, none⟩) (cellLt h1)).trans h1
  generalize w.alloc (.cells #[.int .i64 0, .int .i64 0] 84) = W at *
  clear h0 h1
  obtain ⟨k0, k1, k2, k3⟩ := blk2 HX.out
  have e1 : IntKind.i64.wrap (((n + 1 : Nat) : Int) - 1) = (n : Int) := by rw [IntWalk.i64_in _ (by omega)]; omega
  have e2 : IntKind.i64.wrap ((n : Int) + 1 - 1) = (n : Int) := by rw [IntWalk.i64_in _ (by omega)]; omega
  have i1 : (n : Int) < ((n + 1 : Nat) : Int) := by omega
  have i2 : (0 : Int) ≤ (n : Int) := by omega
  have i3 : (n : Int) ≤ (c : Int) := by omega
  have i4 : (n : Int) < (n : Int) + 1 := by omega
  go_upto_region 2 with (fail)
  go_region
  all_goals
    have HX2 := Lib.hid (show ((W.setCell ⟨w.heap.size, 0, none⟩ (.int .i64 x)).setCell ⟨w.heap.size, 1, none⟩ (.int .i64 y)).drew.heap[w.heap.size]? = _ from set_two (x := .int .i64 x) (y := .int .i64 y) HX.out)
    have HB2 := Lib.hid (show Below w.heap.size w ((W.setCell ⟨w.heap.size, 0, none⟩ (.int .i64 x)).setCell ⟨w.heap.size, 1, none⟩ (.int .i64 y)).drew from ((HB.out.setCell (p := ⟨w.heap.size, 0, none⟩) (Nat.le_refl _) _).setCell (p := ⟨w.heap.size, 1, none⟩) (Nat.le_refl _) _).drew)
    generalize ((W.setCell ⟨w.heap.size, 0, none⟩ (.int .i64 x)).setCell ⟨w.heap.size, 1, none⟩ (.int .i64 y)).drew = W2 at *
    clear k0 k1 k2 k3 c0 c1
    obtain ⟨k0, k1, k2, k3⟩ := blk2 HX2.out
    go_wp2_with fail
    refine bodyPost_ret (v := .tuple #[.agg #[.int .i64 x, .int .i64 y], .slice (some ⟨g, 0, none⟩) n n]) (by simp [results, Tryd.results44, go_sem, k0, k1]) rfl ?_
    exact ⟨rfl, HB2.out⟩
/-- The row of the nodes above lies there. -/
def AbRow (w : World) (VA : Option Addr) (a : List (Nat × Nat)) : Prop := ∀ j (h : j < a.length), ∃ g, VA = some ⟨g, 0, none⟩ ∧ w.cell? ⟨g, j * 2, none⟩ = some (.int .i64 (a[j].1 : Int)) ∧ w.cell? ⟨g, j * 2 + 1, none⟩ = some (.int .i64 (a[j].2 : Int))
def UpPost (b : Nat) (t : TT) (B : Nat) (w : World) (e : Ending) (w' : World) : Prop :=
  ∃ (ls : List Ln) (V' : Option Addr) (c : Nat) (r : Nat), e = .returned (.tuple #[.slice V' ls.length c, .int .i64 (r : Int)]) ∧ Grove (ls.map Ln.nd) (fun p => p = r) ∧ Rep (ls.map Ln.nd) t r ∧ ls.length ≤ B ∧ w'.ownsRow b 56 9 (.slice V' ls.length c) ls.length (ndL.all ls) ∧ (∀ l ∈ ls, NdOwn w' (b ≤ ·) l) ∧ Below b w w'
def UpRel1 (b : Nat) (W : World) (T : List Nd) (rt : Nat) (G : TT) (X : Nat) (a0 : List (Nat × Nat)) (VA V : Option Addr) (v0 v2 v3 : Value) (wr : World) : Prop :=
  ∃ (lsC : List Ln) (V' : Option Addr) (c' : Nat) (a : List (Nat × Nat)) (ac cn : Nat) (q : List Int) (r : Nat) (y : TT), v0 = .slice V' lsC.length c' ∧ v2 = .slice VA a.length ac ∧ v3 = .int .i64 (r : Int) ∧ Hid (a.length ≤ ac) ∧ Hid (∃ s, a ++ s = a0) ∧ Hid (goDown T rt q = some (a, cn)) ∧ Hid (putTT (den T rt) q y = G) ∧
    Hid (Grove (lsC.map Ln.nd) (fun p => p = r)) ∧ Hid (Rep (lsC.map Ln.nd) y r) ∧ Hid (lsC.length ≤ X + (postN T cn).length) ∧ Hid (wr.ownsRow b 56 9 (.slice V' lsC.length c') lsC.length (ndL.all lsC)) ∧ Hid (∀ l ∈ lsC, NdOwn wr (b ≤ ·) l) ∧ Hid (KeptV b V W wr) ∧ Hid (Suc V V' W)
def UpRel2 (b : Nat) (wo W2 : World) (T : List Nd) (ks : List Nat) (kid : Nat) (N0 : List Nd) (r : Nat) (y : TT) (V1 : Option Addr) (nb g n : Nat) (oa on : Obj) (v0 v36 : Value) (wr : World) : Prop :=
  ∃ (i : Nat) (lsC : List Ln) (V' : Option Addr) (c' : Nat) (P : Nat → Nat) (vals : List Value), i ≤ n ∧ v0 = .slice V' lsC.length c' ∧ v36 = .int .i64 (i : Int) ∧ Hid (UInv T ks kid N0 r y i (lsC.map Ln.nd) P) ∧
    Hid (wr.ownsRow b 56 9 (.slice V' lsC.length c') lsC.length (ndL.all lsC)) ∧ Hid (∀ l ∈ lsC, NdOwn wr (fun x => b ≤ x ∧ x ≠ g) l) ∧ Hid (KeptV b V1 wo wr) ∧ Hid (Suc V1 V' W2) ∧ Hid (wr.ownsRow (nb + 1) 3 1 (.slice (some ⟨g, 0, none⟩) n n) n vals) ∧ Hid (∀ q, q < i → vals[q]? = some (.int .i64 (P q : Int))) ∧
    Hid (wr.heap[wo.heap.size]? = some oa ∧ wr.heap[nb]? = some on ∧ W2.heap.size ≤ wr.heap.size)
set_option maxRecDepth 100000 in
set_option maxHeartbeats 6400000 in
theorem up_any (b : Nat) (lsN : List Ln) (V : Option Addr) (vc : Nat) (A : Option Addr) (c : Nat) (ls : List Ln) (rt : Nat) (S : Nat → Prop) (VA : Option Addr) (ac0 : Nat) (a0 : List (Nat × Nat)) (p : List Int) (c0 r0 : Nat) (y0 : TT) (w : World) (hb : b ≤ w.heap.size)
    (hN : w.ownsRow b 56 9 (.slice V lsN.length vc) lsN.length (ndL.all lsN)) (hK : ∀ l ∈ lsN, NdOwn w (b ≤ ·) l) (hT : ∀ w', Below b w w' → ndL.row w' S A ls) (hAB : ∀ w', Below b w w' → AbRow w' VA a0) (hac : a0.length ≤ ac0)
    (hok : ∀ i n, (ls.map Ln.nd)[i]? = some n → ndOk i n = true) (hA : Ahead (ls.map Ln.nd)) (hrt : rt < ls.length) (hnd : ∀ i, i < ls.length → (postN (ls.map Ln.nd) i).length ≤ ls.length) (hsz : lsN.length + 2 * ls.length ≤ 4294967296)
    (hd : goDown (ls.map Ln.nd) rt p = some (a0, c0)) (hG : Grove (lsN.map Ln.nd) (fun p => p = r0)) (hR : Rep (lsN.map Ln.nd) y0 r0) :
    Calls Tryd.prog 30 #[.slice V lsN.length vc, .agg #[.slice A ls.length c, .int .i64 (rt : Int)], .slice VA a0.length ac0, .int .i64 (r0 : Int)] w (UpPost b (putTT (den (ls.map Ln.nd) rt) p y0) (lsN.length + ls.length) w) := by
  obtain ⟨i0, hi, hz0, hz1, hz2⟩ := info_parts infoInt
  obtain ⟨j0, hj, hy0, hy1, hy2⟩ := info_parts infoNode
  have hzc : (Value.agg #[.int .u8 0, .int .u64 0, .int .u64 0, .int .u64 0, .int .u64 0, .string ByteArray.empty, .int .i64 0, .int .i64 0, .slice none 0 0]).cells.size = 9 := rfl
  have HN := Lib.hid hN; have HK := Lib.hid hK; have HT := Lib.hid hT; have HOK := Lib.hid hok; have HA := Lib.hid hA; have HAB := Lib.hid hAB; have HND := Lib.hid hnd; have HD0 := Lib.hid hd; have HG0 := Lib.hid hG; have HR0 := Lib.hid hR
  clear hN hK hT hok hA hAB hnd hd hG hR
  have HBX := Lib.hid (bx_new w (.cells #[.slice A ls.length c, .int .i64 (rt : Int)] 24))
  have HB0 := Lib.hid (bx1 w (.cells #[.slice A ls.length c, .int .i64 (rt : Int)] 24))
  have HW0 := Lib.hid (show (w.alloc (.cells #[.slice A ls.length c, .int .i64 (rt : Int)] 24)).heap.size = w.heap.size + 1 from by simp)
  have HVB := Lib.hid (own_blk HN.out)
  go_enter Tryd.func30, Tryd.ntmps30
  go_upto_region 1 with (fail)
  generalize w.alloc (.cells #[.slice A ls.length c, .int .i64 (rt : Int)] 24) = W at *
  go_loopw [0, 2, 3] (fun v0 v2 v3 wr => UpRel1 b W (ls.map Ln.nd) rt (putTT (den (ls.map Ln.nd) rt) p y0) lsN.length a0 VA V v0 v2 v3 wr) (fun _ v2 _ _ => sliceLen v2)
  case atStart =>
    exact ⟨lsN, V, vc, a0, ac0, c0, p, r0, y0, rfl, rfl, rfl, Lib.hid hac, Lib.hid ⟨[], by simp⟩, HD0, Lib.hid rfl, HG0, HR0, Lib.hid (Nat.le_add_right _ _), Lib.hid (own_agree HN.out fun x hx => HB0.out.block x (HVB.out x hx).2), Lib.hid (fun l hl => (HK.out l hl).agree (below_all HB0.out)), Lib.hid ⟨Below.refl _ _, fun _ _ _ => rfl⟩, Lib.hid (.inl rfl)⟩
  case round =>
    obtain ⟨wo, rfl⟩ : ∃ wo : World, wo = wr := ⟨_, rfl⟩
    obtain ⟨lsC, V1, c1, a, ac, cn, q, r, y, rfl, rfl, rfl, HAC, HPRE, HD, HPUT, HG, HR, HLEN, HNo, HKo, HKV, HSV⟩ := hrel
    have HWo := Lib.hid (show w.heap.size < wo.heap.size from by have := HKV.out.1.size; have := HW0.out; omega)
    have HBb := Lib.hid (show Below b w wo from (HB0.out.mono hb).trans HKV.out.1)
    have HKBo := Lib.hid (show wo.heap[w.heap.size]? = some (.cells #[.slice A ls.length c, .int .i64 (rt : Int)] 24 (0, 0)) from (HKV.out.2 _ (by have := HW0.out; omega) (fun e => by have := (HVB.out _ e).2; omega)).trans HBX.out)
    rcases List.eq_nil_or_concat a with ha | ⟨a', k, ha⟩
    · subst ha
      have i1 : ¬ (((0 : Nat) : Int) > 0) := by omega
      have HQ := Lib.hid (show q = [] from by
        have h := (goDown_lt HA.out _ _ _ HD.out).2.2
        exact List.eq_nil_of_length_eq_zero h.symm)
      have hcn := (goDown_lt HA.out _ _ _ HD.out).1
      simp only at hcn
      have hlb := HND.out cn (by omega)
      go_wp2_with fail
      refine bodyPost_ret (v := .tuple #[.slice V1 lsC.length c1, .int .i64 (r : Int)]) (by simp [results, Tryd.results30, go_sem]) rfl ?_
      refine ⟨lsC, V1, c1, r, rfl, HG.out, ?_, by have := HLEN.out; omega, HNo.out, HKo.out, HBb.out⟩
      have h := HPUT.out
      rw [HQ.out] at h
      simp only [putTT] at h
      rw [← h]; exact HR.out
    · rw [List.concat_eq_append] at ha
      obtain ⟨kn, ki⟩ := k
      subst ha
      obtain ⟨q', z', hq, HD', hkc⟩ := goDown_last HD.out
      have hlt := goDown_lt HA.out _ _ _ HD'
      have hk1 : kn < ls.length := by have := hlt.1; simp only at this; omega
      have HROW := Lib.hid (show ∃ g, VA = some ⟨g, 0, none⟩ ∧ wo.cell? ⟨g, a'.length * 2, none⟩ = some (.int .i64 (kn : Int)) ∧ wo.cell? ⟨g, a'.length * 2 + 1, none⟩ = some (.int .i64 (ki : Int)) from by
        obtain ⟨s, hs⟩ := HPRE.out
        have h := HAB.out wo HBb.out a'.length (by rw [← hs]; simp)
        have e : a0[a'.length]'(by rw [← hs]; simp) = (kn, ki) := by simp [← hs]
        rw [e] at h; exact h)
      obtain ⟨g, hg, hc1, hc2⟩ := HROW.out
      have hal : a'.length ≤ 4294967296 := by
        have := goDown_depth HA.out _ _ _ HD'
        simp only at this; omega
      have hac := HAC.out
      rw [List.length_append, List.length_singleton] at hac ⊢
      subst hg
      have HLA := Lib.hid (fun w' h1 h2 => last_any g a'.length ac kn ki w' hal hac h1 h2)
      have HNB := Lib.hid (bx1 wo (.cells #[.int .i64 0, .int .i64 0] 84))
      have HCC := Lib.hid (And.intro hc1 hc2)
      have HKC := Lib.hid hkc
      have HQ := Lib.hid (And.intro hq HD')
      clear hc1 hc2 hkc hq HD' hlt HROW
      have i1 : ((a'.length + 1 : Nat) : Int) > 0 := by omega
      have i2 : (a'.length : Int) + 1 > 0 := by omega
      have i3 : (0 : Int) < (a'.length : Int) + 1 := by omega
      go_upto_region 4 with (first
        | (go_at_call 44; refine (HLA.out _ (by exact (HNB.out.cell (p := ⟨g, a'.length * 2, none⟩) (cellLt HCC.out.1)).trans HCC.out.1) (by exact (HNB.out.cell (p := ⟨g, a'.length * 2 + 1, none⟩) (cellLt HCC.out.2)).trans HCC.out.2)).mono ?_; rintro e w3 ⟨rfl, hb3⟩; have HB3 := Lib.hid hb3; have HX3 := Lib.hid (bx_kept hb3 (bx_new wo _)); clear hb3; obtain ⟨k0, k1, k2, k3⟩ := blk2 HX3.out)
        | fail)
      have HX4 := Lib.hid (set_two (x := .int .i64 (kn : Int)) (y := .int .i64 (ki : Int)) HX3.out)
      have HB4 := Lib.hid (show Below wo.heap.size wo ((w3.setCell ⟨wo.heap.size, 0, none⟩ (.int .i64 (kn : Int))).setCell ⟨wo.heap.size, 1, none⟩ (.int .i64 (ki : Int))) from ((Below.step HNB.out HB3.out).setCell (p := ⟨wo.heap.size, 0, none⟩) (Nat.le_refl _) _).setCell (p := ⟨wo.heap.size, 1, none⟩) (Nat.le_refl _) _)
      have HZ4 := Lib.hid (show wo.heap.size < ((w3.setCell ⟨wo.heap.size, 0, none⟩ (.int .i64 (kn : Int))).setCell ⟨wo.heap.size, 1, none⟩ (.int .i64 (ki : Int))).heap.size from by have := HB3.out.size; simp at this ⊢; omega)
      generalize ((w3.setCell ⟨wo.heap.size, 0, none⟩ (.int .i64 (kn : Int))).setCell ⟨wo.heap.size, 1, none⟩ (.int .i64 (ki : Int))) = w4 at *
      clear k0 k1 k2 k3 HX3 HB3 HLA HNB HCC
      obtain ⟨k0, k1, k2, k3⟩ := blk2 HX4.out
      have HKB4 := Lib.hid ((HB4.out.block w.heap.size HWo.out).trans HKBo.out)
      obtain ⟨l0, l1, l2, l3⟩ := blk2 HKB4.out
      have hbwo : b ≤ wo.heap.size := by have := HBb.out.size; omega
      have HBWO := Lib.hid hbwo
      clear hbwo
      have HB4b := Lib.hid (show Below b w w4 from HBb.out.trans (HB4.out.mono HBWO.out))
      obtain ⟨ab, ao, hab, _, hab2, x0, x1, x2, x3, x4, x5, x6, x7, x8⟩ := ndRow (HT.out w4 HB4b.out) kn hk1
      have HWF := Lib.hid (ndWf (HT.out w4 HB4b.out) kn hk1)
      have HKR := Lib.hid (show ∀ w', Below b w w' → intL.row w' S ls[kn].A ls[kn].nd.kids from fun w' h => ndSub (HT.out w' h) kn hk1)
      have HNDK := Lib.hid (show ndAt (ls.map Ln.nd) kn = ls[kn].nd from by simp [ndAt, hk1])
      have HKAT := Lib.hid (show kidsAt (ls.map Ln.nd) kn = ls[kn].nd.kids.map Int.toNat from by simp [kidsAt, hk1])
      have HKOK := Lib.hid (HOK.out kn ls[kn].nd (by simp [hk1]))
      subst hab
      have i4 : (kn : Int) < (ls.length : Int) := by omega
      have i5 : (0 : Int) ≤ (kn : Int) := by omega
      generalize ls[kn] = x at *
      have HX5 := Lib.hid (bx_new w4 (.cells #[.int .u8 x.nd.kind, .int .u64 x.nd.s0, .int .u64 x.nd.s1, .int .u64 x.nd.s2, .int .u64 x.nd.s3, .string x.nd.text, .int .i64 x.nd.mn, .int .i64 x.nd.mx, .slice x.A x.nd.kids.length x.c] 56))
      have HB5 := Lib.hid (bx1 w4 (.cells #[.int .u8 x.nd.kind, .int .u64 x.nd.s0, .int .u64 x.nd.s1, .int .u64 x.nd.s2, .int .u64 x.nd.s3, .string x.nd.text, .int .i64 x.nd.mn, .int .i64 x.nd.mx, .slice x.A x.nd.kids.length x.c] 56))
      have HZ5 := Lib.hid (show (w4.alloc (.cells #[.int .u8 x.nd.kind, .int .u64 x.nd.s0, .int .u64 x.nd.s1, .int .u64 x.nd.s2, .int .u64 x.nd.s3, .string x.nd.text, .int .i64 x.nd.mn, .int .i64 x.nd.mx, .slice x.A x.nd.kids.length x.c] 56)).heap.size = w4.heap.size + 1 from by simp)
      go_upto_region 5 with (fail)
      generalize w4.alloc (.cells #[.int .u8 x.nd.kind, .int .u64 x.nd.s0, .int .u64 x.nd.s1, .int .u64 x.nd.s2, .int .u64 x.nd.s3, .string x.nd.text, .int .i64 x.nd.mn, .int .i64 x.nd.mx, .slice x.A x.nd.kids.length x.c] 56) = W5 at *
      clear x0 x1 x2 x3 x4 x5 x6 x7 x8 k0 k1 k2 k3 l0 l1 l2 l3
      have hkl : x.nd.kids.length ≤ 4294967296 := by
        have h1 := HND.out kn hk1
        have h2 := flat_le (ls.map Ln.nd) (kidsAt (ls.map Ln.nd) kn)
        rw [postN_eq HA.out, List.length_append] at h1
        rw [HKAT.out, List.length_map] at h2
        rw [HKAT.out] at h1
        omega
      have HFK := Lib.hid (show i0.bytes * x.nd.kids.length ≤ 281474976710656 ∧ x.nd.kids.length ≤ maxLen from ⟨by rw [hz2]; omega, by unfold maxLen; omega⟩)
      obtain ⟨_, _, _, _, _, _, _, _, y8, _⟩ := blk9 HX5.out
      go_upto_region 7 with (first
        | (at_make; refine wpList_make_full _ rfl _ _ 25 rfl (w4.heap.size + 1) 3 i0 _ 1 Tryd.underlying25 hi hz0 hz1 .i64 .i64 _ _ x.nd.kids.length rfl rfl rfl rfl HFK.out.1 HFK.out.2 (by have := HZ5.out; omega) ?_; intro w6 hown6 hgrow6; have HO6 := Lib.hid hown6; have HB6 := Lib.hid (show Below W5.heap.size W5 w6 from (Below.refl _ _).grown hgrow6 (Nat.le_refl _) (fun k e => by cases e)); clear hown6 hgrow6; have HX6 := Lib.hid (bx_kept HB6.out HX5.out); clear y8; obtain ⟨_, _, _, _, _, _, _, _, y8, _⟩ := blk9 HX6.out)
        | fail)
      clear y8
      have HB6w := Lib.hid (show Below wo.heap.size wo w6 from (HB4.out.trans (HB5.out.mono (by have := HZ4.out; omega))).trans (HB6.out.mono (by have := HZ5.out; have := HZ4.out; omega)))
      have HOA6 := Lib.hid (bx_kept HB6.out (bx_kept HB5.out HX4.out))
      generalize hnb : w4.heap.size = nb at *
      have HNBE := Lib.hid hnb
      clear hnb
      generalize hg3 : W5.heap.size = g3 at *
      have HG3E := Lib.hid hg3
      clear hg3
      have HKL := Lib.hid hkl
      have hg36 : g3 < w6.heap.size := (own_lt HO6.out).2
      have HG36 := Lib.hid hg36
      clear hg36
      go_loopw [0, 36] (fun v0 v36 wr => UpRel2 b wo w6 (ls.map Ln.nd) (kidsAt (ls.map Ln.nd) kn) ki (lsC.map Ln.nd) r y V1 nb g3 x.nd.kids.length (.cells #[.int .i64 (kn : Int), .int .i64 (ki : Int)] 84 (0, 0)) (.cells #[.int .u8 x.nd.kind, .int .u64 x.nd.s0, .int .u64 x.nd.s1, .int .u64 x.nd.s2, .int .u64 x.nd.s3, .string x.nd.text, .int .i64 x.nd.mn, .int .i64 x.nd.mx, .slice x.A x.nd.kids.length x.c] 56 (0, 0)) v0 v36 wr) (fun _ v36 _ => x.nd.kids.length - (intOf v36).toNat)
      case atStart =>
        exact ⟨0, lsC, V1, c1, fun _ => 0, _, Nat.zero_le _, rfl, rfl, Lib.hid (UInv.start HG.out _), Lib.hid (own_agree HNo.out fun y' hy => HB6w.out.block y' (own_blk HNo.out y' hy).2), Lib.hid (fun l hl => ((HKo.out l hl).mono (T := fun x => b ≤ x ∧ x ≠ g3) fun y' hy h => ⟨h, by have := HZ5.out; have := HZ4.out; have := HG3E.out; have := HNBE.out; omega⟩).agree (below_all HB6w.out)), Lib.hid (Below.keptV HB6w.out HBWO.out), Lib.hid (.inl rfl), HO6, Lib.hid (fun q h => by omega), Lib.hid ⟨HOA6.out, HX6.out, Nat.le_refl _⟩⟩
      case round =>
        obtain ⟨wx, rfl⟩ : ∃ wx : World, wx = wr := ⟨_, rfl⟩
        obtain ⟨i, lsD, V', c', P, vals, hin, rfl, rfl, HU, HNx, HKx, HKVx, HSVx, HOx, HVx, HBBx⟩ := hrel
        have hkl := HKL.out
        have HBx := Lib.hid (show Below b w wx from HBb.out.trans HKVx.out.1)
        have HWx := Lib.hid (show wo.heap.size < nb ∧ nb < g3 ∧ g3 < w6.heap.size ∧ w6.heap.size ≤ wx.heap.size ∧ w.heap.size < wo.heap.size from ⟨by have := HZ4.out; have := HNBE.out; omega, by have := HZ5.out; have := HG3E.out; omega, HG36.out, HBBx.out.2.2, HWo.out⟩)
        have HV1 := Lib.hid (show ∀ e, blkOf V1 = some e → e < wo.heap.size ∧ e ≠ w.heap.size from fun e he => ⟨(own_blk HNo.out e he).2, by
          rcases HSV.out with h | h
          · rw [h] at he; have := (HVB.out e he).2; omega
          · have h1 := h e he; have := HW0.out; omega⟩)
        have HVg := Lib.hid (show ∀ e, blkOf V' = some e → (e < wo.heap.size ∧ e ≠ w.heap.size) ∨ w6.heap.size ≤ e from fun e he => by
          rcases HSVx.out with h | h
          · rw [h] at he; exact .inl (HV1.out e he)
          · exact .inr (h e he))
        have HKBx := Lib.hid (show wx.heap[w.heap.size]? = some (.cells #[.slice (some ⟨ab, ao, none⟩) ls.length c, .int .i64 (rt : Int)] 24 (0, 0)) from (HKVx.out.2 _ HWo.out (fun e => (HV1.out _ e).2 rfl)).trans HKBo.out)
        by_cases hil : i < x.nd.kids.length
        · obtain ⟨kb, ko, hkA, _, hkb, z0⟩ := intRow (HKR.out wx HBx.out) i hil
          have HZK := Lib.hid (show 0 ≤ x.nd.kids[i] ∧ x.nd.kids[i] < (kn : Int) from by
            have h := HKOK.out
            simp only [ndOk, Bool.and_eq_true, List.all_eq_true, decide_eq_true_eq] at h
            exact h.2 _ (List.getElem_mem hil))
          have hil2 : i < (kidsAt (ls.map Ln.nd) kn).length := by rw [HKAT.out, List.length_map]; exact hil
          have HKI := Lib.hid (show (kidsAt (ls.map Ln.nd) kn)[i] = x.nd.kids[i].toNat from by simp [HKAT.out])
          generalize x.nd.kids[i] = z at *
          obtain ⟨zn, rfl⟩ := Int.eq_ofNat_of_zero_le HZK.out.1
          have i7 : (i : Int) < (x.nd.kids.length : Int) := by omega
          have i8 : (0 : Int) ≤ (i : Int) := by omega
          have hvl := HOx.out.1
          obtain ⟨u0, hu0⟩ : ∃ u, vals[i]? = some u := ⟨_, List.getElem?_eq_getElem (by omega)⟩
          obtain ⟨a0', a1', a2', a3'⟩ := blk2 HBBx.out.1
          clear a2' a3'
          rw [hkA]
          by_cases hik : i = ki
          · subst hik
            have cy := own_cell HOx.out i hil hu0
            have cf := World.ownsRow.frozenAt HOx.out i
            have HNX := Lib.hid (World.ownsRow.stored HOx.out i (.int .i64 (r : Int))).1
            go_wp2_with fail
            rw [← hkA]
            have hsc : ∀ y', y' ≠ g3 → (wx.setCell ⟨g3, i, none⟩ (.int .i64 (r : Int))).heap[y']? = wx.heap[y']? := fun y' hy => Below.heap_setCell _ _ _ _ hy
            have hwx := HWx.out
            refine ⟨⟨i + 1, lsD, V', c', fun q => if q = i then r else P q, vals.set i (.int .i64 (r : Int)), hil, rfl, congrArg (Value.int .i64) (by omega), Lib.hid (HU.out.here hil2 HR.out), Lib.hid (own_agree HNx.out fun y' hy => hsc y' (fun e => by rcases HVg.out y' hy with h | h <;> omega)), Lib.hid (fun l hl => (HKx.out l hl).agree fun y' hy _ => hsc y' hy.2), Lib.hid ⟨HKVx.out.1.setCell (p := ⟨g3, i, none⟩) (by have := HBWO.out; show b ≤ g3; omega) _, fun y' hy hV => (hsc y' (by omega)).trans (HKVx.out.2 y' hy hV)⟩, HSVx, HNX, Lib.hid fun q hq => ?_, Lib.hid ⟨(hsc _ (by omega)).trans HBBx.out.1, (hsc _ (by omega)).trans HBBx.out.2.1, by simp; omega⟩⟩, by simp [intOf]; omega⟩
            by_cases e : q = i
            · subst e
              rw [List.getElem?_set_self (by omega)]; simp
            · rw [List.getElem?_set_ne (by omega), HVx.out q (by omega)]; simp [e]
          · have i9 : ((i : Int) == (ki : Int)) = false := by rw [beq_eq_false_iff_ne]; omega
            have i10 : ¬ (i : Int) = (ki : Int) := by omega
            have hzl : zn < ls.length := by have := HZK.out.2; omega
            have HPB := Lib.hid (show ((kidsAt (ls.map Ln.nd) kn).flatMap (postN (ls.map Ln.nd))).length ≤ ls.length ∧ (postN (ls.map Ln.nd) cn).length ≤ ls.length from ⟨by
              have h1 := HND.out kn hk1
              rw [postN_eq HA.out, List.length_append] at h1; omega, HND.out cn (by have h := (goDown_lt HA.out _ _ _ HD.out).1; simp only at h; omega)⟩)
            have HGA := Lib.hid (graft_any b lsD V' c' (some ⟨ab, ao, none⟩) c ls (rt : Int) zn S (fun y' => b ≤ y' ∧ y' ≠ g3) wx (by have := HBWO.out; have := HWx.out; omega) (fun y' hy => by have := HBWO.out; have := HWx.out; exact ⟨by omega, by omega⟩) HNx.out HKx.out (fun w' h => HT.out w' (HBx.out.trans h)) HOK.out HA.out hzl (by omega) (by have h1 := HU.out.len; have h2 := HLEN.out; have h3 := HPB.out; rw [List.drop_eq_getElem_cons hil2, List.flatMap_cons, List.length_append, HKI.out] at h1; simp only [List.length_map, Int.toNat_natCast] at h1 ⊢; omega))
            unfold GraftPost at HGA
            obtain ⟨l0, l1, l2, l3⟩ := blk2 HKBx.out
            clear l2 l3
            go_wp2_with (first
              | (go_at_call 29; refine (HGA.out).mono ?_; rintro e w7 ⟨lsE, V2, c2, rfl, h1, h2, h3, h4, h5⟩; have HQ1 := Lib.hid h1; have HQ2 := Lib.hid h2; have HQ3 := Lib.hid h3; have HQ4 := Lib.hid h4; have HQ5 := Lib.hid h5; clear h1 h2 h3 h4 h5; have HO7 := Lib.hid (HQ4.out.int HNx.out HOx.out); have cy := own_cell HO7.out i hil hu0; have cf := World.ownsRow.frozenAt HO7.out i)
              | fail)
            rw [← hkA]
            have hsc : ∀ y', y' ≠ g3 → (w7.setCell ⟨g3, i, none⟩ (.int .i64 ((lsE.length : Int) - 1))).heap[y']? = w7.heap[y']? := fun y' hy => Below.heap_setCell _ _ _ _ hy
            have hwx := HWx.out
            have hz7 := HQ4.out.1.size
            have hV2g : ∀ e, blkOf V2 = some e → e ≠ g3 := fun e he => by
              rcases HQ5.out with h | h
              · rw [h] at he; rcases HVg.out e he with h | h <;> omega
              · have := h e he; omega
            have hS1 : Suc V1 V' wo := by
              rcases HSVx.out with h | h
              · exact .inl h
              · exact .inr fun e he => by have := h e he; omega
            have hK7 : KeptV b V1 wo w7 := HKVx.out.trans hS1 HQ4.out
            have hle1 : 1 ≤ lsE.length := by
              have h1 := HQ1.out.2.1
              have h2 := postN_ne (ls.map Ln.nd) zn
              rw [List.length_map] at h1; omega
            have hks : ∀ e, e < wx.heap.size → wo.heap.size ≤ e → e < w6.heap.size → w7.heap[e]? = wx.heap[e]? := fun e h1 h2 h3 => HQ4.out.2 e h1 fun he => by rcases HVg.out e he with h | h <;> omega
            have hgr := HQ1.out
            rw [show zn = (kidsAt (ls.map Ln.nd) kn)[i] from by rw [HKI.out]; rfl] at hgr
            refine ⟨⟨i + 1, lsE, V2, c2, fun q => if q = i then (lsE.map Ln.nd).length - 1 else P q, vals.set i (.int .i64 ((lsE.length : Int) - 1)), hil, rfl, congrArg (Value.int .i64) (by omega), Lib.hid (HU.out.graft hil2 hik hgr), Lib.hid (own_agree HQ2.out fun y' hy => hsc y' (hV2g y' hy)), Lib.hid (fun l hl => (HQ3.out l hl).agree fun y' hy _ => hsc y' hy.2), Lib.hid ⟨hK7.1.setCell (p := ⟨g3, i, none⟩) (by have := HBWO.out; show b ≤ g3; omega) _, fun y' hy hV => (hsc y' (by omega)).trans (hK7.2 y' hy hV)⟩, Lib.hid (HSVx.out.trans (by omega) HQ5.out), Lib.hid (World.ownsRow.stored HO7.out i (.int .i64 ((lsE.length : Int) - 1))).1, Lib.hid fun q hq => ?_, Lib.hid ⟨(hsc _ (by omega)).trans ((hks _ (by omega) (by omega) (by omega)).trans HBBx.out.1), (hsc _ (by omega)).trans ((hks _ (by omega) (by omega) (by omega)).trans HBBx.out.2.1), by simp; omega⟩⟩, by simp [intOf]; omega⟩
            by_cases e : q = i
            · subst e
              rw [List.getElem?_set_self (by omega)]
              simp only [if_true, List.length_map]
              congr 2; omega
            · rw [List.getElem?_set_ne (by omega), HVx.out q (by omega)]
              simp only [if_neg e]
        · obtain rfl : i = x.nd.kids.length := by omega
          have i7 : ¬ (x.nd.kids.length : Int) < (x.nd.kids.length : Int) := by omega
          have hkal : (kidsAt (ls.map Ln.nd) kn).length = x.nd.kids.length := by rw [HKAT.out, List.length_map]
          have HUD := Lib.hid (show _ from UInv.done (node := kn) (by rw [hkal]; exact HU.out) HA.out (by exact (List.getElem?_eq_some_iff.1 HKC.out).1) (by rw [HNDK.out]; exact ndOk_fit HKOK.out))
          rw [HNDK.out, HKC.out, Option.getD_some] at HUD
          clear hkal
          have HNK := Lib.hid (show vals = intL.all (upKids x.nd.kids.length P) from by
            have hvl := HOx.out.1
            unfold upKids
            rw [intL_all, List.map_map]
            refine List.ext_getElem? fun q => ?_
            by_cases hq : q < x.nd.kids.length
            · rw [HVx.out q hq]
              simp [hq]
            · rw [List.getElem?_eq_none (by omega), List.getElem?_eq_none (by simp; omega)])
          have HKK := Lib.hid (show (upKids x.nd.kids.length P).length = x.nd.kids.length from by simp [upKids])
          generalize upKids x.nd.kids.length P = kk at *
          obtain ⟨_, _, _, _, _, _, _, _, y8, _, _, _, _, _, _, _, _, z8⟩ := blk9 HBBx.out.2.1
          have HX7 := Lib.hid (set_blk9 (u := (.slice (some ⟨g3, 0, none⟩) x.nd.kids.length x.nd.kids.length)) HBBx.out.2.1)
          have HE7 := Lib.hid (show ∀ x', x' ≠ nb → (wx.setCell ⟨nb, 8, none⟩ (.slice (some ⟨g3, 0, none⟩) x.nd.kids.length x.nd.kids.length)).heap[x']? = wx.heap[x']? from fun x' hx => Below.heap_setCell _ _ _ _ hx)
          have HB7 := Lib.hid (show Below b wo (wx.setCell ⟨nb, 8, none⟩ (.slice (some ⟨g3, 0, none⟩) x.nd.kids.length x.nd.kids.length)) from HKVx.out.1.setCell (p := ⟨nb, 8, none⟩) (by have := HBWO.out; have := HWx.out; show b ≤ nb; omega) _)
          have HZ7 := Lib.hid (show (wx.setCell ⟨nb, 8, none⟩ (.slice (some ⟨g3, 0, none⟩) x.nd.kids.length x.nd.kids.length)).heap.size = wx.heap.size from by simp)
          go_upto_region 14 with (fail)
          generalize (wx.setCell ⟨nb, 8, none⟩ (.slice (some ⟨g3, 0, none⟩) x.nd.kids.length x.nd.kids.length)) = w7 at *
          clear y8 z8
          have hwx := HWx.out
          have hVnb : ∀ e, blkOf V' = some e → e ≠ nb ∧ e ≠ g3 := fun e he => by rcases HVg.out e he with h | h <;> exact ⟨by omega, by omega⟩
          have HVN := Lib.hid hVnb
          clear hVnb
          have HOA := Lib.hid (show (w7.alloc (.cells #[.int .u8 x.nd.kind, .int .u64 x.nd.s0, .int .u64 x.nd.s1, .int .u64 x.nd.s2, .int .u64 x.nd.s3, .string x.nd.text, .int .i64 x.nd.mn, .int .i64 x.nd.mx, .slice (some ⟨g3, 0, none⟩) x.nd.kids.length x.nd.kids.length] 56)).ownsRow b 56 9 (.slice V' lsD.length c') lsD.length (ndL.all lsD) from World.ownsRow.alloc (own_agree HNx.out fun y' hy => HE7.out y' (HVN.out y' hy).1) _)
          have hlen2 : lsD.length + 1 ≤ 4294967296 := by
            have h1 := HUD.out.2.2.2
            have h2 := HLEN.out
            have h3 := HND.out kn hk1
            simp only [List.length_map] at h1; omega
          have F9 := Lib.hid (show lsD.length + 1 ≤ maxLen ∧ (lsD.length + 1) * 96 ≤ 140737488355328 ∧ b ≤ (w7.alloc (.cells #[.int .u8 x.nd.kind, .int .u64 x.nd.s0, .int .u64 x.nd.s1, .int .u64 x.nd.s2, .int .u64 x.nd.s3, .string x.nd.text, .int .i64 x.nd.mn, .int .i64 x.nd.mx, .slice (some ⟨g3, 0, none⟩) x.nd.kids.length x.nd.kids.length] 56)).heap.size from ⟨by unfold maxLen; omega, by omega, by have := HBWO.out; have := HZ7.out; simp; omega⟩)
          refine wp_region_list ?_
          refine wpList_val rfl (exec_move rfl rfl) ?_
          refine wpList_val rfl (exec_load rfl rfl (load9 w7 nb _ _ _ _ _ _ _ _ _ _ HX7.out)) ?_
          refine wpList_val rfl (exec_build rfl rfl (build9 w7 _ _ _ _ _ _ _ _ _)) ?_
          refine wpList_append_at _ rfl (.tmp 62) (.tmp 64) 22 rfl b 56 j0 _ 9 96 Tryd.underlying22 hj hy0 hy1 hy2 hzc (by decide) V' c' lsD.length (ndL.all lsD) rfl HOA.out (some ⟨w7.heap.size, 0, none⟩) 1 1 [.int .u8 x.nd.kind, .int .u64 x.nd.s0, .int .u64 x.nd.s1, .int .u64 x.nd.s2, .int .u64 x.nd.s3, .string x.nd.text, .int .i64 x.nd.mn, .int .i64 x.nd.mx, .slice (some ⟨g3, 0, none⟩) x.nd.kids.length x.nd.kids.length] rfl rfl (row_blk (bx_new w7 _)) (fun u hu => by simp only [List.mem_cons, List.not_mem_nil, or_false] at hu; rcases hu with rfl | rfl | rfl | rfl | rfl | rfl | rfl | rfl | rfl <;> rfl) F9.out.1 F9.out.2.1 F9.out.2.2 ?_
          intro V2 c2 w8 HO8 HG8 HA8
          simp only [Act.put, List.setIfInBounds_toArray, List.set_cons_zero, List.set_cons_succ]
          go_wp2_with fail
          have hne : ∀ y', y' < w7.heap.size → blkOf V' ≠ some y' → w8.heap[y']? = w7.heap[y']? := fun y' hy hV => (HG8.out.block y' (by simp; omega) (fun e => hV e.symm)).trans (Below.heap_alloc _ _ y' hy)
          have h78 : w7.heap.size ≤ w8.heap.size := by have := HG8.out.size; simp at this; omega
          have h77 := HZ7.out
          have hg8 : w8.heap[g3]? = wx.heap[g3]? := (hne g3 (by omega) (fun e => (HVN.out _ e).2 rfl)).trans (HE7.out g3 (by omega))
          have hS1 : Suc V1 V' wo := by
            rcases HSVx.out with h | h
            · exact .inl h
            · exact .inr fun e he => by have := h e he; omega
          have hKV2 : KeptV b V1 wo w8 := by
            refine ⟨HB7.out.trans (((bx1 w7 _).mono (by have := HBWO.out; omega)).trans (below_grownA HOA.out HG8.out (Nat.le_refl _) F9.out.2.2)), fun y' hy hV => ?_⟩
            refine (hne y' (by omega) fun e => ?_).trans ((HE7.out y' (by omega)).trans (HKVx.out.2 y' hy hV))
            rcases HSVx.out with h | h
            · exact hV (h ▸ e)
            · have := h y' e; omega
          have hsv2 : Suc V1 V2 wo := by
            rcases HA8.out with h | h
            · rcases hS1 with h1 | h1
              · exact .inl (h.trans h1)
              · exact .inr fun y' e => h1 y' (h ▸ e)
            · refine .inr fun y' e => ?_
              rw [h] at e
              simp only [World.size_alloc, Option.some.injEq] at e
              omega
          have hints : ∀ l ∈ lsD, NdOwn w8 (b ≤ ·) l := fun l hl => by
            refine ⟨(HKx.out l hl).1, own_agree (HKx.out l hl).2.1 fun y' hy => ?_, fun y' hy => ((HKx.out l hl).2.2 y' hy).1⟩
            have hlt := (own_blk (HKx.out l hl).2.1 y' hy).2
            have hint : ∃ cur, wx.heap[y']? = some (.cells cur 3 (0, 0)) := own_cells (HKx.out l hl).2.1 hy
            obtain ⟨cur, hcur⟩ := hint
            have hyn : y' ≠ nb := fun e => by
              rw [e, HBBx.out.2.1] at hcur
              simp only [Option.some.injEq, Obj.cells.injEq] at hcur
              exact node_ne_int hcur.2.1
            refine (hne y' (by omega) fun e => ?_).trans (HE7.out y' hyn)
            obtain ⟨cs, m, e1⟩ := own_nodeBlk HNx.out y' e
            rw [hcur] at e1
            simp only [Option.some.injEq, Obj.cells.injEq] at e1
            exact node_ne_int e1.2.1.symm
          refine ⟨⟨lsD ++ [⟨{ x.nd with kids := kk }, some ⟨g3, 0, none⟩, x.nd.kids.length⟩], V2, c2, a', a'.length, kn, q', lsD.length, .mk (bareN (ndAt (ls.map Ln.nd) kn)) (((kidsAt (ls.map Ln.nd) kn).map (den (ls.map Ln.nd))).set ki y), ?_, rfl, ?_, Lib.hid (Nat.le_refl _), Lib.hid ?_, Lib.hid HQ.out.2, Lib.hid ?_, Lib.hid ?_, Lib.hid ?_, Lib.hid ?_, Lib.hid ?_, Lib.hid fun l hl => ?_, Lib.hid (HKV.out.trans HSV.out hKV2), Lib.hid (HSV.out.trans (by have := HKV.out.1.size; exact this) hsv2)⟩, by simp [sliceLen]⟩
          · rw [List.length_append]; rfl
          · first | rfl | go_num
          · obtain ⟨s, hs⟩ := HPRE.out
            exact ⟨(kn, ki) :: s, by rw [← hs]; simp⟩
          · have h1 := HD.out
            have h2 := HPUT.out
            rw [HQ.out.1] at h1 h2
            exact (put_snoc HA.out h1 HQ.out.2).symm.trans h2
          · rw [List.map_append, List.map_singleton]
            have h := HUD.out.1
            rw [List.length_map] at h; exact h
          · rw [List.map_append, List.map_singleton]
            have h := HUD.out.2.2.1
            rw [List.length_map] at h
            rw [HNDK.out]; exact h
          · have h1 := HUD.out.2.2.2
            have h2 := HLEN.out
            simp only [List.length_map] at h1
            rw [List.length_append, List.length_singleton]; omega
          · have h := HO8.out
            rw [List.length_append]
            rw [show ndL.all (lsD ++ [⟨{ x.nd with kids := kk }, some ⟨g3, 0, none⟩, x.nd.kids.length⟩]) = ndL.all lsD ++ [.int .u8 x.nd.kind, .int .u64 x.nd.s0, .int .u64 x.nd.s1, .int .u64 x.nd.s2, .int .u64 x.nd.s3, .string x.nd.text, .int .i64 x.nd.mn, .int .i64 x.nd.mx, .slice (some ⟨g3, 0, none⟩) x.nd.kids.length x.nd.kids.length] from by rw [Lay.all_append, Lay.all_one]; simp [ndL, HKK.out]]
            exact h
          · rcases List.mem_append.1 hl with hl | hl
            · exact hints l hl
            · simp only [List.mem_singleton] at hl
              subst hl
              refine ⟨⟨HWF.out.1, HWF.out.2.1, by show kk.length ≤ _; rw [HKK.out]; omega, HWF.out.2.2.2⟩, ?_⟩
              show OwnS w8 _ _ 1 _ kk.length _ (intL.all kk)
              rw [HKK.out, ← HNK.out]
              exact ⟨own_mono (own_agree HOx.out fun y' hy => by cases hy; exact hg8) (Nat.zero_le _), fun y' hy => by cases hy; show b ≤ g3; have := HBWO.out; omega⟩
end Go.Proofs.YtfncfmiccomgcaaDoor
