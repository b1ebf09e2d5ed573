/- The contracts of bonsairef04.Clean and bonsairef04.Of. -/
import Derived.Test.YtfncfmiccomgcaaDoorRb
import Derived.Test.YtfncfmiccomgcaaDoorTt
namespace Go.Proofs.YtfncfmiccomgcaaDoor
open Go.RowKit
set_option linter.unusedSimpArgs false
set_option linter.unusedVariables false

set_option maxRecDepth 100000 in
set_option maxHeartbeats 3200000 in
theorem rclean_any (A : Option Addr) (c : Nat) (ls : List Ln) (root : Nat) (S : Nat → Prop) (w : World) (hT : ndL.row w S A ls) (hl : ls.length ≤ 16777216) (hkl : ∀ l ∈ ls, l.nd.kids.length ≤ 4294967296) (hks : (kidsOf (ls.map Ln.nd)).length ≤ 4611686018427387904) (hr : rightP ⟨ls.map Ln.nd, root⟩) :
    Calls Tryd.prog 58 #[.agg #[.slice A ls.length c, .int .i64 root]] w (TreePost (takenT ⟨ls.map Ln.nd, root⟩ root) w) := by
  have hn : root < ls.length := by have h := hr.1.2; simp only [List.length_map] at h; omega
  have HB0 := Lib.hid (bx2 w (.cells #[.slice A ls.length c, .int .i64 root] 24) (.cells #[.slice none 0 0, .int .i64 0] 24))
  have HC := Lib.hid (rsub_any A c ls root root S _ (hT.below HB0.out) hl hkl hks hr hn)
  have HK0 := Lib.hid (show ∀ w', Below ((w.alloc (.cells #[.slice A ls.length c, .int .i64 root] 24)).alloc (.cells #[.slice none 0 0, .int .i64 0] 24)).heap.size ((w.alloc (.cells #[.slice A ls.length c, .int .i64 root] 24)).alloc (.cells #[.slice none 0 0, .int .i64 0] 24)) w' → w'.heap[w.heap.size + 1]? = some (.cells #[.slice none 0 0, .int .i64 0] 24 (0, 0)) ∧ w.heap.size + 2 ≤ w'.heap.size from fun w' hb => by
    refine ⟨bx_kept hb ?_, by have := hb.size; simp at this; omega⟩
    have h := bx_new (w.alloc (.cells #[.slice A ls.length c, .int .i64 root] 24)) (.cells #[.slice none 0 0, .int .i64 0] 24)
    rw [World.size_alloc] at h; exact h)
  have HSZ := Lib.hid (show ∀ x, ((w.alloc (.cells #[.slice A ls.length c, .int .i64 root] 24)).alloc (.cells #[.slice none 0 0, .int .i64 0] 24)).heap.size ≤ x ↔ w.heap.size + 2 ≤ x from fun x => by simp)
  clear hT hkl hks hr
  unfold TreePost
  go_enter Tryd.func58, Tryd.ntmps58
  go_wp2_with fail
  refine HC.out.mono ?_
  rintro e w1 ⟨⟨A1, c1, l1, r1⟩, he, htr, hto, hb⟩
  simp only [Lt.val] at he; subst he
  have HTR := Lib.hid htr; have HTO := Lib.hid hto; have HB1 := Lib.hid (Below.step HB0.out hb); have HK1 := Lib.hid (HK0.out _ hb)
  clear htr hto hb HB0 HK0 HC
  have HN := Lib.hid (bx_new w1 (.cells #[.slice A1 l1.length c1, .int .i64 r1] 24))
  obtain ⟨q1, q2, _, _⟩ := blk2 HN.out
  obtain ⟨t1, t2, t3, t4⟩ := blk2 (bx_old (p := .cells #[.slice A1 l1.length c1, .int .i64 r1] 24) HK1.out.1)
  go_wp2_with fail
  refine bodyPost_ret (v := .agg #[.slice A1 l1.length c1, .int .i64 r1]) (by simp [results, Tryd.results58, go_sem, t1, t2]) rfl ?_
  refine ⟨⟨A1, c1, l1, r1⟩, rfl, HTR.out, ?_, ((HB1.out.alloc (by have := HK1.out.2; omega) _).setCell (p := ⟨w.heap.size + 1, 0, none⟩) (by simp) _).setCell (p := ⟨w.heap.size + 1, 1, none⟩) (by simp) _⟩
  have h := HTO.out.below (bx1 w1 (.cells #[.slice A1 l1.length c1, .int .i64 r1] 24))
  refine (h.agree (fun x hx _ => ?_)).mono (fun x _ hx => ?_)
  · have hx := (HSZ.out x).1 hx
    exact (Below.heap_setCell _ _ _ _ (by show x ≠ w.heap.size + 1; omega)).trans (Below.heap_setCell _ _ _ _ (by show x ≠ w.heap.size + 1; omega))
  · have hx := (HSZ.out x).1 hx
    show w.heap.size ≤ x; omega

/-- Where the putting together stands. -/
def ROfRel (w : World) (n : Nd) (ks : List Lt) (v6 v7 : Value) (wr : World) : Prop :=
  ∃ (k m : Nat) (V U : Option Addr) (vc uc : Nat) (ls : List Ln) (li : List Int), k ≤ ks.length ∧ v7 = .int .i64 k ∧ v6 = .slice V m vc ∧
    Hid (ls.length = m ∧ li.length = k ∧ putTs ((ks.drop k).map Lt.tr) (ls.map Ln.nd) li = putTs (ks.map Lt.tr) [] [] ∧ m + ((ks.drop k).map fun t => t.ls.length).sum ≤ 16777216) ∧
    Hid (wr.ownsRow (w.heap.size + 2) 56 9 (.slice V m vc) m (ndL.all ls)) ∧ Hid (wr.ownsRow (w.heap.size + 2) 3 1 (.slice U k uc) k (intL.all li)) ∧ Hid (ApartB V U) ∧
    Hid (∀ l ∈ ls, NdOwn wr (fun x => w.heap.size + 2 ≤ x ∧ blkOf V ≠ some x ∧ blkOf U ≠ some x) l) ∧
    Hid (wr.heap[w.heap.size]? = some (.cells #[.int .u8 n.kind, .int .u64 n.s0, .int .u64 n.s1, .int .u64 n.s2, .int .u64 n.s3, .string n.text, .int .i64 n.mn, .int .i64 n.mx, .slice U k uc] 56 (0, 0))) ∧ Hid (wr.heap[w.heap.size + 1]? = some (.cells #[.slice none 0 0, .int .i64 0] 24 (0, 0))) ∧ Hid (Below w.heap.size w wr) ∧ Hid (w.heap.size + 2 ≤ wr.heap.size)
/-- Where the taking over of one kid's nodes stands. -/
def ROfIn (w w3 : World) (V : Option Addr) (m : Nat) (ls l3 : List Ln) (v6 v10 : Value) (wx : World) : Prop :=
  ∃ (q : Nat) (V' : Option Addr) (vc' : Nat) (l4 : List Ln), q ≤ l3.length ∧ v10 = .int .i64 q ∧ v6 = .slice V' (m + q) vc' ∧ Hid (l4.map Ln.nd = (l3.take q).map fun l => moveN (m : Int) l.nd) ∧
    Hid (wx.ownsRow (w.heap.size + 2) 56 9 (.slice V' (m + q) vc') (m + q) (ndL.all (ls ++ l4))) ∧ Hid (blkOf V' = blkOf V ∨ ∃ y, blkOf V' = some y ∧ w3.heap.size ≤ y) ∧
    Hid (∀ l ∈ l4, NdOwn wx (fun x => w3.heap.size ≤ x ∧ blkOf V' ≠ some x) l) ∧ Hid (∀ x, x < w3.heap.size → blkOf V ≠ some x → wx.heap[x]? = w3.heap[x]?) ∧ Hid (w3.heap.size ≤ wx.heap.size) ∧ Hid (Below w.heap.size w wx)

set_option maxRecDepth 100000 in
set_option maxHeartbeats 12800000 in
theorem rof_any (n : Nd) (K : Value) (L : Option Addr) (lc : Nat) (ks : List Lt) (S : Nat → Prop) (w : World) (hn : n.wf) (hL : ttL.row w S L ks) (hl : ks.length ≤ 16777216) (hsum : (ks.map fun t => t.ls.length).sum ≤ 16777216) (hkk : ∀ t ∈ ks, (∀ l ∈ t.ls, l.nd.kids.length ≤ 4294967296) ∧ (kidsOf (t.ls.map Ln.nd)).length ≤ 4611686018427387904) (hok : okT n (ks.map Lt.tr) = true) :
    Calls Tryd.prog 42 #[ndV n K, .slice L ks.length lc] w fun e w' => ∃ v : Lt, e = .returned (.tuple #[v.val, .bool true]) ∧ v.tr = ofT n (ks.map Lt.tr) ∧ TreeOwn w' (w.heap.size ≤ ·) v ∧ Below w.heap.size w w' := by
  obtain ⟨i0, hi, hz0, hz1, hz2⟩ := info_parts infoInt
  obtain ⟨j0, hj, hy0, hy1, hy2⟩ := info_parts infoNode
  have HN := Lib.hid hn; have HL := Lib.hid hL; have HSUM := Lib.hid hsum; have HKK := Lib.hid hkk
  simp only [okT, Bool.and_eq_true, List.length_map, List.all_eq_true] at hok
  obtain ⟨hfit, hall⟩ := hok
  have HAL := Lib.hid (show ∀ t ∈ ks, rightT t.tr = true from fun t ht => hall _ (List.mem_map.2 ⟨t, ht, rfl⟩))
  clear hn hL hsum hkk hall
  have HFT := Lib.hid (fun w' => rfits_any n K ks.length w' HN.out.1 HN.out.2.1)
  rw [hfit] at HFT
  clear hfit
  go_enter Tryd.func42, Tryd.ntmps42
  have HB0 := Lib.hid (bx2 w (.cells #[.int .u8 n.kind, .int .u64 n.s0, .int .u64 n.s1, .int .u64 n.s2, .int .u64 n.s3, .string n.text, .int .i64 n.mn, .int .i64 n.mx, K] 56) (.cells #[.slice none 0 0, .int .i64 0] 24))
  have HKN := Lib.hid (bx_old (p := .cells #[.slice none 0 0, .int .i64 0] 24) (bx_new w (.cells #[.int .u8 n.kind, .int .u64 n.s0, .int .u64 n.s1, .int .u64 n.s2, .int .u64 n.s3, .string n.text, .int .i64 n.mn, .int .i64 n.mx, K] 56)))
  have HKR := bx_new (w.alloc (.cells #[.int .u8 n.kind, .int .u64 n.s0, .int .u64 n.s1, .int .u64 n.s2, .int .u64 n.s3, .string n.text, .int .i64 n.mn, .int .i64 n.mx, K] 56)) (.cells #[.slice none 0 0, .int .i64 0] 24)
  rw [World.size_alloc] at HKR
  have HKR := Lib.hid HKR
  go_wp2_with fail
  refine (HFT.out _).mono ?_
  rintro e w1 ⟨rfl, hb1⟩
  have HB1 := Lib.hid (Below.step HB0.out hb1); have HN1 := Lib.hid (bx_kept hb1 HKN.out); have HR1 := Lib.hid (bx_kept hb1 HKR.out)
  have HZ1 := Lib.hid (show w.heap.size + 2 ≤ w1.heap.size from by have := hb1.size; simp at this; omega)
  clear hb1 HB0 HKN HKR HFT
  obtain ⟨_, _, _, _, _, _, _, _, y8, _, _, _, _, _, _, _, _, z8⟩ := blk9 HN1.out
  go_upto_region 5 with (fail)
  have HN2 := Lib.hid (set_blk9 (u := .slice none 0 0) HN1.out)
  have HR2 := Lib.hid ((Below.heap_setCell w1 ⟨w.heap.size, 8, none⟩ (.slice none 0 0) (w.heap.size + 1) (by show w.heap.size + 1 ≠ w.heap.size; omega)).trans HR1.out)
  have HB2 := Lib.hid (show Below w.heap.size w (w1.setCell ⟨w.heap.size, 8, none⟩ (.slice none 0 0)) from HB1.out.setCell (p := ⟨w.heap.size, 8, none⟩) (Nat.le_refl _) _)
  have HZ2 := Lib.hid (show w.heap.size + 2 ≤ (w1.setCell ⟨w.heap.size, 8, none⟩ (.slice none 0 0)).heap.size from by have := HZ1.out; simpa using this)
  clear HN1 HR1 HB1 HZ1 y8 z8
  generalize w1.setCell ⟨w.heap.size, 8, none⟩ (.slice none 0 0) = w2 at *
  go_wp2_with fail
  go_loopw [6, 7] (fun v6 v7 wr => ROfRel w n ks v6 v7 wr) (fun _ v7 _ => ks.length - (intOf v7).toNat)
  case atStart => exact ⟨0, 0, none, none, 0, 0, [], [], Nat.zero_le _, rfl, rfl, Lib.hid ⟨rfl, rfl, rfl, by simpa using HSUM.out⟩, Lib.hid (World.ownsRow_nil _ _ _ _), Lib.hid (World.ownsRow_nil _ _ _ _), Lib.hid (ApartB.none _), Lib.hid (by simp), HN2, HR2, HB2, HZ2⟩
  case round =>
    clear HN2 HR2 HB2 HZ2
    obtain ⟨k, m, V, U, vc, uc, ls, li, hk, rfl, rfl, HM, HO6, HO7, HAP, HND, HKN, HKR, HB, HZ⟩ := hrel
    by_cases hlt : k < ks.length
    · have i1 : (k : Int) < (ks.length : Int) := by omega
      have i2 : (0 : Int) ≤ (k : Int) := by omega
      obtain ⟨b, o, hLL, _, _, x0, x1⟩ := ttRow (HL.out.below HB.out) k hlt
      subst hLL
      have HXX := Lib.hid (show ∀ w', Below wr.heap.size wr w' → w'.cell? ⟨b, o + k * 2, none⟩ = some (.slice ks[k].A ks[k].ls.length ks[k].c) ∧ w'.cell? ⟨b, o + k * 2 + 1, none⟩ = some (.int .i64 ks[k].root) from fun w' h => ⟨(h.cell (by exact cellLt x0)).trans x0, (h.cell (by exact cellLt x1)).trans x1⟩)
      have HIN := Lib.hid (show ∀ w', Below w.heap.size w w' → Lt.inn w' S ks[k] from fun w' hb => (HL.out.below hb).sub k hlt)
      have HDR := Lib.hid (show ks.drop k = ks[k] :: ks.drop (k + 1) from List.drop_eq_getElem_cons hlt)
      have HRT := Lib.hid (HAL.out ks[k] (List.getElem_mem hlt))
      have HKT := Lib.hid (HKK.out ks[k] (List.getElem_mem hlt))
      generalize ks[k] = t at *
      obtain ⟨A, c, ts, root⟩ := t
      simp only at x0 x1 HXX HKT
      obtain ⟨hlm, hli, hput, hsm⟩ := HM.out
      rw [HDR.out] at hput hsm
      simp only [List.map_cons, List.sum_cons, putTs] at hput hsm
      have HPUT := Lib.hid hput; have HLI := Lib.hid hli; have HLM := Lib.hid hlm
      have htl : ts.length ≤ 16777216 := by omega
      clear hput hli hlm HDR
      have hrp := (rightT_iff _).1 HRT.out
      obtain ⟨rn, rfl⟩ : ∃ rn : Nat, root = (rn : Int) := ⟨root.toNat, by have h0 := hrp.1.1; simp only [Lt.tr] at h0; omega⟩
      have HRP := Lib.hid (show rightP ⟨ts.map Ln.nd, rn⟩ from hrp)
      clear hrp
      have hrn : rn < ts.length := by have h0 := HRP.out.1.2; simp only [List.length_map] at h0; omega
      have HTN := Lib.hid (show (takenL (ts.map Ln.nd) rn).length = ts.length from by
        have h0 := root_length HRP.out
        simp only [Int.toNat_natCast, List.length_map] at h0
        unfold takenL; rw [List.length_map]; exact h0)
      have HRC := Lib.hid (show ∀ w', Below w.heap.size w w' → _ from fun w' h => rright_any A c ts rn S w' (HIN.out w' h).2 (by omega) HKT.out.1 HKT.out.2)
      have HCC := Lib.hid (show ∀ w', Below w.heap.size w w' → _ from fun w' h => rclean_any A c ts rn S w' (HIN.out w' h).2 htl HKT.out.1 HKT.out.2 HRP.out)
      rw [show rightT ⟨ts.map Ln.nd, rn⟩ = true from HRT.out] at HRC
      go_wp2_with (first
        | (go_at_call 27; refine (HRC.out wr HB.out).mono ?_; rintro e w3 ⟨rfl, hb⟩; have HB3 := Lib.hid (Below.step HB.out hb); have HC3 := Lib.hid hb; clear hb x0 x1; obtain ⟨x0, x1⟩ := HXX.out w3 HC3.out)
        | (go_at_call 58; refine (HCC.out w3 HB3.out).mono ?_; rintro e w4 ⟨⟨A3, c3, l3, r3⟩, he, htr, hto, hb⟩; simp only [Lt.val] at he; subst he; have HL3 := Lib.hid (show l3.map Ln.nd = takenL (ts.map Ln.nd) rn from congrArg Tr.nodes htr); have HO3 := Lib.hid hto; have HB4 := Lib.hid (Below.step HB3.out hb); have HC4 := Lib.hid (Below.step HC3.out hb); have HS34 := Lib.hid HC3.out.size; have HS45 := Lib.hid hb.size; clear htr hto hb))
      have hn3 : l3.length = ts.length := by have h0 := congrArg List.length HL3.out; rw [List.length_map] at h0; exact h0.trans HTN.out
      have hpos : 0 < l3.length := by omega
      have HN3 := Lib.hid hn3
      have hl3 : l3.length ≤ 16777216 := by omega
      have hml : m + l3.length ≤ 16777216 := by omega
      clear hn3
      have HKD := Lib.hid (show ∀ l ∈ l3, l.nd.kids.length ≤ ts.length ∧ ∀ z ∈ l.nd.kids, 0 ≤ z ∧ z ≤ (ts.length : Int) from fun l hl => by
        have h0 := takenL_kids HRP.out rn (by simpa using hrn) l.nd (by simp only; rw [← HL3.out]; exact List.mem_map.2 ⟨l, hl, rfl⟩)
        simpa using h0)
      have HBV := Lib.hid (show (∀ x, blkOf V = some x → w.heap.size + 2 ≤ x ∧ x < wr.heap.size) ∧ ∀ x, blkOf U = some x → w.heap.size + 2 ≤ x ∧ x < wr.heap.size from ⟨fun x hx => own_blk HO6.out x hx, fun x hx => own_blk HO7.out x hx⟩)
      have HS4 := Lib.hid (show wr.heap.size ≤ w3.heap.size ∧ w3.heap.size ≤ w4.heap.size from ⟨HS34.out, HS45.out⟩)
      have HT5 := Lib.hid (bx_new w4 (.cells #[.slice A3 l3.length c3, .int .i64 r3] 24))
      have HZ5 := Lib.hid (show (w4.alloc (.cells #[.slice A3 l3.length c3, .int .i64 r3] 24)).heap.size = w4.heap.size + 1 from by simp)
      have HC5 := Lib.hid (show Below wr.heap.size wr (w4.alloc (.cells #[.slice A3 l3.length c3, .int .i64 r3] 24)) from HC4.out.alloc (by have := HS4.out; omega) _)
      have HB5 := Lib.hid (show Below w.heap.size w (w4.alloc (.cells #[.slice A3 l3.length c3, .int .i64 r3] 24)) from HB4.out.alloc HB4.out.size _)
      have HE5 := Lib.hid (show ∀ y, y < w4.heap.size → (w4.alloc (.cells #[.slice A3 l3.length c3, .int .i64 r3] 24)).heap[y]? = w4.heap[y]? from fun y hy => Below.heap_alloc w4 _ y hy)
      generalize w4.alloc (.cells #[.slice A3 l3.length c3, .int .i64 r3] 24) = w5 at *
      have HO65 := Lib.hid (own_belowA HO6.out HC5.out)
      clear x0 x1 HXX HRC HCC HIN
      go_loopw [6, 10] (fun v6 v10 wx => ROfIn w w5 V m ls l3 v6 v10 wx) (fun _ v10 _ => l3.length - (intOf v10).toNat)
      case atStart => exact ⟨0, V, vc, [], Nat.zero_le _, rfl, rfl, Lib.hid rfl, Lib.hid (by rw [List.append_nil]; exact HO65.out), Lib.hid (Or.inl rfl), Lib.hid (by simp), Lib.hid (fun _ _ _ => rfl), Lib.hid (Nat.le_refl _), HB5⟩
      case round =>
        obtain ⟨wx, rfl⟩ : ∃ wx : World, wx = wr := ⟨_, rfl⟩
        obtain ⟨q, V', vc', l4, hq, rfl, rfl, HL4, HO8, HVV, HND4, HKP, HZX, HBX⟩ := hrel
        have hs4 := HS4.out; have hz5 := HZ5.out; have hzx := HZX.out; have hz := HZ.out
        have HVN := Lib.hid (show ∀ y, wr.heap.size ≤ y → blkOf V ≠ some y from fun y h e => by have := (HBV.out.1 y e).2; omega)
        have HTX := Lib.hid ((HKP.out w4.heap.size (by omega) (HVN.out _ (by omega))).trans HT5.out)
        by_cases hql : q < l3.length
        · have HR3 := Lib.hid (show ndL.row wx (w3.heap.size ≤ ·) A3 l3 from HO3.out.inn.2.agree (fun y hy hyl => (HKP.out y (by omega) (HVN.out y (by have hy : w3.heap.size ≤ y := hy; omega))).trans (HE5.out y hyl)))
          obtain ⟨t0, t1, _, _⟩ := blk2 HTX.out
          obtain ⟨ab, ao, rfl, _, hab, x0, x1, x2, x3, x4, x5, x6, x7, x8⟩ := ndRow HR3.out q hql
          have HKR := Lib.hid (ndSub HR3.out q hql)
          have HWF := Lib.hid (ndWf HR3.out q hql)
          have HKQ := Lib.hid (HKD.out l3[q] (List.getElem_mem hql))
          have HTQ := Lib.hid (show l3.take (q + 1) = l3.take q ++ [l3[q]] from List.take_succ_eq_append_getElem hql)
          generalize l3[q] = x at *
          have i3 : (q : Int) < (l3.length : Int) := by omega
          have i4 : (0 : Int) ≤ (q : Int) := by omega
          go_upto_region 16 with (fail)
          have HN6 := Lib.hid (bx_new wx (.cells #[.int .u8 x.nd.kind, .int .u64 x.nd.s0, .int .u64 x.nd.s1, .int .u64 x.nd.s2, .int .u64 x.nd.s3, .string x.nd.text, .int .i64 x.nd.mn, .int .i64 x.nd.mx, .slice x.A x.nd.kids.length x.c] 56))
          have HZ6 := Lib.hid (show (wx.alloc (.cells #[.int .u8 x.nd.kind, .int .u64 x.nd.s0, .int .u64 x.nd.s1, .int .u64 x.nd.s2, .int .u64 x.nd.s3, .string x.nd.text, .int .i64 x.nd.mn, .int .i64 x.nd.mx, .slice x.A x.nd.kids.length x.c] 56)).heap.size = wx.heap.size + 1 from by simp)
          have HE6 := Lib.hid (show ∀ y, y < wx.heap.size → (wx.alloc (.cells #[.int .u8 x.nd.kind, .int .u64 x.nd.s0, .int .u64 x.nd.s1, .int .u64 x.nd.s2, .int .u64 x.nd.s3, .string x.nd.text, .int .i64 x.nd.mn, .int .i64 x.nd.mx, .slice x.A x.nd.kids.length x.c] 56)).heap[y]? = wx.heap[y]? from fun y hy => Below.heap_alloc wx _ y hy)
          have HB6 := Lib.hid (show Below w.heap.size w (wx.alloc (.cells #[.int .u8 x.nd.kind, .int .u64 x.nd.s0, .int .u64 x.nd.s1, .int .u64 x.nd.s2, .int .u64 x.nd.s3, .string x.nd.text, .int .i64 x.nd.mn, .int .i64 x.nd.mx, .slice x.A x.nd.kids.length x.c] 56)) from HBX.out.alloc HBX.out.size _)
          have HKR6 := Lib.hid (HKR.out.below (bx1 wx (.cells #[.int .u8 x.nd.kind, .int .u64 x.nd.s0, .int .u64 x.nd.s1, .int .u64 x.nd.s2, .int .u64 x.nd.s3, .string x.nd.text, .int .i64 x.nd.mn, .int .i64 x.nd.mx, .slice x.A x.nd.kids.length x.c] 56)))
          clear x0 x1 x2 x3 x4 x5 x6 x7 x8 t0 t1
          generalize hw6 : wx.alloc (.cells #[.int .u8 x.nd.kind, .int .u64 x.nd.s0, .int .u64 x.nd.s1, .int .u64 x.nd.s2, .int .u64 x.nd.s3, .string x.nd.text, .int .i64 x.nd.mn, .int .i64 x.nd.mx, .slice x.A x.nd.kids.length x.c] 56) = w6 at *
          clear hw6
          generalize hnb : wx.heap.size = nb at *
          have HNBE := Lib.hid hnb
          clear hnb
          have hksl : (intL.all (moveN (m : Int) x.nd).kids).length = x.nd.kids.length := by rw [intL.all_length]; show (x.nd.kids.map _).length * 1 = _; simp
          have HKSL := Lib.hid hksl; clear hksl
          go_wp2_with fail
          go_loopw [12, 13] (fun v12 v13 wy => SubRel3 w6 nb (intL.all (moveN (m : Int) x.nd).kids) v12 v13 wy) (fun _ v13 _ => x.nd.kids.length - (intOf v13).toNat)
          case atStart => exact ⟨0, none, 0, Nat.zero_le _, rfl, rfl, Lib.hid (World.ownsRow_nil _ _ _ _), Lib.hid (Below.refl _ _), Lib.hid (by have := HZ6.out; omega)⟩
          case round =>
            obtain ⟨wy, rfl⟩ : ∃ wy : World, wy = wr := ⟨_, rfl⟩
            obtain ⟨j, Q, qc, hjj, rfl, rfl, HU, HBY, HZY⟩ := hrel
            rw [HKSL.out] at hjj
            have HNY := Lib.hid ((HBY.out.block nb (by omega)).trans HN6.out)
            obtain ⟨_, _, _, _, _, _, _, _, y8, _, _, _, _, _, _, _, _, z8⟩ := blk9 HNY.out
            by_cases hjl : j < x.nd.kids.length
            · obtain ⟨kb, ko, hkA, _, hkb, y0⟩ := intRow HKR6.out j hjl
              have hkb2 : kb < nb + 1 := by have := HZ6.out; omega
              have y0 := (HBY.out.cell (p := ⟨kb, ko + j, none⟩) hkb2).trans y0
              have HZQ := Lib.hid (HKQ.out.2 x.nd.kids[j] (List.getElem_mem hjl))
              have HTJ := Lib.hid (show (intL.all (moveN (m : Int) x.nd).kids).take (j + 1) = (intL.all (moveN (m : Int) x.nd).kids).take j ++ [.int .i64 ((m : Int) + x.nd.kids[j])] from by
                rw [List.take_succ_eq_append_getElem (by rw [HKSL.out]; exact hjl)]
                congr 1
                simp [intL_all, moveN, Int.add_comm])
              generalize x.nd.kids[j] = z at *
              rw [hkA] at y8
              clear hkA
              have hkl := HKQ.out.1
              have i5 : (j : Int) < (x.nd.kids.length : Int) := by omega
              have i6 : (0 : Int) ≤ (j : Int) := by omega
              have hzz := HZQ.out
              have F4 := Lib.hid (show j + 1 ≤ maxLen ∧ (j + 1) * 8 ≤ 140737488355328 ∧ nb + 1 ≤ (wy.alloc (.cells #[.int .i64 ((m : Int) + z)] 3)).heap.size from ⟨by unfold maxLen; omega, by omega, by have := HZY.out; simp; omega⟩)
              have hw1 : IntKind.i64.wrap ((m : Int) + z) = (m : Int) + z := IntWalk.i64_in _ (by omega)
              go_wp2_with (at_builtin; refine wpList_append_at _ rfl (.tmp 60) (.tmp 68) 25 rfl (nb + 1) 3 i0 (.int .i64 0) 1 8 Tryd.underlying25 hi hz0 hz1 hz2 rfl (by decide) Q qc j ((intL.all (moveN (m : Int) x.nd).kids).take j) rfl (World.ownsRow.alloc HU.out _) (some ⟨wy.heap.size, 0, none⟩) 1 1 [.int .i64 ((m : Int) + z)] rfl rfl (row_blk (bx_new wy _)) (fun u hu => by simp only [List.mem_singleton] at hu; subst hu; rfl) F4.out.1 F4.out.2.1 F4.out.2.2 ?_; intro Q' qc' w7 HU6 HG6 HA6)
              exact ⟨⟨j + 1, Q', qc', by rw [HKSL.out]; omega, by go_num, rfl, Lib.hid (by rw [HTJ.out]; exact HU6.out), Lib.hid (HBY.out.trans (((Below.refl _ wy).alloc HZY.out _).trans (below_grownA (World.ownsRow.alloc HU.out _) HG6.out (Nat.le_refl _) F4.out.2.2))), Lib.hid (by have := HG6.out.size; have := F4.out.2.2; omega)⟩, by simp [intOf]; omega⟩
            · obtain rfl : j = x.nd.kids.length := by omega
              have HX7 := Lib.hid (set_blk9 (u := (.slice Q x.nd.kids.length qc)) HNY.out)
              have HE7 := Lib.hid (show ∀ y, y ≠ nb → (wy.setCell ⟨nb, 8, none⟩ (.slice Q x.nd.kids.length qc)).heap[y]? = wy.heap[y]? from fun y hy => Below.heap_setCell _ _ _ _ hy)
              have HZ7 := Lib.hid (show (wy.setCell ⟨nb, 8, none⟩ (.slice Q x.nd.kids.length qc)).heap.size = wy.heap.size from by simp)
              have hnbw : w.heap.size + 2 ≤ nb := by have := HNBE.out; omega
              have HB7 := Lib.hid (show Below w.heap.size w (wy.setCell ⟨nb, 8, none⟩ (.slice Q x.nd.kids.length qc)) from (HB6.out.trans (HBY.out.mono (by omega))).setCell (p := ⟨nb, 8, none⟩) (by show w.heap.size ≤ nb; omega) _)
              go_upto_region 22 with (fail)
              generalize wy.setCell ⟨nb, 8, none⟩ (.slice Q x.nd.kids.length qc) = w7 at *
              clear y8 z8
              have HCH := Lib.hid (show ∀ y, y < nb → w7.heap[y]? = wx.heap[y]? from fun y h1 => (HE7.out y (by omega)).trans ((HBY.out.block y (by omega)).trans (HE6.out y h1)))
              have HVB := Lib.hid (show ∀ y, blkOf V' = some y → w.heap.size + 2 ≤ y ∧ y < nb from fun y hy => by have h := own_blk HO8.out y hy; have := HNBE.out; omega)
              have HO8b := Lib.hid (show (w7.alloc (.cells #[.int .u8 x.nd.kind, .int .u64 x.nd.s0, .int .u64 x.nd.s1, .int .u64 x.nd.s2, .int .u64 x.nd.s3, .string x.nd.text, .int .i64 x.nd.mn, .int .i64 x.nd.mx, .slice Q x.nd.kids.length qc] 56)).ownsRow (w.heap.size + 2) 56 9 (.slice V' (m + q) vc') (m + q) (ndL.all (ls ++ l4)) from World.ownsRow.alloc (own_agree HO8.out (fun y hy => HCH.out y (HVB.out y hy).2)) _)
              have HNO := Lib.hid (show ∀ u ∈ ([.int .u8 x.nd.kind, .int .u64 x.nd.s0, .int .u64 x.nd.s1, .int .u64 x.nd.s2, .int .u64 x.nd.s3, .string x.nd.text, .int .i64 x.nd.mn, .int .i64 x.nd.mx, .slice Q x.nd.kids.length qc] : List Value), u.oneCell' = true from (fun u hu => by simp only [List.mem_cons, List.not_mem_nil, or_false] at hu; rcases hu with rfl | rfl | rfl | rfl | rfl | rfl | rfl | rfl | rfl <;> rfl))
              have hn3 := HN3.out
              have HFF := Lib.hid (show m + q + 1 ≤ maxLen ∧ (m + q + 1) * 96 ≤ 140737488355328 ∧ w.heap.size + 2 ≤ (w7.alloc (.cells #[.int .u8 x.nd.kind, .int .u64 x.nd.s0, .int .u64 x.nd.s1, .int .u64 x.nd.s2, .int .u64 x.nd.s3, .string x.nd.text, .int .i64 x.nd.mn, .int .i64 x.nd.mx, .slice Q x.nd.kids.length qc] 56)).heap.size from ⟨by unfold maxLen; omega, by omega, by have h1 := HZ7.out; have h2 := HZY.out; simp; omega⟩)
              clear hn3
              refine wp_region_list ?_
              refine wpList_val rfl (exec_move rfl rfl) ?_
              refine wpList_val rfl (exec_load rfl rfl (load9 w7 nb _ _ _ _ _ _ _ _ _ _ HX7.out)) ?_
              refine wpList_val rfl (exec_build rfl rfl (build9 w7 _ _ _ _ _ _ _ _ _)) ?_
              refine wpList_append_at _ rfl (.tmp 72) (.tmp 74) 22 rfl (w.heap.size + 2) 56 j0 _ 9 96 Tryd.underlying22 hj hy0 hy1 hy2 rfl (by decide) V' vc' (m + q) (ndL.all (ls ++ l4)) rfl HO8b.out (some ⟨w7.heap.size, 0, none⟩) 1 1 [.int .u8 x.nd.kind, .int .u64 x.nd.s0, .int .u64 x.nd.s1, .int .u64 x.nd.s2, .int .u64 x.nd.s3, .string x.nd.text, .int .i64 x.nd.mn, .int .i64 x.nd.mx, .slice Q x.nd.kids.length qc] rfl rfl (row_blk (bx_new w7 _)) HNO.out HFF.out.1 HFF.out.2.1 HFF.out.2.2 ?_
              intro V'' vc'' w8 HO9 HG9 HA9
              simp only [Act.put, List.setIfInBounds_toArray, List.set_cons_zero, List.set_cons_succ]
              have hz7 := HZ7.out; have hzy := HZY.out; have hnbe := HNBE.out
              have h8s : w7.heap.size + 1 ≤ w8.heap.size := by have h := HG9.out.size; simpa using h
              have hK8 : ∀ y, y < w7.heap.size → blkOf V' ≠ some y → w8.heap[y]? = w7.heap[y]? := fun y h1 h2 => (HG9.out.block y (by simp; omega) (fun e => h2 e.symm)).trans (Below.heap_alloc _ _ y h1)
              have hV2 : ∀ y, y < w7.heap.size → blkOf V' ≠ some y → blkOf V'' ≠ some y := fun y h1 h2 e => by
                rcases HA9.out with h | h
                · exact h2 (h ▸ e)
                · rw [h] at e; injection e with e; rw [World.size_alloc] at e; omega
              have hB8 : Below w.heap.size w w8 := (HB7.out.alloc HB7.out.size _).grown HG9.out (by simp; omega) (fun y hy => by have := (HVB.out y hy).1; omega)
              have hV5 : ∀ y, y < w5.heap.size → blkOf V ≠ some y → blkOf V' ≠ some y := fun y h1 h2 e => by
                rcases HVV.out with h | ⟨y', h, h3⟩
                · exact h2 (h ▸ e)
                · rw [h] at e; injection e with e; omega
              have hVV2 : blkOf V'' = blkOf V ∨ ∃ y, blkOf V'' = some y ∧ w5.heap.size ≤ y := by
                rcases HA9.out with h | h
                · rw [h]; exact HVV.out
                · exact Or.inr ⟨_, h, by rw [World.size_alloc]; omega⟩
              have HQ8 := Lib.hid (And.intro hK8 (And.intro hV2 (And.intro hB8 (And.intro hV5 (And.intro hVV2 h8s)))))
              clear hK8 hV2 hB8 hV5 hVV2 h8s hz7 hzy hnbe
              go_wp2_with fail
              obtain ⟨hK8, hV2, hB8, hV5, hVV2, h8s⟩ := HQ8.out
              have hz7 := HZ7.out; have hzy := HZY.out; have hnbe := HNBE.out
              refine ⟨⟨q + 1, V'', vc'', l4 ++ [⟨moveN (m : Int) x.nd, Q, qc⟩], hql, by go_num, rfl, Lib.hid ?_, Lib.hid ?_, Lib.hid hVV2, Lib.hid ?_, Lib.hid ?_, Lib.hid (by omega), Lib.hid hB8⟩, by simp [intOf]; omega⟩
              · rw [HTQ.out, List.map_append, List.map_append, HL4.out]; rfl
              · have h := HO9.out
                rw [← List.append_assoc, Lay.all_append, Lay.all_one, show ndL.cells ⟨moveN (m : Int) x.nd, Q, qc⟩ = [.int .u8 x.nd.kind, .int .u64 x.nd.s0, .int .u64 x.nd.s1, .int .u64 x.nd.s2, .int .u64 x.nd.s3, .string x.nd.text, .int .i64 x.nd.mn, .int .i64 x.nd.mx, .slice Q x.nd.kids.length qc] by simp [ndL, moveN]]
                exact h
              · intro l hl
                rcases List.mem_append.1 hl with hl | hl
                · have h1 := (HND4.out l hl).mono (T := fun y => y < nb ∧ w5.heap.size ≤ y ∧ blkOf V' ≠ some y) (fun y a b => ⟨by omega, b⟩)
                  exact (h1.agree (fun y hy _ => (hK8 y (by omega) hy.2.2).trans (HCH.out y hy.1))).mono (fun y _ hy => ⟨hy.2.1, hV2 y (by omega) hy.2.2⟩)
                · simp only [List.mem_singleton] at hl
                  subst hl
                  refine ⟨moveN_wf HWF.out, ?_⟩
                  have hkl2 : (moveN (m : Int) x.nd).kids.length = x.nd.kids.length := by simp [moveN]
                  show OwnS w8 _ _ 1 Q (moveN (m : Int) x.nd).kids.length qc (intL.all (moveN (m : Int) x.nd).kids)
                  have h7 : OwnS wy (fun y => nb + 1 ≤ y ∧ y < wy.heap.size) 3 1 Q x.nd.kids.length qc (intL.all (moveN (m : Int) x.nd).kids) := by
                    have h := HU.out
                    rw [List.take_of_length_le (by rw [HKSL.out]; exact Nat.le_refl _)] at h
                    exact ⟨own_mono h (Nat.zero_le _), fun y hy => own_blk h y hy⟩
                  rw [hkl2]
                  have hVn : ∀ y, nb + 1 ≤ y → blkOf V' ≠ some y := fun y h e => by have := (HVB.out y e).2; omega
                  exact (h7.agree (fun y hy _ => (hK8 y (by omega) (hVn y hy.1)).trans (HE7.out y (by omega)))).mono (fun y _ hy => ⟨by omega, hV2 y (by omega) (hVn y hy.1)⟩)
              · intro y h1 h2
                exact (hK8 y (by omega) (hV5 y h1 h2)).trans ((HCH.out y (by omega)).trans (HKP.out y h1 h2))
        · obtain rfl : q = l3.length := by omega
          have hn3 := HN3.out
          have hl4 : l4.length = l3.length := by have h := congrArg List.length HL4.out; simpa using h
          have HLN := Lib.hid hl4
          have HOU := Lib.hid (show wx.ownsRow (w.heap.size + 2) 3 1 (.slice U k uc) k (intL.all li) from own_agree (own_belowA HO7.out HC5.out) (fun y hy => HKP.out y (by have := (HBV.out.2 y hy).2; omega) (fun e => HAP.out y e hy)))
          have HKE := Lib.hid (show ∀ y, y < wr.heap.size → blkOf V ≠ some y → wx.heap[y]? = wr.heap[y]? from fun y h1 h2 => (HKP.out y (by omega) h2).trans (HC5.out.block y h1))
          have HNX := Lib.hid ((HKE.out w.heap.size (by omega) (fun e => by have := (HBV.out.1 _ e).1; omega)).trans HKN.out)
          have HRX := Lib.hid ((HKE.out (w.heap.size + 1) (by omega) (fun e => by have := (HBV.out.1 _ e).1; omega)).trans HKR.out)
          obtain ⟨_, _, _, _, _, _, _, _, y8, _, _, _, _, _, _, _, _, z8⟩ := blk9 HNX.out
          have HFF := Lib.hid (show k + 1 ≤ maxLen ∧ (k + 1) * 8 ≤ 140737488355328 ∧ w.heap.size + 2 ≤ (wx.alloc (.cells #[.int .i64 ((m : Int) + (l3.length : Int) - 1)] 3)).heap.size from ⟨by unfold maxLen; omega, by omega, by simp; omega⟩)
          have hmb : (m : Int) + (l3.length : Int) ≤ 16777216 := by omega
          have hmp : (1 : Int) ≤ (l3.length : Int) := by omega
          clear hn3 hl4
          obtain ⟨t0, t1, _, _⟩ := blk2 HTX.out
          go_wp2_with (at_builtin; refine wpList_append_at _ rfl (.tmp 77) (.tmp 81) 25 rfl (w.heap.size + 2) 3 i0 (.int .i64 0) 1 8 Tryd.underlying25 hi hz0 hz1 hz2 rfl (by decide) U uc k (intL.all li) rfl (World.ownsRow.alloc HOU.out _) (some ⟨wx.heap.size, 0, none⟩) 1 1 [.int .i64 ((m : Int) + (l3.length : Int) - 1)] rfl rfl (row_blk (bx_new wx _)) (fun u hu => by simp only [List.mem_singleton] at hu; subst hu; rfl) HFF.out.1 HFF.out.2.1 HFF.out.2.2 ?_; intro U' uc' w8 HU8 HG8 HA8; have HN8 := Lib.hid ((HG8.out.block w.heap.size (by simp; omega) (fun e => by have := (HBV.out.2 _ e.symm).1; omega)).trans (bx_old HNX.out)); obtain ⟨_, _, _, _, _, _, _, _, v8, _, _, _, _, _, _, _, _, u8⟩ := blk9 HN8.out)
          have hhf := HFF.out.2.2
          have hu2 : ∀ y, blkOf U = some y → w.heap.size + 2 ≤ y ∧ y < wr.heap.size := HBV.out.2
          have h8s : wx.heap.size + 1 ≤ w8.heap.size := by have h := HG8.out.size; simpa using h
          have hK8 : ∀ y, y < wx.heap.size → blkOf U ≠ some y → w8.heap[y]? = wx.heap[y]? := fun y h1 h2 => (HG8.out.block y (by simp; omega) (fun e => h2 e.symm)).trans (Below.heap_alloc _ _ y h1)
          have hE9 : ∀ y, y ≠ w.heap.size → (w8.setCell ⟨w.heap.size, 8, none⟩ (.slice U' (k + 1) uc')).heap[y]? = w8.heap[y]? := fun y hy => Below.heap_setCell _ _ _ _ hy
          have hB8 : Below w.heap.size w w8 := (HBX.out.alloc HBX.out.size _).grown HG8.out (by simp; omega) (fun y hy => by have := (hu2 y hy).1; omega)
          have hUU : ∀ y, y < wx.heap.size → blkOf U ≠ some y → blkOf U' ≠ some y := fun y h1 h2 e => by
            rcases HA8.out with h | h
            · exact h2 (h ▸ e)
            · rw [h] at e; injection e with e; rw [World.size_alloc] at e; omega
          have hVVV : ∀ y, y < w5.heap.size → blkOf V ≠ some y → blkOf V' ≠ some y := fun y h1 h2 e => by
            rcases HVV.out with h | ⟨y', h, h3⟩
            · exact h2 (h ▸ e)
            · rw [h] at e; injection e with e; omega
          have hV'b : ∀ y, blkOf V' = some y → w.heap.size + 2 ≤ y ∧ y < wx.heap.size := fun y hy => own_blk HO8.out y hy
          have hVU' : ∀ y, blkOf V' = some y → blkOf U ≠ some y := fun y hy e => by
            rcases HVV.out with h | ⟨y', h, h3⟩
            · exact HAP.out y (h ▸ hy) e
            · rw [h] at hy; injection hy with hy; have := (hu2 y e).2; omega
          refine ⟨⟨k + 1, m + l3.length, V', U', vc', uc', ls ++ l4, li ++ [((m : Int) + (l3.length : Int) - 1)], hlt, by go_num, rfl, Lib.hid ⟨?_, ?_, ?_, ?_⟩, Lib.hid ?_, Lib.hid ?_, Lib.hid ?_, Lib.hid ?_, Lib.hid ?_, Lib.hid ?_, Lib.hid (hB8.setCell (p := ⟨w.heap.size, 8, none⟩) (Nat.le_refl _) _), Lib.hid (by simp; omega)⟩, by simp only [intOf]; omega⟩
          · rw [List.length_append, HLM.out, HLN.out]
          · rw [List.length_append, HLI.out]; rfl
          · have h := HPUT.out
            simp only [Lt.tr, Int.toNat_natCast, List.length_map] at h
            have e : (((ls.map Ln.nd ++ (takenL (ts.map Ln.nd) rn).map (moveN (ls.length : Nat))).length : Nat) : Int) - 1 = ((m : Int) + (l3.length : Int) - 1) := by
              have h5 := HTN.out; have h6 := HN3.out; have h7 := HLM.out
              simp only [List.length_append, List.length_map]; omega
            rw [e] at h
            rw [List.map_append, HL4.out, List.take_length]
            have e2 : (l3.map fun l => moveN (m : Int) l.nd) = (takenL (ts.map Ln.nd) rn).map (moveN (ls.length : Nat)) := by
              rw [← HL3.out, List.map_map, HLM.out]; rfl
            rw [e2]; exact h
          · have := HN3.out; omega
          · exact own_agree HO8.out (fun y hy => (hE9 y (by have := (hV'b y hy).1; omega)).trans (hK8 y (hV'b y hy).2 (hVU' y hy)))
          · rw [Lay.all_append]
            exact own_agree HU8.out (fun y hy => hE9 y (by have := (own_blk HU8.out y hy).1; omega))
          · exact fun y hy => hUU y (hV'b y hy).2 (hVU' y hy)
          · intro l hl
            rcases List.mem_append.1 hl with hl | hl
            · have h1 := (HND.out l hl).mono (T := fun y => y < wr.heap.size ∧ w.heap.size + 2 ≤ y ∧ blkOf V ≠ some y ∧ blkOf U ≠ some y) (fun y a b => ⟨a, b⟩)
              exact (h1.agree (fun y hy _ => (hE9 y (by omega)).trans ((hK8 y (by omega) hy.2.2.2).trans (HKE.out y hy.1 hy.2.2.1)))).mono (fun y _ hy => ⟨hy.2.1, hVVV y (by omega) hy.2.2.1, hUU y (by omega) hy.2.2.2⟩)
            · have h1 := (HND4.out l hl).mono (T := fun y => y < wx.heap.size ∧ w5.heap.size ≤ y ∧ blkOf V' ≠ some y) (fun y a b => ⟨a, b⟩)
              have hUn : ∀ y, w5.heap.size ≤ y → blkOf U ≠ some y := fun y h e => by have := (hu2 y e).2; omega
              exact (h1.agree (fun y hy _ => (hE9 y (by omega)).trans (hK8 y hy.1 (hUn y hy.2.1)))).mono (fun y _ hy => ⟨by omega, hy.2.2, hUU y hy.1 (hUn y hy.2.1)⟩)
          · exact set_blk9 HN8.out
          · exact (hE9 _ (by omega)).trans ((hK8 _ (by omega) (fun e => by have := (hu2 _ e).1; omega)).trans HRX.out)
    · obtain rfl : k = ks.length := by omega
      obtain ⟨hlm, hli, hput, hsm⟩ := HM.out
      rw [List.drop_length] at hput hsm
      simp only [List.map_nil, List.sum_nil, putTs] at hput hsm
      subst hlm
      have HEQ := Lib.hid hput.symm; have HLI := Lib.hid hli
      have hlm : ls.length ≤ 16777216 := by omega
      clear hput hli hsm HM
      have HBW := Lib.hid (show ∀ x, (blkOf V = some x → w.heap.size + 2 ≤ x ∧ x < wr.heap.size) ∧ (blkOf U = some x → w.heap.size + 2 ≤ x ∧ x < wr.heap.size) from fun x => ⟨fun e => own_blk HO6.out x e, fun e => own_blk HO7.out x e⟩)
      have HO6b := Lib.hid (show (wr.alloc (.cells #[.int .u8 n.kind, .int .u64 n.s0, .int .u64 n.s1, .int .u64 n.s2, .int .u64 n.s3, .string n.text, .int .i64 n.mn, .int .i64 n.mx, .slice U ks.length uc] 56)).ownsRow (w.heap.size + 2) 56 9 (.slice V ls.length vc) ls.length (ndL.all ls) from World.ownsRow.alloc HO6.out _)
      have HNO := Lib.hid (show ∀ u ∈ ([.int .u8 n.kind, .int .u64 n.s0, .int .u64 n.s1, .int .u64 n.s2, .int .u64 n.s3, .string n.text, .int .i64 n.mn, .int .i64 n.mx, .slice U ks.length uc] : List Value), u.oneCell' = true from (fun u hu => by simp only [List.mem_cons, List.not_mem_nil, or_false] at hu; rcases hu with rfl | rfl | rfl | rfl | rfl | rfl | rfl | rfl | rfl <;> rfl))
      have HFF := Lib.hid (show ls.length + 1 ≤ maxLen ∧ (ls.length + 1) * 96 ≤ 140737488355328 ∧ w.heap.size + 2 ≤ (wr.alloc (.cells #[.int .u8 n.kind, .int .u64 n.s0, .int .u64 n.s1, .int .u64 n.s2, .int .u64 n.s3, .string n.text, .int .i64 n.mn, .int .i64 n.mx, .slice U ks.length uc] 56)).heap.size from ⟨by unfold maxLen; omega, by omega, by have h2 := HZ.out; simp; omega⟩)
      go_upto_region 24 with (fail)
      refine wp_region_list ?_
      refine wpList_val rfl (exec_move rfl rfl) ?_
      refine wpList_val rfl (exec_load rfl rfl (load9 wr w.heap.size _ _ _ _ _ _ _ _ _ _ HKN.out)) ?_
      refine wpList_val rfl (exec_build rfl rfl (build9 wr _ _ _ _ _ _ _ _ _)) ?_
      refine wpList_append_at _ rfl (.tmp 84) (.tmp 86) 22 rfl (w.heap.size + 2) 56 j0 _ 9 96 Tryd.underlying22 hj hy0 hy1 hy2 rfl (by decide) V vc ls.length (ndL.all ls) rfl HO6b.out (some ⟨wr.heap.size, 0, none⟩) 1 1 [.int .u8 n.kind, .int .u64 n.s0, .int .u64 n.s1, .int .u64 n.s2, .int .u64 n.s3, .string n.text, .int .i64 n.mn, .int .i64 n.mx, .slice U ks.length uc] rfl rfl (row_blk (bx_new wr _)) HNO.out HFF.out.1 HFF.out.2.1 HFF.out.2.2 ?_
      intro V' vc' w8 HO8 HG8 HA8
      simp only [Act.put, List.setIfInBounds_toArray, List.set_cons_zero, List.set_cons_succ]
      have HK8 := Lib.hid (show ∀ x, x < wr.heap.size → blkOf V ≠ some x → w8.heap[x]? = wr.heap[x]? from fun x h1 h3 => (HG8.out.block x (by simp; omega) (fun e => h3 e.symm)).trans (Below.heap_alloc _ _ x h1))
      have HR8 := Lib.hid ((HK8.out (w.heap.size + 1) (by have := HZ.out; omega) (fun e => by have := ((HBW.out _).1 e).1; omega)).trans HKR.out)
      obtain ⟨s1, s2, s3, s4⟩ := blk2 HR8.out
      go_wp2_with fail
      refine bodyPost_ret (v := .tuple #[.agg #[.slice V' (ls.length + 1) vc', .int .i64 (ls.length : Int)], .bool true]) (by simp [results, Tryd.results42, go_sem, s1, s2]) rfl ?_
      have hz := HZ.out
      have h8s : wr.heap.size + 1 ≤ w8.heap.size := by have h := HG8.out.size; simp at h; omega
      have hE9 : ∀ x, x ≠ w.heap.size + 1 → ((w8.setCell ⟨w.heap.size + 1, 0, none⟩ (.slice V' (ls.length + 1) vc')).setCell ⟨w.heap.size + 1, 1, none⟩ (.int .i64 (ls.length : Int))).heap[x]? = w8.heap[x]? := fun x hx => (Below.heap_setCell _ _ _ _ hx).trans (Below.heap_setCell _ _ _ _ hx)
      have hB8 : Below w.heap.size w w8 := (HB.out.alloc (by omega) _).grown HG8.out (by simp; omega) (fun x hx => by have := ((HBW.out x).1 hx).1; omega)
      have hB9 : Below w.heap.size w ((w8.setCell ⟨w.heap.size + 1, 0, none⟩ (.slice V' (ls.length + 1) vc')).setCell ⟨w.heap.size + 1, 1, none⟩ (.int .i64 (ls.length : Int))) := (hB8.setCell (p := ⟨w.heap.size + 1, 0, none⟩) (by simp) _).setCell (p := ⟨w.heap.size + 1, 1, none⟩) (by simp) _
      have hkx : ∀ x, x < wr.heap.size → w.heap.size + 2 ≤ x → blkOf V ≠ some x → ((w8.setCell ⟨w.heap.size + 1, 0, none⟩ (.slice V' (ls.length + 1) vc')).setCell ⟨w.heap.size + 1, 1, none⟩ (.int .i64 (ls.length : Int))).heap[x]? = wr.heap[x]? := fun x h1 h2 h3 => (hE9 x (by omega)).trans (HK8.out x h1 h3)
      refine ⟨⟨V', vc', ls ++ [⟨{ n with kids := li }, U, uc⟩], (ls.length : Int)⟩, ?_, ?_, ⟨?_, ?_, ?_⟩, hB9⟩
      · simp [Lt.val]
      · simp only [Lt.tr, ofT, HEQ.out, List.map_append, List.map_cons, List.map_nil, List.length_map]
      · simp; omega
      · show OwnS _ _ _ _ _ (ls ++ [_]).length _ _
        rw [List.length_append, List.length_singleton, ndL.all_append, ndL.all_one]
        have h := HO8.out
        have e : ndL.cells ⟨{ n with kids := li }, U, uc⟩ = [.int .u8 n.kind, .int .u64 n.s0, .int .u64 n.s1, .int .u64 n.s2, .int .u64 n.s3, .string n.text, .int .i64 n.mn, .int .i64 n.mx, .slice U ks.length uc] := by simp [ndL, HLI.out]
        rw [e]
        exact ((own_ownS h).agree (fun x hx _ => hE9 x (by have hx : w.heap.size + 2 ≤ x := hx; omega))).mono (fun x _ hx => by have hx : w.heap.size + 2 ≤ x := hx; omega)
      · intro l hl
        rcases List.mem_append.1 hl with hl | hl
        · have h1 := (HND.out l hl).mono (T := fun x => x < wr.heap.size ∧ w.heap.size + 2 ≤ x ∧ blkOf V ≠ some x) (fun x a b => ⟨a, b.1, b.2.1⟩)
          exact (h1.agree (fun x hy _ => hkx x hy.1 hy.2.1 hy.2.2)).mono (fun x _ hy => by omega)
        · simp only [List.mem_singleton] at hl
          subst hl
          refine ⟨?_, ?_⟩
          · obtain ⟨h1, h2, h3, h4⟩ := HN.out
            exact ⟨h1, h2, by show li.length ≤ _; rw [HLI.out]; omega, h4⟩
          · show OwnS _ _ _ 1 U li.length uc (intL.all li)
            rw [HLI.out]
            have h7 : OwnS wr (fun x => x < wr.heap.size ∧ w.heap.size + 2 ≤ x ∧ blkOf V ≠ some x) 3 1 U ks.length uc (intL.all li) := ⟨own_mono HO7.out (Nat.zero_le _), fun x hx => ⟨((HBW.out x).2 hx).2, ((HBW.out x).2 hx).1, fun e => HAP.out x e hx⟩⟩
            exact (h7.agree (fun x hy _ => hkx x hy.1 hy.2.1 hy.2.2)).mono (fun x _ hy => by omega)
end Go.Proofs.YtfncfmiccomgcaaDoor
