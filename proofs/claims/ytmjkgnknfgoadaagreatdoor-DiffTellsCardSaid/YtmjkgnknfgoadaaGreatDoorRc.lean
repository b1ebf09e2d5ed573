/- The contract of bonsairef04.Sub. -/
import Derived.Test.YtmjkgnknfgoadaaGreatDoorRa
import Derived.Test.YtmjkgnknfgoadaaGreatDoorDn
import Derived.Test.YtmjkgnknfgoadaaGreatDoorTt
namespace Go.Proofs.YtmjkgnknfgoadaaGreatDoor
open Go.RowKit
set_option linter.unusedSimpArgs false
set_option linter.unusedVariables false
def SubPost (t : Tr) (node : Nat) (w : World) (e : Ending) (w' : World) : Prop := ∃ v : Lt, e = .returned (.tuple #[v.val, .bool true]) ∧ v.tr = takenT t node ∧ TreeOwn w' (w.heap.size ≤ ·) v ∧ Below w.heap.size w w'
def SubRel1 (w : World) (A : Option Addr) (c : Nat) (ls : List Ln) (root : Int) (P : List Nat) (v6 v7 : Value) (wr : World) : Prop :=
  ∃ (o seen : List Nat) (V6 V7 : Option Addr) (c6 c7 m n : Nat), v6 = .slice V6 n c6 ∧ v7 = .slice V7 m c7 ∧ Hid (m = o.length) ∧ Hid (n = seen.length) ∧ Hid (wr.ownsRow (w.heap.size + 2) 3 1 (.slice V6 n c6) n (natsV seen)) ∧ Hid (wr.ownsRow (w.heap.size + 2) 3 1 (.slice V7 m c7) m (natsV o)) ∧ Hid (ApartB V6 V7) ∧ Hid (o.flatMap (postN (ls.map Ln.nd)) ++ seen.reverse = P) ∧
    Hid (wr.heap[w.heap.size]? = some (.cells #[.slice A ls.length c, .int .i64 root] 48 (0, 0)) ∧ wr.heap[w.heap.size + 1]? = some (.cells #[.slice none 0 0, .int .i64 0] 48 (0, 0))) ∧ Hid (Below w.heap.size w wr) ∧ Hid (w.heap.size + 2 ≤ wr.heap.size)
def SubRel2 (w1 : World) (P : List Nat) (ls : List Ln) (Z : Nat) (v10 v11 : Value) (wr : World) : Prop :=
  ∃ (k : Nat) (ls' : List Ln) (pl : List Value) (V : Option Addr) (vc : Nat), k ≤ P.length ∧ v11 = .int .i64 ((P.length : Int) - 1 - (k : Int)) ∧ v10 = .slice V k vc ∧ Hid (wr.ownsRow Z 3 1 (.slice (some ⟨Z, 0, none⟩) ls.length ls.length) ls.length pl) ∧ Hid (∀ j p, j < k → P[j]? = some p → pl[p]? = some (.int .i64 (j : Int))) ∧
    Hid (wr.ownsRow (Z + 1) 71 9 (.slice V k vc) k (ndL.all ls')) ∧ Hid (ls'.map Ln.nd = (P.take k).map (fun p => placed P (ndAt (ls.map Ln.nd) p))) ∧ Hid (∀ l ∈ ls', NdOwn wr (fun x => Z < x ∧ blkOf V ≠ some x) l) ∧ Hid (Below Z w1 wr) ∧ Hid (Z < wr.heap.size)
def SubRel3 (w3 : World) (nb : Nat) (ks : List Value) (v13 v14 : Value) (wx : World) : Prop :=
  ∃ (q : Nat) (U : Option Addr) (uc : Nat), q ≤ ks.length ∧ v14 = .int .i64 q ∧ v13 = .slice U q uc ∧ Hid (wx.ownsRow (nb + 1) 3 1 (.slice U q uc) q (ks.take q)) ∧ Hid (Below (nb + 1) w3 wx) ∧ Hid (nb + 1 ≤ wx.heap.size)
set_option maxRecDepth 100000 in
set_option maxHeartbeats 12800000 in
theorem rsub_any (A : Option Addr) (c : Nat) (ls : List Ln) (root : Int) (node : Nat) (S : Nat → Prop) (w : World) (hT : ndL.row w S A ls) (hl : ls.length ≤ 16777216) (hkl : ∀ l ∈ ls, l.nd.kids.length ≤ 4294967296) (hks : (kidsOf (ls.map Ln.nd)).length ≤ 4611686018427387904) (hr : rightP ⟨ls.map Ln.nd, root⟩) (hn : node < ls.length) :
    Calls Tryz.prog 129 #[.agg #[.slice A ls.length c, .int .i64 root], .int .i64 node] w (SubPost ⟨ls.map Ln.nd, root⟩ node w) := by
  obtain ⟨i0, hi, hz0, hz1, hz2⟩ := info_parts infoInt
  obtain ⟨j0, hj, hy0, hy1, hy2⟩ := info_parts infoNode
  have HT := Lib.hid hT; clear hT
  have HR := Lib.hid hr; clear hr
  have HPL := Lib.hid (show (postN (ls.map Ln.nd) node).length ≤ ls.length by have := post_length HR.out node (by simpa using hn); simpa using this)
  have HAH := Lib.hid (rightP_ahead HR.out)
  have HND := Lib.hid (post_nodup HR.out node (by simpa using hn))
  have HMEM := Lib.hid (show ∀ p ∈ postN (ls.map Ln.nd) node, p < ls.length from fun p hp => by have := postN_le HAH.out node p hp; omega)
  have HNE := Lib.hid (postN_ne (ls.map Ln.nd) node)
  have HRT := Lib.hid (show ∀ w', ndL.row w' S A ls → _ from fun w' h => rright_any A c ls root S w' h (by omega) hkl hks)
  rw [(rightT_iff _).2 HR.out] at HRT
  clear hkl hks
  unfold SubPost takenT takenL
  have HKB := Lib.hid (show ∀ k (hk : k < (postN (ls.map Ln.nd) node).length) z, z ∈ kidsAt (ls.map Ln.nd) (postN (ls.map Ln.nd) node)[k] → ∃ j, j < k ∧ (postN (ls.map Ln.nd) node)[j]? = some z from fun k hk z hz => kid_before HAH.out hk hz)
  have HST := Lib.hid (walk_start (l := ls.map Ln.nd) node)
  simp only
  generalize hPd : postN (ls.map Ln.nd) node = P at *
  have HPD := Lib.hid hPd
  clear hPd
  have HB0 := Lib.hid (bx2 w (.cells #[.slice A ls.length c, .int .i64 root] 48) (.cells #[.slice none 0 0, .int .i64 0] 48))
  have HK0 := Lib.hid (show ∀ w', Below ((w.alloc (.cells #[.slice A ls.length c, .int .i64 root] 48)).alloc (.cells #[.slice none 0 0, .int .i64 0] 48)).heap.size ((w.alloc (.cells #[.slice A ls.length c, .int .i64 root] 48)).alloc (.cells #[.slice none 0 0, .int .i64 0] 48)) w' → w'.heap[w.heap.size]? = some (.cells #[.slice A ls.length c, .int .i64 root] 48 (0, 0)) ∧ w'.heap[w.heap.size + 1]? = some (.cells #[.slice none 0 0, .int .i64 0] 48 (0, 0)) ∧ w.heap.size + 2 ≤ w'.heap.size from fun w' hb => by
    refine ⟨bx_kept hb (bx_old (bx_new w _)), bx_kept hb ?_, by have := hb.size; simp at this; omega⟩
    have h := bx_new (w.alloc (.cells #[.slice A ls.length c, .int .i64 root] 48)) (.cells #[.slice none 0 0, .int .i64 0] 48)
    rw [World.size_alloc] at h; exact h)
  have n1 : (node : Int) < (ls.length : Int) := by omega
  have n2 : (0 : Int) ≤ (node : Int) := by omega
  have n3 : decide ((node : Int) < 0) = false := by simp
  have n4 : decide ((ls.length : Int) ≤ (node : Int)) = false := by simp; omega
  have n5 : decide (ls.length ≤ node) = false := by simp; omega
  have n6 : ¬ ls.length ≤ node := by omega
  go_enter Tryz.func129, Tryz.ntmps129
  go_wp2_with fail
  refine (HRT.out _ (HT.out.below HB0.out)).mono ?_
  rintro e w1 ⟨rfl, hb⟩
  have HK1 := Lib.hid (HK0.out _ hb)
  have HB1 := Lib.hid (Below.step HB0.out hb)
  clear hb HB0 HK0
  obtain ⟨q1, q2, _, _⟩ := blk2 HK1.out.1
  go_wp2_with fail
  clear q1 q2
  go_loopw [6, 7] (fun v6 v7 wr => SubRel1 w A c ls root P v6 v7 wr) (fun v6 _ _ => ls.length - sliceLen v6)
  case atStart =>
    refine ⟨[node], [], none, some ⟨w1.heap.size, 0, none⟩, 0, 1, 1, 0, rfl, rfl, Lib.hid rfl, Lib.hid rfl, Lib.hid (World.ownsRow_nil _ _ _ _), Lib.hid ?_, Lib.hid (ApartB.none _), Lib.hid ?_, Lib.hid ⟨bx_old HK1.out.1, bx_old HK1.out.2.1⟩, Lib.hid (Below.step HB1.out (bx1 w1 _)), Lib.hid (by have := HK1.out.2.2; simp; omega)⟩
    · exact ⟨rfl, .inr ⟨w1.heap.size, 1, _, rfl, HK1.out.2.2, bx_new w1 _, by simp, by unfold maxLen; omega, rfl, rfl⟩⟩
    · exact HST.out
  case round =>
    clear HK1 HB1
    obtain ⟨o, seen, V6, V7, c6, c7, m, n, rfl, rfl, HM, HNN, HO6, HO7, HAP, HE, HK, HB, HZ⟩ := hrel
    have HWB := Lib.hid (walk_bound (l := ls.map Ln.nd) (j := node) (by rw [HPD.out]; exact HE.out))
    rcases List.eq_nil_or_concat o with rfl | ⟨o', i, ho⟩
    · have HEE := Lib.hid (show seen.reverse = P from walk_end (l := ls.map Ln.nd) (j := node) (by rw [HPD.out]; exact HE.out) |>.trans HPD.out)
      obtain rfl : m = 0 := HM.out
      have hnp : n = P.length := by rw [HNN.out, ← HEE.out, List.length_reverse]
      subst hnp
      have hpl := HPL.out
      have hpos := HNE.out
      obtain ⟨g, hg, hg1, hg2⟩ := own_some HO6.out (by omega)
      subst hg
      have HBK := Lib.hid (show ∀ k (h : k < P.length), (natsV seen)[P.length - 1 - k]? = some (.int .i64 (P[k] : Int)) from fun k h => by
        have e : seen = P.reverse := by rw [← HEE.out, List.reverse_reverse]
        have h2 : (P.reverse)[P.length - 1 - k]? = some P[k] := by
          rw [List.getElem?_reverse (by omega), show P.length - 1 - (P.length - 1 - k) = k by omega, List.getElem?_eq_getElem h]
        subst e
        rw [natsV, List.getElem?_map, h2]; rfl)
      obtain ⟨q1, q2, _, _⟩ := blk2 HK.out.1
      have F1 := Lib.hid (show i0.bytes * ls.length ≤ 281474976710656 ∧ ls.length ≤ maxLen from ⟨by rw [hz2]; omega, by unfold maxLen; omega⟩)
      have k1 : (1 : Int) ≤ (P.length : Int) := by omega
      go_wp2_with (at_make; refine wpList_make_full _ rfl _ _ 54 rfl wr.heap.size 3 i0 _ 1 Tryz.underlying54 hi hz0 hz1 .i64 .i64 _ _ ls.length rfl rfl rfl rfl F1.out.1 F1.out.2 (Nat.le_refl _) ?_; intro w2 hown2 hgrow2; have HO2 := Lib.hid hown2; have HB2 := Lib.hid (show Below wr.heap.size wr w2 from (Below.refl _ _).grown hgrow2 (Nat.le_refl _) (fun k e => by cases e)); clear hown2 hgrow2)
      clear q1 q2
      go_loopw [10, 11] (fun v10 v11 wx => SubRel2 wr P ls wr.heap.size v10 v11 wx) (fun _ v11 _ => (intOf v11 + 1).toNat)
      case atStart => exact ⟨0, [], _, none, 0, Nat.zero_le _, by simp, rfl, HO2, Lib.hid (fun j p h => by omega), Lib.hid (World.ownsRow_nil _ _ _ _), Lib.hid rfl, Lib.hid (by simp), HB2, Lib.hid (own_lt HO2.out).2⟩
      case round =>
        clear HO2 HB2
        obtain ⟨wo, rfl⟩ : ∃ wo : World, wo = wr := ⟨_, rfl⟩
        obtain ⟨k, ls', pl, V, vc, hk, hv, rfl, HPL1, HPLS, HO3, HLS, HOW, HB3, HZ3⟩ := hrel
        by_cases hlt : k < P.length
        · obtain ⟨d, hd⟩ : ∃ d : Nat, (P.length : Int) - 1 - (k : Int) = (d : Int) := ⟨P.length - 1 - k, by omega⟩
          rw [hd] at hv
          subst hv
          have hdd : d = P.length - 1 - k := by omega
          have HDK := Lib.hid hd
          clear hd
          have HBC := Lib.hid (HBK.out k hlt)
          rw [← hdd] at HBC
          have HDD := Lib.hid hdd
          have HKP := Lib.hid (show P[k]? = some P[k] from List.getElem?_eq_getElem hlt)
          have HKBK := Lib.hid (HKB.out k hlt)
          have hp := HMEM.out P[k] (List.getElem_mem hlt)
          have HTK := Lib.hid (show P.take (k + 1) = P.take k ++ [P[k]] from List.take_succ_eq_append_getElem hlt)
          generalize P[k] = p at *
          have d1 : (d : Int) < (P.length : Int) := by omega
          have d2 : (0 : Int) ≤ (d : Int) := by omega
          clear hdd
          have p1 : (p : Int) < (ls.length : Int) := by omega
          have p2 : (0 : Int) ≤ (p : Int) := by omega
          obtain ⟨b, o, hA, _, _, x0, x1, x2, x3, x4, x5, x6, x7, x8⟩ := ndRow (HT.out.agree (below_all HB.out)) p hp
          have hbl : b < w.heap.size := ndBlk (hA ▸ HT.out) (by omega)
          subst hA
          have HNDP := Lib.hid (show ndAt (ls.map Ln.nd) p = ls[p].nd from by simp [ndAt, List.getElem?_map, List.getElem?_eq_getElem hp])
          have HKID := Lib.hid (show kidsAt (ls.map Ln.nd) p = ls[p].nd.kids.map Int.toNat from by simp [kidsAt, List.getElem?_map, List.getElem?_eq_getElem hp])
          have HWF := Lib.hid (ndWf HT.out p hp)
          have HKR := Lib.hid (show ∀ w', Below w.heap.size w w' → intL.row w' S ls[p].A ls[p].nd.kids from fun w' h => ndSub (HT.out.agree (below_all h)) p hp)
          have HKL := Lib.hid (show ls[p].nd.kids.length ≤ p from right_kids_len HR.out (i := p) (n := ls[p].nd) (by simp only; rw [List.getElem?_map, List.getElem?_eq_getElem hp]; rfl))
          have HKZ := Lib.hid (show ∀ z ∈ ls[p].nd.kids, 0 ≤ z ∧ z < (p : Int) from fun z hz => rightP_kid HR.out (i := p) (n := ls[p].nd) (by simp only; rw [List.getElem?_map, List.getElem?_eq_getElem hp]; rfl) hz)
          generalize ls[p] = x at *
          have HS15 := Lib.hid (show ∀ w', Below wr.heap.size wr w' → w'.cell? ⟨w.heap.size, 0, none⟩ = some (.slice (some ⟨b, o, none⟩) ls.length c) ∧ w'.cell? ⟨g, d, none⟩ = some (.int .i64 (p : Int)) ∧ w'.cell? ⟨b, o + p * 9, none⟩ = some (.int .u8 x.nd.kind) ∧ w'.cell? ⟨b, o + p * 9 + 1, none⟩ = some (.int .u64 x.nd.s0) ∧ w'.cell? ⟨b, o + p * 9 + 2, none⟩ = some (.int .u64 x.nd.s1) ∧ w'.cell? ⟨b, o + p * 9 + 3, none⟩ = some (.int .u64 x.nd.s2) ∧ w'.cell? ⟨b, o + p * 9 + 4, none⟩ = some (.int .u64 x.nd.s3) ∧ w'.cell? ⟨b, o + p * 9 + 5, none⟩ = some (.string x.nd.text) ∧ w'.cell? ⟨b, o + p * 9 + 6, none⟩ = some (.int .i64 x.nd.mn) ∧ w'.cell? ⟨b, o + p * 9 + 7, none⟩ = some (.int .i64 x.nd.mx) ∧ w'.cell? ⟨b, o + p * 9 + 8, none⟩ = some (.slice x.A x.nd.kids.length x.c) from fun w' h => ⟨(h.cell (by show w.heap.size < _; omega)).trans (blk2 HK.out.1).1, (h.cell (by show g < _; omega)).trans (own_cell HO6.out d (by omega) HBC.out), (h.cell (by exact cellLt x0)).trans x0, (h.cell (by exact cellLt x1)).trans x1, (h.cell (by exact cellLt x2)).trans x2, (h.cell (by exact cellLt x3)).trans x3, (h.cell (by exact cellLt x4)).trans x4, (h.cell (by exact cellLt x5)).trans x5, (h.cell (by exact cellLt x6)).trans x6, (h.cell (by exact cellLt x7)).trans x7, (h.cell (by exact cellLt x8)).trans x8⟩)
          clear x0 x1 x2 x3 x4 x5 x6 x7 x8
          go_upto_region 15 with (fail)
          go_region_held3 (fun w' => w'.cell? ⟨w.heap.size, 0, none⟩ = some (.slice (some ⟨b, o, none⟩) ls.length c) ∧ w'.cell? ⟨g, d, none⟩ = some (.int .i64 (p : Int)) ∧ w'.cell? ⟨b, o + p * 9, none⟩ = some (.int .u8 x.nd.kind) ∧ w'.cell? ⟨b, o + p * 9 + 1, none⟩ = some (.int .u64 x.nd.s0) ∧ w'.cell? ⟨b, o + p * 9 + 2, none⟩ = some (.int .u64 x.nd.s1) ∧ w'.cell? ⟨b, o + p * 9 + 3, none⟩ = some (.int .u64 x.nd.s2) ∧ w'.cell? ⟨b, o + p * 9 + 4, none⟩ = some (.int .u64 x.nd.s3) ∧ w'.cell? ⟨b, o + p * 9 + 5, none⟩ = some (.string x.nd.text) ∧ w'.cell? ⟨b, o + p * 9 + 6, none⟩ = some (.int .i64 x.nd.mn) ∧ w'.cell? ⟨b, o + p * 9 + 7, none⟩ = some (.int .i64 x.nd.mx) ∧ w'.cell? ⟨b, o + p * 9 + 8, none⟩ = some (.slice x.A x.nd.kids.length x.c))
            (exact HS15.out _ (by first | exact HB3.out | exact HB3.out.drew | exact HB3.out.drew.alloc (by have := HZ3.out; show wr.heap.size ≤ wo.heap.size; omega) _))
            (fail)
          have HN3 := Lib.hid (show (wo.alloc (.cells #[.int .u8 x.nd.kind, .int .u64 x.nd.s0, .int .u64 x.nd.s1, .int .u64 x.nd.s2, .int .u64 x.nd.s3, .string x.nd.text, .int .i64 x.nd.mn, .int .i64 x.nd.mx, .slice x.A x.nd.kids.length x.c] 71)).drew.heap[wo.heap.size]? = some (.cells #[.int .u8 x.nd.kind, .int .u64 x.nd.s0, .int .u64 x.nd.s1, .int .u64 x.nd.s2, .int .u64 x.nd.s3, .string x.nd.text, .int .i64 x.nd.mn, .int .i64 x.nd.mx, .slice x.A x.nd.kids.length x.c] 71 (0, 0)) from bx_new wo _)
          have HE3 := Lib.hid (show ∀ y, y < wo.heap.size → (wo.alloc (.cells #[.int .u8 x.nd.kind, .int .u64 x.nd.s0, .int .u64 x.nd.s1, .int .u64 x.nd.s2, .int .u64 x.nd.s3, .string x.nd.text, .int .i64 x.nd.mn, .int .i64 x.nd.mx, .slice x.A x.nd.kids.length x.c] 71)).drew.heap[y]? = wo.heap[y]? from fun y hy => Below.heap_alloc wo _ y hy)
          have HB4 := Lib.hid (show Below wr.heap.size wr (wo.alloc (.cells #[.int .u8 x.nd.kind, .int .u64 x.nd.s0, .int .u64 x.nd.s1, .int .u64 x.nd.s2, .int .u64 x.nd.s3, .string x.nd.text, .int .i64 x.nd.mn, .int .i64 x.nd.mx, .slice x.A x.nd.kids.length x.c] 71)).drew from (HB3.out.alloc (by have := HZ3.out; omega) _).drew)
          have HZ4 := Lib.hid (show (wo.alloc (.cells #[.int .u8 x.nd.kind, .int .u64 x.nd.s0, .int .u64 x.nd.s1, .int .u64 x.nd.s2, .int .u64 x.nd.s3, .string x.nd.text, .int .i64 x.nd.mn, .int .i64 x.nd.mx, .slice x.A x.nd.kids.length x.c] 71)).drew.heap.size = wo.heap.size + 1 from by show (wo.alloc _).heap.size = _; simp)
          have HPL2 := Lib.hid (show (wo.alloc (.cells #[.int .u8 x.nd.kind, .int .u64 x.nd.s0, .int .u64 x.nd.s1, .int .u64 x.nd.s2, .int .u64 x.nd.s3, .string x.nd.text, .int .i64 x.nd.mn, .int .i64 x.nd.mx, .slice x.A x.nd.kids.length x.c] 71)).drew.ownsRow wr.heap.size 3 1 (.slice (some ⟨wr.heap.size, 0, none⟩) ls.length ls.length) ls.length pl from own_agree HPL1.out (fun y hy => by cases hy; exact HE3.out _ HZ3.out))
          obtain ⟨plp, hplp⟩ : ∃ u, pl[p]? = some u := ⟨_, List.getElem?_eq_getElem (show p < pl.length by have := HPL1.out.1; omega)⟩
          have c0 := own_cell HPL2.out p hp hplp
          have c1 := World.ownsRow.frozenAt HPL2.out p
          obtain ⟨_, c2, _⟩ := HS15.out _ HB4.out
          generalize (wo.alloc (.cells #[.int .u8 x.nd.kind, .int .u64 x.nd.s0, .int .u64 x.nd.s1, .int .u64 x.nd.s2, .int .u64 x.nd.s3, .string x.nd.text, .int .i64 x.nd.mn, .int .i64 x.nd.mx, .slice x.A x.nd.kids.length x.c] 71)).drew = W3 at *
          have HNB := Lib.hid HZ3.out
          have HBW3 := Lib.hid (show Below wr.heap.size wo W3 from ⟨HB4.out.os.trans HB3.out.os.symm, HB4.out.tape.trans HB3.out.tape.symm, HB4.out.output.trans HB3.out.output.symm, by have := HZ4.out; omega, fun y hy => HE3.out y (by have := HZ3.out; omega)⟩)
          generalize hnb : wo.heap.size = nb at *
          have HNBE := Lib.hid hnb
          clear hnb
          go_upto_region 17 with (fail)
          have HPL4 := Lib.hid (World.ownsRow.stored HPL2.out p (.int .i64 (k : Int))).1
          have HE4 := Lib.hid (show ∀ y, y ≠ wr.heap.size → (W3.setCell ⟨wr.heap.size, p, none⟩ (.int .i64 (k : Int))).heap[y]? = W3.heap[y]? from fun y hy => Below.heap_setCell _ _ _ _ hy)
          have HZ5 := Lib.hid (show (W3.setCell ⟨wr.heap.size, p, none⟩ (.int .i64 (k : Int))).heap.size = nb + 1 from by have := HZ4.out; simpa using this)
          have HB5 := Lib.hid (show Below wr.heap.size wr (W3.setCell ⟨wr.heap.size, p, none⟩ (.int .i64 (k : Int))) from HB4.out.setCell (p := ⟨wr.heap.size, p, none⟩) (Nat.le_refl _) _)
          clear c0 c1 c2 HPL2
          generalize W3.setCell ⟨wr.heap.size, p, none⟩ (.int .i64 (k : Int)) = W4 at *
          have HN4 := Lib.hid ((HE4.out nb (by have := HNB.out; omega)).trans HN3.out)
          have HPLK := Lib.hid (show ∀ z : Nat, z < p → z ∈ kidsAt (ls.map Ln.nd) p → (pl.set p (.int .i64 (k : Int)))[z]? = some (.int .i64 ((P.idxOf z : Nat) : Int)) from fun z hzp hz => by
            obtain ⟨j, hjk, hj⟩ := HKBK.out z hz
            rw [List.getElem?_set_ne (by omega), idx_of HND.out hj]
            exact HPLS.out j z hjk hj)
          go_wp2_with fail
          have hkl : x.nd.kids.length ≤ 16777216 := by have := HKL.out; omega
          have hksl : (intL.all (placed P x.nd).kids).length = x.nd.kids.length := by rw [intL.all_length]; show (x.nd.kids.map _).length * 1 = _; simp
          have HKSL := Lib.hid hksl; clear hksl
          go_loopw [13, 14] (fun v13 v14 wx => SubRel3 W4 nb (intL.all (placed P x.nd).kids) v13 v14 wx) (fun _ v14 _ => x.nd.kids.length - (intOf v14).toNat)
          case atStart => exact ⟨0, none, 0, Nat.zero_le _, rfl, rfl, Lib.hid (World.ownsRow_nil _ _ _ _), Lib.hid (Below.refl _ _), Lib.hid (by have := HZ5.out; omega)⟩
          case round =>
            obtain ⟨wx, rfl⟩ : ∃ wx : World, wx = wr := ⟨_, rfl⟩
            obtain ⟨q, U, uc, hq, rfl, rfl, HU, HBX, HZX⟩ := hrel
            rw [HKSL.out] at hq
            have HNX := Lib.hid ((HBX.out.block nb (by omega)).trans HN4.out)
            obtain ⟨_, _, _, _, _, _, _, _, y8, _, _, _, _, _, _, _, _, z8⟩ := blk9 HNX.out
            by_cases hql : q < x.nd.kids.length
            · obtain ⟨kb, ko, hkA, _, hkb, y0⟩ := intRow (HKR.out wx (HB.out.trans ((HB5.out.mono (by have := HB.out.size; omega)).trans (HBX.out.mono (by have := HB.out.size; have := HNB.out; omega))))) q hql
              have HZQ := Lib.hid (HKZ.out x.nd.kids[q] (List.getElem_mem hql))
              have HKM := Lib.hid (show x.nd.kids[q].toNat ∈ kidsAt (ls.map Ln.nd) p from by rw [HKID.out]; exact List.mem_map.2 ⟨_, List.getElem_mem hql, rfl⟩)
              have HTQ := Lib.hid (show (intL.all (placed P x.nd).kids).take (q + 1) = (intL.all (placed P x.nd).kids).take q ++ [.int .i64 ((P.idxOf x.nd.kids[q].toNat : Nat) : Int)] from by
                rw [List.take_succ_eq_append_getElem (by rw [HKSL.out]; exact hql)]
                congr 1
                simp [intL_all, placed])
              generalize x.nd.kids[q] = z at *
              obtain ⟨zz, rfl⟩ := Int.eq_ofNat_of_zero_le HZQ.out.1
              have hzp : zz < p := by have := HZQ.out.2; omega
              simp only [Int.toNat_natCast] at HKM HTQ
              have c0 := own_cell (own_agree HPL4.out (fun y hy => by cases hy; exact HBX.out.block wr.heap.size (by have := HNB.out; omega))) zz (by omega) (HPLK.out zz hzp HKM.out)
              rw [hkA] at y8
              clear hkA
              have i3 : (q : Int) < (x.nd.kids.length : Int) := by omega
              have i4 : (0 : Int) ≤ (q : Int) := by omega
              have i5 : (zz : Int) < (ls.length : Int) := by omega
              have i6 : (0 : Int) ≤ (zz : Int) := by omega
              generalize P.idxOf zz = jz at *
              have F4 := Lib.hid (show q + 1 ≤ maxLen ∧ (q + 1) * 8 ≤ 140737488355328 ∧ nb + 1 ≤ (wx.alloc (.cells #[.int .i64 (jz : Int)] 3)).heap.size from ⟨by unfold maxLen; omega, by omega, by have := HZX.out; simp; omega⟩)
              go_wp2_with (at_builtin; refine wpList_append_at _ rfl (.tmp 92) (.tmp 101) 54 rfl (nb + 1) 3 i0 (.int .i64 0) 1 8 Tryz.underlying54 hi hz0 hz1 hz2 rfl (by decide) U uc q ((intL.all (placed P x.nd).kids).take q) rfl (World.ownsRow.alloc HU.out _) (some ⟨wx.heap.size, 0, none⟩) 1 1 [.int .i64 (jz : Int)] rfl rfl (row_blk (bx_new wx _)) (fun u hu => by simp only [List.mem_singleton] at hu; subst hu; rfl) F4.out.1 F4.out.2.1 F4.out.2.2 ?_; intro U' uc' w6 HU6 HG6 HA6)
              exact ⟨⟨q + 1, U', uc', by rw [HKSL.out]; omega, by go_num, rfl, Lib.hid (by rw [HTQ.out]; exact HU6.out), Lib.hid (HBX.out.trans (((Below.refl _ wx).alloc HZX.out _).trans (below_grownA (World.ownsRow.alloc HU.out _) HG6.out (Nat.le_refl _) F4.out.2.2))), Lib.hid (by have := HG6.out.size; have := F4.out.2.2; omega)⟩, by simp [intOf]; omega⟩
            · obtain rfl : q = x.nd.kids.length := by omega
              have HX7 := Lib.hid (set_blk9 (u := (.slice U x.nd.kids.length uc)) HNX.out)
              have HE7 := Lib.hid (show ∀ y, y ≠ nb → (wx.setCell ⟨nb, 8, none⟩ (.slice U x.nd.kids.length uc)).heap[y]? = wx.heap[y]? from fun y hy => Below.heap_setCell _ _ _ _ hy)
              have HZ7 := Lib.hid (show (wx.setCell ⟨nb, 8, none⟩ (.slice U x.nd.kids.length uc)).heap.size = wx.heap.size from by simp)
              have HB7 := Lib.hid (show Below wr.heap.size wr (wx.setCell ⟨nb, 8, none⟩ (.slice U x.nd.kids.length uc)) from (HB5.out.trans (HBX.out.mono (by have := HNB.out; omega))).setCell (p := ⟨nb, 8, none⟩) (by have := HNB.out; show wr.heap.size ≤ nb; omega) _)
              go_upto_region 23 with (fail)
              generalize wx.setCell ⟨nb, 8, none⟩ (.slice U x.nd.kids.length uc) = w7 at *
              clear y8 z8
              have HCH := Lib.hid (show ∀ y, y < nb → y ≠ wr.heap.size → w7.heap[y]? = wo.heap[y]? from fun y h1 h2 => (HE7.out y (by omega)).trans ((HBX.out.block y (by omega)).trans ((HE4.out y h2).trans (HE3.out y h1))))
              have HVB := Lib.hid (show ∀ y, blkOf V = some y → wr.heap.size + 1 ≤ y ∧ y < nb from fun y hy => by have h := own_blk HO3.out y hy; have := HNBE.out; omega)
              have HO3b := Lib.hid (show (w7.alloc (.cells #[.int .u8 x.nd.kind, .int .u64 x.nd.s0, .int .u64 x.nd.s1, .int .u64 x.nd.s2, .int .u64 x.nd.s3, .string x.nd.text, .int .i64 x.nd.mn, .int .i64 x.nd.mx, .slice U x.nd.kids.length uc] 71)).ownsRow (wr.heap.size + 1) 71 9 (.slice V k vc) k (ndL.all ls') from World.ownsRow.alloc (own_agree HO3.out (fun y hy => HCH.out y ((HVB.out y hy).2) (by have := (HVB.out y hy).1; omega))) _)
              have HNO := Lib.hid (show ∀ u ∈ ([.int .u8 x.nd.kind, .int .u64 x.nd.s0, .int .u64 x.nd.s1, .int .u64 x.nd.s2, .int .u64 x.nd.s3, .string x.nd.text, .int .i64 x.nd.mn, .int .i64 x.nd.mx, .slice U x.nd.kids.length uc] : List Value), u.oneCell' = true from (fun u hu => by simp only [List.mem_cons, List.not_mem_nil, or_false] at hu; rcases hu with rfl | rfl | rfl | rfl | rfl | rfl | rfl | rfl | rfl <;> rfl))
              have HFF := Lib.hid (show k + 1 ≤ maxLen ∧ (k + 1) * 96 ≤ 140737488355328 ∧ wr.heap.size + 1 ≤ (w7.alloc (.cells #[.int .u8 x.nd.kind, .int .u64 x.nd.s0, .int .u64 x.nd.s1, .int .u64 x.nd.s2, .int .u64 x.nd.s3, .string x.nd.text, .int .i64 x.nd.mn, .int .i64 x.nd.mx, .slice U x.nd.kids.length uc] 71)).heap.size from ⟨by unfold maxLen; omega, by omega, by have h1 := HZ7.out; have h2 := HZX.out; have := HNB.out; simp; omega⟩)
              refine wp_region_list ?_
              refine wpList_val rfl (exec_move rfl rfl) ?_
              refine wpList_val rfl (exec_load rfl rfl (load9 w7 nb _ _ _ _ _ _ _ _ _ _ HX7.out)) ?_
              refine wpList_val rfl (exec_build rfl rfl (build9 w7 _ _ _ _ _ _ _ _ _)) ?_
              refine wpList_append_at _ rfl (.tmp 105) (.tmp 107) 46 rfl (wr.heap.size + 1) 71 j0 _ 9 96 Tryz.underlying46 hj hy0 hy1 hy2 rfl (by decide) V vc k (ndL.all ls') rfl HO3b.out (some ⟨w7.heap.size, 0, none⟩) 1 1 [.int .u8 x.nd.kind, .int .u64 x.nd.s0, .int .u64 x.nd.s1, .int .u64 x.nd.s2, .int .u64 x.nd.s3, .string x.nd.text, .int .i64 x.nd.mn, .int .i64 x.nd.mx, .slice U x.nd.kids.length uc] rfl rfl (row_blk (bx_new w7 _)) HNO.out HFF.out.1 HFF.out.2.1 HFF.out.2.2 ?_
              intro V' vc' w8 HO8 HG8 HA8
              simp only [Act.put, List.setIfInBounds_toArray, List.set_cons_zero, List.set_cons_succ]
              have hz7 := HZ7.out; have hzx := HZX.out; have hnb := HNB.out
              have h8s : w7.heap.size + 1 ≤ w8.heap.size := by have h := HG8.out.size; simpa using h
              have hK8 : ∀ y, y < w7.heap.size → blkOf V ≠ some y → w8.heap[y]? = w7.heap[y]? := fun y h1 h2 => (HG8.out.block y (by simp; omega) (fun e => h2 e.symm)).trans (Below.heap_alloc _ _ y h1)
              have hVV : ∀ y, y < w7.heap.size → blkOf V ≠ some y → blkOf V' ≠ some y := fun y h1 h2 e => by
                rcases HA8.out with h | h
                · exact h2 (h ▸ e)
                · rw [h] at e; injection e with e; rw [World.size_alloc] at e; omega
              have hB8 : Below wr.heap.size wr w8 := (HB7.out.alloc (by omega) _).grown HG8.out (by simp; omega) (fun y hy => by have := (HVB.out y hy).1; omega)
              have hZV : blkOf V ≠ some wr.heap.size := fun e => by have := (HVB.out _ e).1; omega
              have HQ8 := Lib.hid (And.intro hK8 (And.intro hVV (And.intro hB8 (And.intro hZV h8s))))
              clear hK8 hVV hB8 hZV h8s
              go_wp2_with fail
              obtain ⟨hK8, hVV, hB8, hZV, h8s⟩ := HQ8.out
              refine ⟨⟨k + 1, ls' ++ [⟨placed P x.nd, U, uc⟩], pl.set p (.int .i64 (k : Int)), V', vc', hlt, ?_, rfl, Lib.hid ?_, Lib.hid ?_, Lib.hid ?_, Lib.hid ?_, Lib.hid ?_, Lib.hid hB8, Lib.hid (by omega)⟩, ?_⟩
              · have := HDK.out
                congr 1; omega
              · exact own_agree HPL4.out (fun y hy => by cases hy; exact (hK8 wr.heap.size (by omega) hZV).trans ((HE7.out _ (by omega)).trans (HBX.out.block _ (by omega))))
              · intro j q hj hq
                by_cases e : j = k
                · subst e
                  rw [HKP.out] at hq; cases hq
                  rw [List.getElem?_set_self (by have := HPL1.out.1; omega)]
                · have h1 := HPLS.out j q (by omega) hq
                  rw [List.getElem?_set_ne (fun e2 => e ?_)]
                  · exact h1
                  · subst e2
                    exact (idx_of HND.out hq).symm.trans (idx_of HND.out HKP.out)
              · have h := HO8.out
                rw [Lay.all_append, Lay.all_one, show ndL.cells ⟨placed P x.nd, U, uc⟩ = [.int .u8 x.nd.kind, .int .u64 x.nd.s0, .int .u64 x.nd.s1, .int .u64 x.nd.s2, .int .u64 x.nd.s3, .string x.nd.text, .int .i64 x.nd.mn, .int .i64 x.nd.mx, .slice U x.nd.kids.length uc] by simp [ndL, placed]]
                exact h
              · rw [HTK.out, List.map_append, List.map_append, HLS.out]
                simp [HNDP.out]
              · intro l hl
                rcases List.mem_append.1 hl with hl | hl
                · have h1 := (HOW.out l hl).mono (T := fun y => y < nb ∧ wr.heap.size < y ∧ blkOf V ≠ some y) (fun y a b => ⟨by have := HNBE.out; omega, b⟩)
                  exact (h1.agree (fun y hy _ => (hK8 y (by omega) hy.2.2).trans (HCH.out y hy.1 (by omega)))).mono (fun y _ hy => ⟨hy.2.1, hVV y (by omega) hy.2.2⟩)
                · simp only [List.mem_singleton] at hl
                  subst hl
                  refine ⟨placed_wf HWF.out, ?_⟩
                  have hkl2 : (placed P x.nd).kids.length = x.nd.kids.length := by simp [placed]
                  show OwnS w8 _ _ 1 U (placed P x.nd).kids.length uc (intL.all (placed P x.nd).kids)
                  have h7 : OwnS wx (fun y => nb + 1 ≤ y ∧ y < wx.heap.size) 3 1 U x.nd.kids.length uc (intL.all (placed P x.nd).kids) := by
                    have h := HU.out
                    rw [List.take_of_length_le (by rw [HKSL.out]; exact Nat.le_refl _)] at h
                    exact ⟨own_mono h (Nat.zero_le _), fun y hy => own_blk h y hy⟩
                  rw [hkl2]
                  have hVn : ∀ y, nb + 1 ≤ y → blkOf V ≠ some y := fun y h e => by have := (HVB.out y e).2; omega
                  exact (h7.agree (fun y hy _ => (hK8 y (by omega) (hVn y hy.1)).trans (HE7.out y (by omega)))).mono (fun y _ hy => ⟨by omega, hVV y (by omega) (hVn y hy.1)⟩)
              · simp [intOf]
        · obtain rfl : k = P.length := by omega
          rw [show (P.length : Int) - 1 - (P.length : Int) = -1 by omega] at hv
          subst hv
          have HKO := Lib.hid ((HB3.out.block (w.heap.size + 1) (by have := HZ.out; omega)).trans HK.out.2)
          obtain ⟨s1, s2, s3, s4⟩ := blk2 HKO.out
          have HRS := Lib.hid (show ∀ y, y ≠ w.heap.size + 1 → ((wo.setCell ⟨w.heap.size + 1, 0, none⟩ (.slice V P.length vc)).setCell ⟨w.heap.size + 1, 1, none⟩ (.int .i64 ((P.length : Int) - 1))).heap[y]? = wo.heap[y]? from fun y hy => (Below.heap_setCell _ _ _ _ hy).trans (Below.heap_setCell _ _ _ _ hy))
          have HLL := Lib.hid (show ls'.length = P.length from by have h := congrArg List.length HLS.out; rw [List.length_map, List.length_map, List.length_take, Nat.min_self] at h; exact h)
          have HBF := Lib.hid (show Below w.heap.size w ((wo.setCell ⟨w.heap.size + 1, 0, none⟩ (.slice V P.length vc)).setCell ⟨w.heap.size + 1, 1, none⟩ (.int .i64 ((P.length : Int) - 1))) from ((HB.out.trans (HB3.out.mono HB.out.size)).setCell (p := ⟨w.heap.size + 1, 0, none⟩) (by simp) _).setCell (p := ⟨w.heap.size + 1, 1, none⟩) (by simp) _)
          go_wp2_with fail
          refine bodyPost_ret (v := .tuple #[.agg #[.slice V P.length vc, .int .i64 ((P.length : Int) - 1)], .bool true]) (by simp [results, Tryz.results129, go_sem, s1, s2]) rfl ?_
          have hz := HZ.out
          refine ⟨⟨V, vc, ls', (P.length : Int) - 1⟩, by simp only [Lt.val]; rw [HLL.out], ?_, ⟨by show ls'.length ≤ _; rw [HLL.out]; omega, ?_, fun l hl => ?_⟩, HBF.out⟩
          · show Tr.mk (ls'.map Ln.nd) _ = _
            rw [HLS.out, List.take_length]
          · show OwnS _ _ _ 9 V ls'.length vc (ndL.all ls')
            rw [HLL.out]
            exact ⟨own_agree (own_mono HO3.out (Nat.zero_le _)) (fun y hy => HRS.out y (by have := (own_blk HO3.out y hy).1; omega)), fun y hy => by have := (own_blk HO3.out y hy).1; show w.heap.size ≤ y; omega⟩
          · exact ((HOW.out l hl).agree (fun y hy _ => HRS.out y (by have := hy.1; omega))).mono (fun y _ hy => by have := hy.1; show w.heap.size ≤ y; omega)
    · rw [List.concat_eq_append] at ho; subst ho
      have hil : i < ls.length := by have := (walk_mem HAH.out (by rw [HPD.out]; exact HE.out)).1 i (by simp); omega
      obtain ⟨m', rfl⟩ : ∃ m', m = m' + 1 := ⟨o'.length, by rw [HM.out]; simp⟩
      have HM' := Lib.hid (show m' = o'.length by have := HM.out; simp at this; exact this)
      obtain ⟨g, hg, hg1, hg2⟩ := own_some HO7.out (by omega)
      subst hg
      have c0 := own_cell HO7.out m' (by omega) (u := .int .i64 (i : Int)) (by rw [HM'.out]; simp [natsV])
      have hmb : m' + 1 + n ≤ ls.length := by have h1 := HWB.out; rw [HPD.out] at h1; have h2 := HPL.out; have h3 := HM.out; have h4 := HNN.out; omega
      have HKV := Lib.hid (show intL.all ls[i].nd.kids = natsV (kidsAt (ls.map Ln.nd) i) by
        have := kids_nats (ls.map Ln.nd) i (by simpa using hil) (fun k hk => (rightP_kid HR.out (i := i) (n := (ls.map Ln.nd)[i]'(by simpa using hil)) (List.getElem?_eq_getElem _) hk).1)
        simpa using this)
      have hkn : (kidsAt (ls.map Ln.nd) i).length = ls[i].nd.kids.length := by simp [kidsAt, List.getElem?_eq_getElem hil]
      have HE2 := Lib.hid (walk_step HAH.out (j := node) (by rw [HPD.out]; exact HE.out))
      have hmk : m' + ls[i].nd.kids.length + (n + 1) ≤ ls.length := by
        have h1 := walk_bound HE2.out; rw [HPD.out] at h1; have h2 := HPL.out; have h3 := HM'.out; have h4 := HNN.out
        simp only [List.length_append, hkn, List.length_singleton] at h1; omega
      have HKN := Lib.hid hkn; clear hkn
      have i1 : (i : Int) < (ls.length : Int) := by omega
      have i2 : (0 : Int) ≤ (i : Int) := by omega
      have hcap := own_cap HO7.out
      have e3 : (m' : Int) ≤ (c7 : Int) := by omega
      have e4 : (0 : Int) ≤ (m' : Int) := by omega
      have e1 : IntKind.i64.wrap ((m' : Int) + 1 - 1) = (m' : Int) := by rw [IntWalk.i64_in _ (by omega)]; omega
      have e5 : IntKind.i64.wrap (m' : Int) = (m' : Int) := IntWalk.i64_in _ (by omega)
      have HCUT := Lib.hid (show wr.ownsRow (w.heap.size + 2) 3 1 (.slice (some ⟨g, 0, none⟩) m' c7) m' (natsV o') by
        have := own_cut HO7.out (m := m') (by omega)
        rw [natsV_append, Nat.mul_one, List.take_left' (by rw [natsV_length]; exact HM'.out.symm)] at this
        exact this)
      have HO6b := Lib.hid (show (wr.alloc (.cells #[.int .i64 (i : Int)] 3)).ownsRow (w.heap.size + 2) 3 1 (.slice V6 n c6) n (natsV seen) from World.ownsRow.alloc HO6.out _)
      have F2 := Lib.hid (show n + 1 ≤ maxLen ∧ (n + 1) * 8 ≤ 140737488355328 ∧ w.heap.size + 2 ≤ (wr.alloc (.cells #[.int .i64 (i : Int)] 3)).heap.size from ⟨by unfold maxLen; omega, by omega, by have := HZ.out; simp; omega⟩)
      have F3 := Lib.hid (show m' + ls[i].nd.kids.length ≤ maxLen ∧ (m' + ls[i].nd.kids.length) * 8 ≤ 140737488355328 from ⟨by unfold maxLen; omega, by omega⟩)
      obtain ⟨b, o, hA, _, _, _, _, _, _, _, _, _, _, x8⟩ := ndRow (HT.out.agree (below_all HB.out)) i hil
      have hbl : b < w.heap.size := ndBlk (hA ▸ HT.out) (by omega)
      subst hA
      have HS2 := Lib.hid (show ∀ w', Below (w.heap.size + 2) wr w' → w'.cell? ⟨w.heap.size, 0, none⟩ = some (.slice (some ⟨b, o, none⟩) ls.length c) ∧ w'.cell? ⟨b, o + i * 9 + 8, none⟩ = some (.slice ls[i].A ls[i].nd.kids.length ls[i].c) from
        fun w' hb => ⟨(hb.cell (by show w.heap.size < _; omega)).trans (blk2 HK.out.1).1, (hb.cell (by show b < _; omega)).trans x8⟩)
      have HKR := Lib.hid (show ∀ w', Below w.heap.size w w' → intL.row w' S ls[i].A ls[i].nd.kids from fun w' h => ndSub (HT.out.agree (below_all h)) i hil)
      clear x8
      go_wp2_with (first
        | (at_builtin; refine wpList_append_at _ rfl (.tmp 46) (.tmp 48) 54 rfl (w.heap.size + 2) 3 i0 (.int .i64 0) 1 8 Tryz.underlying54 hi hz0 hz1 hz2 rfl (by decide) V6 c6 n (natsV seen) rfl HO6b.out (some ⟨wr.heap.size, 0, none⟩) 1 1 (natsV [i]) rfl (by simp [natsV]) (row_blk (bx_new wr _)) (natsV_one _) F2.out.1 F2.out.2.1 F2.out.2.2 ?_; intro V' vc' w2 HO2 HG2 HA2; have HB2 := Lib.hid (show Below (w.heap.size + 2) wr w2 from ((Below.refl _ wr).alloc HZ.out _).trans (below_grownA HO6b.out HG2.out (Nat.le_refl _) F2.out.2.2)); have HB2w := Lib.hid (show Below w.heap.size w w2 from HB.out.trans (HB2.out.mono (by omega))); have HC2 := Lib.hid (kept_apart (World.ownsRow.alloc HCUT.out _) HG2.out HAP.out); have HZ2 := Lib.hid (show w.heap.size + 2 ≤ w2.heap.size from Nat.le_trans HZ.out HB2.out.size); obtain ⟨p1, p8⟩ := HS2.out w2 HB2.out)
        | (at_builtin; refine wpList_append_at _ rfl (.tmp 50) (.tmp 56) 54 rfl (w.heap.size + 2) 3 i0 (.int .i64 0) 1 8 Tryz.underlying54 hi hz0 hz1 hz2 rfl (by decide) (some ⟨g, 0, none⟩) c7 m' (natsV o') rfl HC2.out ls[i].A ls[i].nd.kids.length ls[i].c (intL.all ls[i].nd.kids) rfl (by rw [intL.all_length]; rfl) (HKR.out _ HB2w.out).rowAt (intL.all_one' _) F3.out.1 F3.out.2 HZ2.out ?_; intro V'' vc'' w3 HO3 HG3 HA3)
        | fail)
      have HB3 := Lib.hid (show Below (w.heap.size + 2) wr w3 from HB2.out.trans (below_grownA HC2.out HG3.out (Nat.le_refl _) HZ2.out))
      have HA := Lib.hid (show ApartB V' (some ⟨g, 0, none⟩) from HAP.out.grown (n := (wr.alloc (.cells #[.int .i64 (i : Int)] 3)).heap.size) (fun k hk => by have := (own_blk HO7.out k hk).2; simp; omega) HA2.out)
      refine ⟨⟨o' ++ kidsAt (ls.map Ln.nd) i, seen ++ [i], V', V'', vc', vc'', _, _, rfl, rfl, Lib.hid (by rw [List.length_append, HKN.out, HM'.out]), Lib.hid (by rw [List.length_append, HNN.out]; rfl), Lib.hid ?_, Lib.hid ?_, Lib.hid ?_, Lib.hid ?_, Lib.hid ⟨(HB3.out.block _ (by omega)).trans HK.out.1, (HB3.out.block _ (by omega)).trans HK.out.2⟩, Lib.hid (HB.out.trans (HB3.out.mono (by omega))), Lib.hid (Nat.le_trans HZ.out HB3.out.size)⟩, by simp only [sliceLen]; omega⟩
      · rw [natsV_append]
        exact kept_apart HO2.out HG3.out HA.out.symm
      · rw [natsV_append, ← HKV.out]; exact HO3.out
      · exact (HA.out.symm.grown (n := w2.heap.size) (fun k hk => (own_blk HO2.out k hk).2) HA3.out).symm
      · have h := HE2.out
        rw [HPD.out] at h; exact h
end Go.Proofs.YtmjkgnknfgoadaaGreatDoor
/- The contracts of bonsairef04.Clean and bonsairef04.Of. -/
namespace Go.Proofs.YtmjkgnknfgoadaaGreatDoor
open Go.RowKit
set_option linter.unusedSimpArgs false
set_option linter.unusedVariables false
set_option maxRecDepth 100000 in
set_option maxHeartbeats 3200000 in
theorem rclean_any (A : Option Addr) (c : Nat) (ls : List Ln) (root : Nat) (S : Nat → Prop) (w : World) (hT : ndL.row w S A ls) (hl : ls.length ≤ 16777216) (hkl : ∀ l ∈ ls, l.nd.kids.length ≤ 4294967296) (hks : (kidsOf (ls.map Ln.nd)).length ≤ 4611686018427387904) (hr : rightP ⟨ls.map Ln.nd, root⟩) :
    Calls Tryz.prog 114 #[.agg #[.slice A ls.length c, .int .i64 root]] w (TreePost (takenT ⟨ls.map Ln.nd, root⟩ root) w) := by
  have hn : root < ls.length := by have h := hr.1.2; simp only [List.length_map] at h; omega
  have HB0 := Lib.hid (bx2 w (.cells #[.slice A ls.length c, .int .i64 root] 48) (.cells #[.slice none 0 0, .int .i64 0] 48))
  have HC := Lib.hid (rsub_any A c ls root root S _ (hT.below HB0.out) hl hkl hks hr hn)
  have HK0 := Lib.hid (show ∀ w', Below ((w.alloc (.cells #[.slice A ls.length c, .int .i64 root] 48)).alloc (.cells #[.slice none 0 0, .int .i64 0] 48)).heap.size ((w.alloc (.cells #[.slice A ls.length c, .int .i64 root] 48)).alloc (.cells #[.slice none 0 0, .int .i64 0] 48)) w' → w'.heap[w.heap.size + 1]? = some (.cells #[.slice none 0 0, .int .i64 0] 48 (0, 0)) ∧ w.heap.size + 2 ≤ w'.heap.size from fun w' hb => by
    refine ⟨bx_kept hb ?_, by have := hb.size; simp at this; omega⟩
    have h := bx_new (w.alloc (.cells #[.slice A ls.length c, .int .i64 root] 48)) (.cells #[.slice none 0 0, .int .i64 0] 48)
    rw [World.size_alloc] at h; exact h)
  have HSZ := Lib.hid (show ∀ x, ((w.alloc (.cells #[.slice A ls.length c, .int .i64 root] 48)).alloc (.cells #[.slice none 0 0, .int .i64 0] 48)).heap.size ≤ x ↔ w.heap.size + 2 ≤ x from fun x => by simp)
  clear hT hkl hks hr
  unfold TreePost
  go_enter Tryz.func114, Tryz.ntmps114
  go_wp2_with fail
  refine HC.out.mono ?_
  rintro e w1 ⟨⟨A1, c1, l1, r1⟩, he, htr, hto, hb⟩
  simp only [Lt.val] at he; subst he
  have HTR := Lib.hid htr; have HTO := Lib.hid hto; have HB1 := Lib.hid (Below.step HB0.out hb); have HK1 := Lib.hid (HK0.out _ hb)
  clear htr hto hb HB0 HK0 HC
  have HN := Lib.hid (bx_new w1 (.cells #[.slice A1 l1.length c1, .int .i64 r1] 48))
  obtain ⟨q1, q2, _, _⟩ := blk2 HN.out
  obtain ⟨t1, t2, t3, t4⟩ := blk2 (bx_old (p := .cells #[.slice A1 l1.length c1, .int .i64 r1] 48) HK1.out.1)
  go_wp2_with fail
  refine bodyPost_ret (v := .agg #[.slice A1 l1.length c1, .int .i64 r1]) (by simp [results, Tryz.results114, go_sem, t1, t2]) rfl ?_
  refine ⟨⟨A1, c1, l1, r1⟩, rfl, HTR.out, ?_, ((HB1.out.alloc (by have := HK1.out.2; omega) _).setCell (p := ⟨w.heap.size + 1, 0, none⟩) (by simp) _).setCell (p := ⟨w.heap.size + 1, 1, none⟩) (by simp) _⟩
  have h := HTO.out.below (bx1 w1 (.cells #[.slice A1 l1.length c1, .int .i64 r1] 48))
  refine (h.agree (fun x hx _ => ?_)).mono (fun x _ hx => ?_)
  · have hx := (HSZ.out x).1 hx
    exact (Below.heap_setCell _ _ _ _ (by show x ≠ w.heap.size + 1; omega)).trans (Below.heap_setCell _ _ _ _ (by show x ≠ w.heap.size + 1; omega))
  · have hx := (HSZ.out x).1 hx
    show w.heap.size ≤ x; omega
end Go.Proofs.YtmjkgnknfgoadaaGreatDoor
