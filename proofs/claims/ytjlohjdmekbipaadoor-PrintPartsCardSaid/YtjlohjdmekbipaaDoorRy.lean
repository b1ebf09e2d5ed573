/- The contract of tree.Kids (for a tree that is right). -/
import Derived.Test.YtjlohjdmekbipaaDoorRw
import Derived.Test.YtjlohjdmekbipaaDoorRm
import Derived.Test.YtjlohjdmekbipaaDoorHe
namespace Go.Proofs.YtjlohjdmekbipaaDoor
open Go.RowKit
set_option linter.unusedSimpArgs false
set_option linter.unusedVariables false

/-! ### pieces of a row of nodes -/
def offL (TL : List (List Nd)) (j : Nat) : Nat := ((TL.take j).map List.length).sum
theorem offL_next (TL : List (List Nd)) (j : Nat) (h : j < TL.length) : offL TL (j + 1) = offL TL j + TL[j].length := by
  unfold offL
  rw [List.take_succ_eq_append_getElem h, List.map_append, List.sum_append]
  simp only [List.map_cons, List.map_nil, List.sum_cons, List.sum_nil, Nat.add_zero]
theorem catN_length : ∀ (off : Nat) (TL : List (List Nd)), (catN off TL).length = offL TL TL.length
  | _, [] => rfl
  | off, t :: ts => by
    simp only [catN, List.length_append, List.length_map, List.length_cons, offL, List.take_succ_cons, List.map_cons, List.sum_cons]
    rw [catN_length]; rfl
theorem endsN_length : ∀ (off : Nat) (TL : List (List Nd)), (endsN off TL).length = TL.length
  | _, [] => rfl
  | off, t :: ts => by simp only [endsN, List.length_cons, endsN_length]
theorem endsN_at : ∀ (off : Nat) (TL : List (List Nd)) (j : Nat) (h : j < TL.length) (h2 : j < (endsN off TL).length), (endsN off TL)[j] = ((off + offL TL (j + 1) : Nat) : Int) - 1
  | _, [], _, h, _ => by simp at h
  | off, t :: ts, 0, _, _ => by simp [endsN, offL]
  | off, t :: ts, j + 1, h, h2 => by
    have ih := endsN_at (off + t.length) ts j (by simpa using h) (by simpa [endsN] using h2)
    simp only [endsN, List.getElem_cons_succ, ih, offL, List.take_succ_cons, List.map_cons, List.sum_cons]
    omega
theorem catN_piece : ∀ (off : Nat) (TL : List (List Nd)) (j : Nat) (h : j < TL.length) (suf : List Nd), ((catN off TL ++ suf).drop (offL TL j)).take TL[j].length = TL[j].map (shiftN (off + offL TL j))
  | _, [], _, h, _ => by simp at h
  | off, t :: ts, 0, _, suf => by
    simp only [catN, offL, List.take_zero, List.map_nil, List.sum_nil, List.drop_zero, List.getElem_cons_zero, Nat.add_zero, List.append_assoc]
    rw [List.take_left' (by simp)]
  | off, t :: ts, j + 1, h, suf => by
    have ih := catN_piece (off + t.length) ts j (by simpa using h) suf
    have e : offL (t :: ts) (j + 1) = (t.map (shiftN off)).length + offL ts j := by simp [offL]
    rw [e, catN, List.append_assoc, ← List.drop_drop, List.drop_left, List.getElem_cons_succ, ih]
    rw [List.length_map, Nat.add_assoc]
theorem offL_le (TL : List (List Nd)) (j : Nat) (h : j < TL.length) : offL TL (j + 1) ≤ offL TL TL.length := by
  have e : TL = TL.take (j + 1) ++ TL.drop (j + 1) := (List.take_append_drop _ _).symm
  have h1 : offL TL TL.length = (TL.map List.length).sum := by unfold offL; rw [List.take_length]
  rw [h1, show (TL.map List.length).sum = ((TL.take (j + 1) ++ TL.drop (j + 1)).map List.length).sum by rw [← e], List.map_append, List.sum_append]
  unfold offL; omega
theorem move_shift (m : Nat) (n : Nd) : moveN (-(m : Int)) (shiftN m n) = n := by
  obtain ⟨k, a, b, c, d, t, x, y, ks⟩ := n
  simp only [moveN, shiftN, List.map_map]
  congr 1
  rw [show ((fun z => z + -(m : Int)) ∘ fun z => z + (m : Int)) = id from by funext z; simp; omega, List.map_id]
theorem add_add (b o x j : Nat) : (⟨b, o, none⟩ : Addr).add (x + j) = (⟨b, o + x, none⟩ : Addr).add j := by
  unfold Addr.add
  by_cases hj : j = 0
  · by_cases hx : x = 0
    · subst hj; subst hx; rfl
    · subst hj; simp [hx]
  · simp [hj, Nat.add_assoc]
theorem row_piece {α : Type} (L : Lay α) {w : World} {S : Nat → Prop} {b o : Nat} {l : List α} (h : L.row w S (some ⟨b, o, none⟩) l) (m n : Nat) (hmn : m + n ≤ l.length) (hn : 0 < n) (h0 : 0 < L.size) : L.row w S (some ⟨b, o + m * L.size, none⟩) ((l.drop m).take n) := by
  have e : L.all l = L.all (l.take m) ++ (L.all ((l.drop m).take n) ++ L.all ((l.drop m).drop n)) := by
    rw [← L.all_append, ← L.all_append, List.take_append_drop, List.take_append_drop]
  have hl : (L.all (l.take m)).length = m * L.size := by rw [L.all_length, List.length_take]; congr 1; omega
  have hS : S b := by
    have := h.1.2 (by intro e; have := congrArg List.length e; rw [L.all_length, List.length_nil, Nat.mul_eq_zero] at this; omega) _ rfl
    exact this
  refine ⟨⟨fun j u hu => ?_, fun hne ad e => by cases e; exact hS⟩, fun x hx => h.2 x (List.mem_of_mem_drop (List.mem_of_mem_take hx))⟩
  have hj := (List.getElem?_eq_some_iff.1 hu).1
  have h2 : (L.all l)[m * L.size + j]? = some u := by
    rw [e, List.getElem?_append_right (by omega), hl, Nat.add_sub_cancel_left, List.getElem?_append_left hj]; exact hu
  obtain ⟨ad, e2, hc⟩ := h.1.1 _ _ h2
  cases e2
  exact ⟨_, rfl, by rw [← add_add]; exact hc⟩

def KidsPost (ks : List Tr) (w : World) (e : Ending) (w' : World) : Prop := ∃ (V : Option Addr) (vc : Nat) (l : List Lt), e = .returned (.slice V l.length vc) ∧ l.map Lt.tr = ks ∧ ttL.row w' (w.heap.size ≤ ·) V l ∧ Below w.heap.size w w'
def KidsRel (w : World) (W : World) (t : Tr) (T : List Nat) (TL : List (List Nd)) (v3 v4 v21 : Value) (wr : World) : Prop :=
  ∃ (j : Nat) (V : Option Addr) (vc : Nat) (ks : List Lt), j ≤ T.length ∧ v21 = .int .i64 j ∧ v3 = .slice V j vc ∧ v4 = .int .i64 (offL TL j : Nat) ∧ Hid (ks.length = j ∧ ks.map Lt.tr = (T.take j).map (takenT t)) ∧
    Hid (wr.ownsRow W.heap.size 24 2 (.slice V j vc) j (ttL.all ks)) ∧ Hid (∀ k ∈ ks, TreeOwn wr (fun x => W.heap.size ≤ x ∧ blkOf V ≠ some x) k) ∧ Hid (Below W.heap.size W wr)

set_option maxRecDepth 100000 in
set_option maxHeartbeats 12800000 in
theorem kids_any (A : Option Addr) (c : Nat) (ls : List Ln) (root : Nat) (S : Nat → Prop) (w : World) (hT : ndL.row w S A ls) (hl : ls.length ≤ 16777216) (ht : CntTab w) (hr : rightP ⟨ls.map Ln.nd, root⟩) :
    Calls Tryd.prog 35 #[.agg #[.slice A ls.length c, .int .i64 root]] w (KidsPost ((kidsAt (ls.map Ln.nd) root).map (takenT ⟨ls.map Ln.nd, root⟩)) w) := by
  obtain ⟨j0, hji, hy0, hy1, hy2⟩ := info_parts infoTree
  have hn : root < ls.length := by have h := hr.1.2; simp only [List.length_map] at h; omega
  have hAH : Ahead (ls.map Ln.nd) := rightP_ahead hr
  have hND : (postN (ls.map Ln.nd) root).Nodup := post_nodup hr root (by simpa using hn)
  have HB0 := Lib.hid (bx1 w (.cells #[.slice A ls.length c, .int .i64 root] 24))
  have HK0 := Lib.hid (bx_new w (.cells #[.slice A ls.length c, .int .i64 root] 24))
  have HC := Lib.hid (clean_any A c ls root S _ (hT.below HB0.out) hl (ht.below HB0.out) hr)
  have HLN := Lib.hid (show (takenL (ls.map Ln.nd) root).length = ls.length from by
    have h := root_length hr
    rw [taken_length]; simpa using h)
  have HTK := Lib.hid (show ∀ n ∈ takenL (ls.map Ln.nd) root, n.kids.length ≤ ls.length ∧ ∀ z ∈ n.kids, 0 ≤ z ∧ z ≤ (ls.length : Int) from fun n h => by
    have := takenL_kids hr root (by simpa using hn) n h
    simpa using this)
  have HSP := Lib.hid (taken_split hAH hND)
  have HT1 := Lib.hid (show ∀ k ∈ kidsAt (ls.map Ln.nd) root, 1 ≤ (takenL (ls.map Ln.nd) k).length from fun k _ => by rw [taken_length]; exact postN_ne _ _)
  have HTN := Lib.hid (show ∀ k, takenT ⟨ls.map Ln.nd, (root : Int)⟩ k = ⟨takenL (ls.map Ln.nd) k, ((takenL (ls.map Ln.nd) k).length : Int) - 1⟩ from fun k => by simp only [takenT, taken_length])
  clear hT ht hr hAH hND
  generalize (⟨ls.map Ln.nd, (root : Int)⟩ : Tr) = t at *
  generalize ls.map Ln.nd = L at *
  generalize kidsAt L root = T at *
  unfold KidsPost
  go_enter Tryd.func35, Tryd.ntmps35
  go_wp2_with fail
  refine HC.out.mono ?_
  rintro e w1 ⟨⟨A1, c1, l1, r1⟩, he, htr, hto, hb⟩
  simp only [Lt.val] at he; subst he
  have HB1 := Lib.hid (Below.step HB0.out hb); have HK1 := Lib.hid (bx_kept hb HK0.out)
  have HZ1 := Lib.hid (show w.heap.size + 1 ≤ w1.heap.size from by have := hb.size; simp at this; omega)
  rw [HTN.out] at htr
  have hnd : l1.map Ln.nd = takenL L root := congrArg Tr.nodes htr
  have hr1 : r1 = ((takenL L root).length : Int) - 1 := congrArg Tr.root htr
  have hl1 : l1.length = ls.length := by have := congrArg List.length hnd; rw [List.length_map, HLN.out] at this; exact this
  rw [HLN.out] at hr1
  obtain ⟨rn, rfl⟩ : ∃ rn : Nat, r1 = (rn : Int) := ⟨ls.length - 1, by omega⟩
  have hrn : rn + 1 = l1.length := by omega
  have hpos : 0 < l1.length := by omega
  have hlb : l1.length ≤ 16777216 := by omega
  have HL1 := Lib.hid hnd; have HLL := Lib.hid hl1; have HRN := Lib.hid hrn
  have HTO := Lib.hid hto
  clear htr hto hb hnd HB0 HK0 HC hr1 hl1 hrn
  obtain ⟨s1, s2, s3, s4⟩ := blk2 HK1.out
  go_upto_region 2 with (fail)
  have HKW := Lib.hid (set_blk2' (u := .int .i64 rn) (set_blk2 (u := .slice A1 l1.length c1) HK1.out))
  have HTW := Lib.hid (show TreeOwn ((w1.setCell ⟨w.heap.size, 0, none⟩ (.slice A1 l1.length c1)).setCell ⟨w.heap.size, 1, none⟩ (.int .i64 rn)) (w.heap.size < ·) ⟨A1, c1, l1, rn⟩ from by
    refine (HTO.out.agree (fun x hx hx2 => ?_)).mono (fun x _ hx => show w.heap.size + 1 ≤ x by simpa using hx)
    have hx : w.heap.size + 1 ≤ x := by simpa using hx
    exact (Below.heap_setCell _ _ _ _ (by show x ≠ w.heap.size; omega)).trans (Below.heap_setCell _ _ _ _ (by show x ≠ w.heap.size; omega)))
  have HBW := Lib.hid (show Below w.heap.size w ((w1.setCell ⟨w.heap.size, 0, none⟩ (.slice A1 l1.length c1)).setCell ⟨w.heap.size, 1, none⟩ (.int .i64 rn)) from (HB1.out.setCell (p := ⟨w.heap.size, 0, none⟩) (Nat.le_refl _) _).setCell (p := ⟨w.heap.size, 1, none⟩) (Nat.le_refl _) _)
  generalize (w1.setCell ⟨w.heap.size, 0, none⟩ (.slice A1 l1.length c1)).setCell ⟨w.heap.size, 1, none⟩ (.int .i64 rn) = W at *
  clear s1 s2 s3 s4 HK1 HB1 HTO HZ1
  obtain ⟨s1, s2, _, _⟩ := blk2 HKW.out
  have hrl : rn < l1.length := by have := HRN.out; omega
  obtain ⟨b, o, rfl, hSb, hlt, x0, x1, x2, x3, x4, x5, x6, x7, x8⟩ := ndRow (show ndL.row W _ A1 l1 from HTW.out.inn.2) rn hrl
  have HKI := Lib.hid (HTW.out.kids l1[rn] (List.getElem_mem hrl))
  have HRK := Lib.hid (show l1[rn].nd.kids = endsN 0 (T.map (takenL L)) from by
    have h1 : (l1.map Ln.nd)[rn]? = some l1[rn].nd := by rw [List.getElem?_map, List.getElem?_eq_getElem hrl]; rfl
    rw [HL1.out, HSP.out, List.getElem?_append_right (by
      have := congrArg List.length HSP.out; rw [HLN.out, List.length_append] at this; have := HRN.out; have := HLL.out; simp at *; omega)] at h1
    have h2 : rn - (catN 0 (T.map (takenL L))).length = 0 := by
      have := congrArg List.length HSP.out; rw [HLN.out, List.length_append] at this; have := HRN.out; have := HLL.out; simp at *; omega
    rw [h2] at h1
    have h3 := Option.some.inj h1
    rw [← h3])
  have i1 : (rn : Int) < (l1.length : Int) := by have := HRN.out; omega
  have i2 : (0 : Int) ≤ (rn : Int) := by omega
  have HLK := Lib.hid (show l1[rn].nd.kids.length = T.length from by rw [HRK.out, endsN_length, List.length_map])
  have HTL := Lib.hid (show T.length ≤ l1.length from by rw [← HLK.out, HLL.out]; exact (HTK.out l1[rn].nd (by rw [← HL1.out]; exact List.mem_map.2 ⟨_, List.getElem_mem _, rfl⟩)).1)
  generalize l1[rn] = n at *
  obtain ⟨⟨kd, a0, a1, a2, a3, tx, mn, mx, ki⟩, KA, Kc⟩ := n
  simp only at x0 x1 x2 x3 x4 x5 x6 x7 x8 HRK HLK HKI
  rw [HLK.out] at x8
  clear x0 x1 x2 x3 x4 x5 x6 x7
  have h0 : ¬ l1.length = 0 := by omega
  have htl : T.length ≤ 16777216 := Nat.le_trans HTL.out hlb
  have h01 : ((l1.length : Int) == 0) = false := by rw [beq_eq_false_iff_ne]; omega
  have h02 : ¬ (l1.length : Int) = 0 := by omega
  go_wp2_with fail
  go_loopw [3, 4, 21] (fun v3 v4 v21 wr => KidsRel w W t T (T.map (takenL L)) v3 v4 v21 wr) (fun _ _ v21 _ => T.length - (intOf v21).toNat)
  case atStart => exact ⟨0, none, 0, [], Nat.zero_le _, rfl, rfl, rfl, Lib.hid ⟨rfl, rfl⟩, Lib.hid (World.ownsRow_nil _ _ _ _), Lib.hid (by simp), Lib.hid (Below.refl _ _)⟩
  case round =>
    obtain ⟨j, V, vc, ks, hj, rfl, rfl, rfl, HKS, HO, HKO, HB⟩ := hrel
    by_cases hlt : j < T.length
    · have hjT : j < (T.map (takenL L)).length := by simpa using hlt
      have i3 : (j : Int) < (T.length : Int) := by omega
      have i4 : (0 : Int) ≤ (j : Int) := by omega
      have hjk : j < ki.length := by rw [HLK.out]; exact hlt
      have HQ := Lib.hid (offL_next _ j hjT)
      have HLE := Lib.hid (show offL (T.map (takenL L)) (j + 1) + 1 ≤ l1.length from by
        have h1 := offL_le _ j hjT
        rw [← catN_length 0] at h1
        have h2 := congrArg List.length HSP.out
        rw [HLN.out, List.length_append] at h2
        have := HLL.out; simp only [List.length_singleton] at h2; omega)
      have HPC := Lib.hid (show (((l1.drop (offL (T.map (takenL L)) j)).take (T.map (takenL L))[j].length).map fun l => moveN (-((offL (T.map (takenL L)) j : Nat) : Int)) l.nd) = takenL L T[j] from by
        have h := catN_piece 0 (T.map (takenL L)) j hjT [{ ndAt L root with kids := endsN 0 (T.map (takenL L)) }]
        rw [← HSP.out, ← HL1.out, ← List.map_drop, ← List.map_take, Nat.zero_add] at h
        have h2 := congrArg (List.map (moveN (-((offL (T.map (takenL L)) j : Nat) : Int)))) h
        rw [List.map_map, List.map_map, show (moveN (-((offL (T.map (takenL L)) j : Nat) : Int)) ∘ shiftN (offL (T.map (takenL L)) j)) = id from funext (move_shift _), List.map_id] at h2
        exact h2.trans (List.getElem_map _))
      have HQL := Lib.hid (show (T.map (takenL L))[j].length = (takenL L T[j]).length from by rw [List.getElem_map])
      have HQ1 := Lib.hid (show 1 ≤ (T.map (takenL L))[j].length from by rw [HQL.out]; exact HT1.out _ (List.getElem_mem hlt))
      have HTJ := Lib.hid (show (T.take (j + 1)).map (takenT t) = (T.take j).map (takenT t) ++ [takenT t T[j]] from by
        rw [List.take_succ_eq_append_getElem hlt, List.map_append]; rfl)
      have HTNJ := Lib.hid (HTN.out T[j])
      have HKJ := Lib.hid (show ki[j] = ((offL (T.map (takenL L)) (j + 1) : Nat) : Int) - 1 from by
        have h1 : (endsN 0 (T.map (takenL L)))[j]? = some ki[j] := by rw [← HRK.out]; exact List.getElem?_eq_getElem hjk
        have h2 : j < (endsN 0 (T.map (takenL L))).length := by rw [endsN_length]; exact hjT
        rw [List.getElem?_eq_getElem h2, endsN_at 0 _ j hjT h2, Nat.zero_add] at h1
        exact (Option.some.inj h1).symm)
      obtain ⟨kb, ko, hKA, _, hkb, y0⟩ := intRow ((HKI.out.agree (below_all HB.out)).inn.2) j hjk
      subst hKA
      rw [HKJ.out, HQ.out] at y0
      rw [HQ.out] at HLE HKJ
      generalize hqq : (T.map (takenL L))[j].length = q at *
      generalize hpp : offL (T.map (takenL L)) j = p at *
      clear hqq hpp
      have hle := HLE.out; have hq1 := HQ1.out
      obtain ⟨q', rfl⟩ : ∃ q' : Nat, q = q' + 1 := ⟨q - 1, by omega⟩
      rw [show ((p + (q' + 1) : Nat) : Int) - 1 = ((p + q' : Nat) : Int) by omega] at y0
      have HCAP := Lib.hid (own_cap HTW.out.row.1)
      have hcap : l1.length ≤ c1 := HCAP.out
      have i5 : (0 : Int) ≤ (p : Int) := by omega
      have i6 : (p : Int) ≤ ((p + q' : Nat) : Int) + 1 := by omega
      have i7 : ((p + q' : Nat) : Int) + 1 ≤ (c1 : Int) := by omega
      have i8 : (0 : Int) ≤ ((p + q' : Nat) : Int) + 1 := by omega
      have i9 : (0 : Int) ≤ ((p + q' : Nat) : Int) := by omega
      obtain ⟨s1, s2, _, _⟩ := blk2 (bx_kept HB.out HKW.out)
      have HMV := Lib.hid (moved_any (some ⟨b, o + p * 9, none⟩) (c1 - p) ((l1.drop p).take (q' + 1)) (-(p : Int)) _ wr (row_piece ndL (show ndL.row wr _ (some ⟨b, o, none⟩) l1 from (HTW.out.agree (below_all HB.out)).inn.2) p (q' + 1) (by omega) (by omega) (by decide)) (by rw [List.length_take]; omega) (by rw [List.length_take, List.length_drop]; omega) (fun l hl => by
        have h1 := HTK.out l.nd (by rw [← HL1.out]; exact List.mem_map.2 ⟨l, List.mem_of_mem_drop (List.mem_of_mem_take hl), rfl⟩)
        have := h1.1; omega) (fun l hl z hz => by
        have h1 := HTK.out l.nd (by rw [← HL1.out]; exact List.mem_map.2 ⟨l, List.mem_of_mem_drop (List.mem_of_mem_take hl), rfl⟩)
        have := h1.2 z hz; omega) (by omega))
      have hln : ((l1.drop p).take (q' + 1)).length = q' + 1 := by rw [List.length_take, List.length_drop]; omega
      rw [hln] at HMV
      clear hln HQ1 HLE HCAP
      as_aux_lemma =>
        have hpq : p + q' + 1 - p = q' + 1 := by omega
        go_wp2_with fail
        rw [hpq]
        refine HMV.out.mono ?_
        rintro e w4 ⟨⟨A4, c4, l4, r4⟩, he, hl4, hto4, hb4⟩
        simp only at he; subst he
        have HL4 := Lib.hid (show l4.map Ln.nd = takenL L T[j] from hl4.trans HPC.out)
        have HN4 := Lib.hid (show l4.length = q' + 1 from by have h0 := congrArg List.length HL4.out; rw [List.length_map, ← HQL.out] at h0; exact h0)
        have HO4 := Lib.hid hto4; have HB4 := Lib.hid (Below.step HB.out hb4); have HWB4 := Lib.hid hb4; have HZ4 := Lib.hid (show W.heap.size ≤ wr.heap.size ∧ wr.heap.size ≤ w4.heap.size from ⟨HB.out.size, hb4.size⟩)
        have HTR := Lib.hid (show (⟨A4, c4, l4, (q' : Int)⟩ : Lt).tr = takenT t T[j] from by
          rw [HTNJ.out, ← HQL.out]
          show (⟨l4.map Ln.nd, (q' : Int)⟩ : Tr) = _
          rw [HL4.out]; congr 1; omega)
        clear hl4 hto4 hb4 HMV hpq
        have F := Lib.hid (show j + 1 ≤ maxLen ∧ (j + 1) * 32 ≤ 140737488355328 ∧ W.heap.size ≤ (w4.alloc (.cells #[.slice A4 l4.length c4, .int .i64 (q' : Int)] 24)).heap.size from ⟨by have := HTL.out; unfold maxLen; omega, by have := HTL.out; omega, by have := HZ4.out; simp; omega⟩)
        have hpq2 : (p : Int) + (q' : Int) - (p : Int) = (q' : Int) := by omega
        go_wp2_with (at_builtin; refine wpList_append_at _ rfl (.tmp 25) (.tmp 39) 35 rfl W.heap.size 24 j0 _ 2 32 Tryd.underlying35 hji hy0 hy1 hy2 rfl (by decide) V vc j (ttL.all ks) rfl (World.ownsRow.alloc (own_belowA HO.out HWB4.out) _) (some ⟨w4.heap.size, 0, none⟩) 1 1 [.slice A4 l4.length c4, .int .i64 (q' : Int)] rfl rfl (row_blk (bx_new w4 _)) (fun u hu => by simp only [List.mem_cons, List.not_mem_nil, or_false] at hu; rcases hu with rfl | rfl <;> rfl) F.out.1 F.out.2.1 F.out.2.2 ?_; intro V' vc' w5 HO5 HG5 HA5)
        have hvb : ∀ y, blkOf V = some y → W.heap.size ≤ y ∧ y < wr.heap.size := fun y hy => own_blk HO.out y hy
        have hz4 := HZ4.out
        have hx : ∀ x, x < w4.heap.size → blkOf V ≠ some x → w5.heap[x]? = w4.heap[x]? := fun x h1 h2 => (HG5.out.block x (by simp; omega) (fun e => h2 e.symm)).trans (Below.heap_alloc _ _ x h1)
        have hVV : ∀ x, x < w4.heap.size → blkOf V ≠ some x → blkOf V' ≠ some x := fun x h1 h2 e => by
          rcases HA5.out with h | h
          · exact h2 (h ▸ e)
          · rw [h] at e; injection e with e; rw [World.size_alloc] at e; omega
        refine ⟨⟨j + 1, V', vc', ks ++ [⟨A4, c4, l4, (q' : Int)⟩], hlt, by go_num, rfl, ?_, Lib.hid ⟨by simp [HKS.out.1], by rw [List.map_append, HTJ.out, HKS.out.2]; simp only [List.map_cons, List.map_nil, HTR.out]⟩, Lib.hid ?_, Lib.hid ?_, Lib.hid ?_⟩, by simp only [intOf]; omega⟩
        · rw [HQ.out]; go_num
        · rw [Lay.all_append, Lay.all_one]; exact HO5.out
        · intro k hk
          rcases List.mem_append.1 hk with hk | hk
          · have h1 := (HKO.out k hk).mono (T := fun x => x < wr.heap.size ∧ W.heap.size ≤ x ∧ blkOf V ≠ some x) (fun x a b => ⟨a, b⟩)
            exact (h1.agree (fun x hy _ => (hx x (by omega) hy.2.2).trans (HWB4.out.block x hy.1))).mono (fun x _ hy => ⟨hy.2.1, hVV x (by omega) hy.2.2⟩)
          · obtain rfl := List.mem_singleton.1 hk
            have h1 : TreeOwn w4 (wr.heap.size ≤ ·) ⟨A4, c4, l4, (q' : Int)⟩ := ⟨HO4.out.len, HO4.out.row, HO4.out.kids⟩
            have h2 := h1.mono (T := fun x => x < w4.heap.size ∧ wr.heap.size ≤ x) (fun x a b => ⟨a, b⟩)
            have h3 : ∀ x, wr.heap.size ≤ x → blkOf V ≠ some x := fun x h e => by have := (hvb x e).2; omega
            exact (h2.agree (fun x hy _ => hx x hy.1 (h3 x hy.2))).mono (fun x _ hy => ⟨by omega, hVV x hy.1 (h3 x hy.2)⟩)
        · exact (HB4.out.alloc (by omega) _).grown HG5.out (by simp; omega) (fun x hx => (hvb x hx).1)
    · obtain rfl : j = T.length := by omega
      have i3 : ¬ (T.length : Int) < (T.length : Int) := by omega
      go_wp2_with fail
      go_ret
      refine ⟨V, vc, ks, by rw [HKS.out.1]; rfl, by rw [HKS.out.2, List.take_length], ?_, HBW.out.trans (HB.out.mono HBW.out.size)⟩
      have hbw := HBW.out.size
      exact ⟨own_rowIn HO.out (fun ad e => Nat.le_trans hbw (own_blk HO.out ad.block (by rw [e]; rfl)).1), fun k hk => (HKO.out k hk).inn.mono (fun x _ hx => Nat.le_trans hbw hx.1)⟩
end Go.Proofs.YtjlohjdmekbipaaDoor
