/- The contracts of tree.Size, gram.Nodes. -/
import Derived.Test.YtmjkgnknfgoadaaGreatDoorHg
import Derived.Test.YtmjkgnknfgoadaaGreatDoorDs
import Derived.Test.YtmjkgnknfgoadaaGreatDoorDj
import Derived.Test.YtmjkgnknfgoadaaGreatDoorDn
import Derived.Test.YtmjkgnknfgoadaaGreatDoorGo
import Derived.Test.YtmjkgnknfgoadaaGreatDoorNm
import Derived.StillTailTactics
namespace Go.Proofs.YtmjkgnknfgoadaaGreatDoor
open Go.RowKit
set_option linter.unusedSimpArgs false
set_option linter.unusedVariables false
theorem sizeT_no {t : Tr} (h : rightT t = false) : sizeT t = 0 := by unfold sizeT; rw [if_neg (by simp [h])]
theorem sizeT_yes {t : Tr} (h : rightT t = true) : sizeT t = t.nodes.length := by unfold sizeT; rw [if_pos h]
theorem tsize_any (t : Lt) (S : Nat → Prop) (w : World) (hT : t.inn w S) (ht : CntTab w) :
    Calls Tryz.prog 36 #[t.val] w fun e w' => e = .returned (.int .i64 (sizeT t.tr : Nat)) ∧ Below w.heap.size w w' := by
  obtain ⟨A, c, ls, root⟩ := t
  have HT := Lib.hid hT; have HN := Lib.hid ht
  have hl : ls.length ≤ 281474976710656 := hT.1
  clear hT ht
  go_enter Tryz.func36, Tryz.ntmps36
  have HB0 := Lib.hid (bx1 w (.cells #[.slice A ls.length c, .int .i64 root] 48))
  have HK0 := Lib.hid (bx_new w (.cells #[.slice A ls.length c, .int .i64 root] 48))
  go_wp2_with fail
  refine (right_any A c ls root S _ (HT.out.2.below HB0.out) (by omega) (HN.out.below HB0.out)).mono ?_
  rintro e w1 ⟨rfl, hb1⟩
  have HB1 := Lib.hid (Below.step HB0.out hb1); have HK1 := Lib.hid (bx_kept hb1 HK0.out)
  clear hb1
  obtain ⟨k0, k1, _, _⟩ := blk2 HK1.out
  cases hr : rightT ⟨ls.map Ln.nd, root⟩
  · go_wp2_with fail
    go_ret
    exact ⟨by rw [show sizeT (Lt.tr ⟨A, c, ls, root⟩) = 0 from sizeT_no hr]; rfl, HB1.out⟩
  · go_wp2_with fail
    go_ret
    exact ⟨by rw [show sizeT (Lt.tr ⟨A, c, ls, root⟩) = ls.length from (sizeT_yes hr).trans (by simp)]; rfl, HB1.out⟩
theorem sizeT_le (t : Tr) : sizeT t ≤ t.nodes.length := by unfold sizeT; split <;> omega
theorem nodesG_take (g : List Df) (k : Nat) (hk : k < g.length) : nodesG (g.take (k + 1)) = nodesG (g.take k) + sizeT g[k].body := by
  unfold nodesG
  rw [List.take_succ_eq_append_getElem hk, List.map_append, List.sum_append]; simp
theorem nodesG_le (g : List Df) (h : ∀ d ∈ g, d.body.nodes.length ≤ 4294967296) : nodesG g ≤ g.length * 4294967296 := by
  induction g with
  | nil => simp [nodesG]
  | cons d g ih =>
    have h1 := ih fun x hx => h x (List.mem_cons_of_mem _ hx)
    have h2 := h d List.mem_cons_self; have h3 := sizeT_le d.body
    simp only [nodesG, List.map_cons, List.sum_cons, List.length_cons] at h1 ⊢
    omega
set_option maxRecDepth 100000 in
set_option maxHeartbeats 1600000 in
theorem gnodes_any (A : Option Addr) (c : Nat) (ds : List Ld) (S : Nat → Prop) (w : World) (hT : dfL.row w S A ds) (hl : ds.length ≤ 100000) (hm : ∀ d ∈ ds, d.t.ls.length ≤ 4294967296) (ht : CntTab w) :
    Calls Tryz.prog 16 #[.agg #[.slice A ds.length c]] w fun e w' => e = .returned (.int .i64 (nodesG (ds.map Ld.df) : Nat)) ∧ Below w.heap.size w w' := by
  have HT := Lib.hid hT; have HN := Lib.hid ht; have HM := Lib.hid hm
  clear hT ht hm
  go_enter Tryz.func16, Tryz.ntmps16
  have HB0 := Lib.hid (bx1 w (.cells #[.slice A ds.length c] 24))
  have HK0 := Lib.hid (bx_new w (.cells #[.slice A ds.length c] 24))
  go_wp2_with fail
  go_loopw [9, 3] (fun i s wr => ∃ k : Nat, k ≤ ds.length ∧ i = .int .i64 k ∧ s = .int .i64 (nodesG ((ds.map Ld.df).take k) : Nat) ∧ Hid (Below w.heap.size w wr)) (fun i _ _ => ds.length - (intOf i).toNat)
  case atStart => exact ⟨0, by omega, rfl, rfl, HB0⟩
  case round =>
    obtain ⟨k, hk, rfl, rfl, HB⟩ := hrel
    by_cases hlt : k < ds.length
    · obtain ⟨b, o, rfl, _, _, x0, x1, x2⟩ := dfRow (HT.out.agree (below_all HB.out)) k hlt
      have i1 : (k : Int) < (ds.length : Int) := by omega
      have HNT := Lib.hid (nodesG_take (ds.map Ld.df) k (by simpa using hlt))
      have HI := Lib.hid (dfSub (HT.out.agree (below_all HB.out)) k hlt)
      have hb1 : nodesG ((ds.map Ld.df).take k) ≤ 100000 * 4294967296 := by
        refine Nat.le_trans (nodesG_le _ fun d hd => ?_) ?_
        · obtain ⟨x, hx, rfl⟩ := List.mem_map.1 (List.mem_of_mem_take hd)
          have := HM.out x hx
          simpa [Ld.df, Lt.tr] using this
        · simp only [List.length_take, List.length_map]; exact Nat.mul_le_mul_right _ (by omega)
      have hb2 : sizeT ((ds.map Ld.df)[k]'(by simpa using hlt)).body ≤ 4294967296 := by
        refine Nat.le_trans (sizeT_le _) ?_
        have := HM.out ds[k] (List.getElem_mem hlt)
        simpa [Ld.df, Lt.tr] using this
      have hbd : ((ds.map Ld.df)[k]'(by simpa using hlt)).body = ds[k].t.tr := by simp [Ld.df]
      rw [hbd] at hb2
      have HNT2 := Lib.hid (HNT.out.trans (by rw [hbd]))
      clear HNT hbd
      generalize nodesG ((ds.map Ld.df).take k) = sm at *
      generalize ds[k] = d at *
      go_wp2_with (go_at_call 36; refine (tsize_any d.t S _ (HI.out.below (bx1 _ _)) ((HN.out.below HB.out).below (bx1 _ _))).mono ?_; rintro e w1 ⟨rfl, hb⟩; have HB1 := Lib.hid (Below.step HB.out (Below.step (bx1 wr _) hb)); clear hb)
      exact ⟨⟨k + 1, by omega, by go_num, by rw [HNT2.out]; go_num, HB1⟩, by simp only [intOf]; omega⟩
    · have HE := Lib.hid (show (ds.map Ld.df).take k = ds.map Ld.df from List.take_of_length_le (by simp; omega))
      go_wp2_with fail
      go_ret
      exact ⟨by rw [HE.out]; rfl, HB.out⟩
end Go.Proofs.YtmjkgnknfgoadaaGreatDoor
/- The contracts of tree.Depth and tree.May. -/
namespace Go.Proofs.YtmjkgnknfgoadaaGreatDoor
open Go.RowKit
set_option linter.unusedSimpArgs false
set_option linter.unusedVariables false
theorem depT_no {t : Tr} (h : rightT t = false) : depT t = 0 := by unfold depT; rw [if_neg (by simp [h])]
theorem depT_yes {t : Tr} (h : rightT t = true) : depT t = depN t.nodes t.root.toNat := by unfold depT; rw [if_pos h]
def dpL (l : List Nd) (n i j : Nat) : List Nat := (List.range n).map fun k => if k < i then depN l k else if k = i then (((kidsAt l i).take j).map (depN l)).foldl max 0 else 0
def natV (l : List Nat) : List Value := l.map fun k : Nat => Value.int .i64 (k : Int)
theorem natV_len (l : List Nat) : (natV l).length = l.length := by simp [natV]
theorem dpL_len (l : List Nd) (n i j : Nat) : (dpL l n i j).length = n := by simp [dpL]
theorem dpL_at (l : List Nd) (n i j k : Nat) (hk : k < n) : (natV (dpL l n i j))[k]? = some (.int .i64 ((if k < i then depN l k else if k = i then (((kidsAt l i).take j).map (depN l)).foldl max 0 else 0 : Nat) : Int)) := by
  simp [natV, dpL, hk]
theorem dpL_kid (l : List Nd) (n i j : Nat) (hj : j < (kidsAt l i).length) (hi : i < n) : (natV (dpL l n i j)).set i (.int .i64 ((max ((((kidsAt l i).take j).map (depN l)).foldl max 0) (depN l (kidsAt l i)[j]) : Nat) : Int)) = natV (dpL l n i (j + 1)) := by
  apply List.ext_getElem?
  intro k
  by_cases hk : k < n
  · rw [dpL_at l n i (j + 1) k hk]
    by_cases e : k = i
    · subst e
      rw [List.getElem?_set_self (by rw [natV_len, dpL_len]; exact hk), if_neg (by omega), if_pos rfl, List.take_succ_eq_append_getElem hj, List.map_append, List.foldl_append]
      rfl
    · rw [List.getElem?_set_ne (by omega), dpL_at l n i j k hk, if_neg e, if_neg e]
  · rw [List.getElem?_eq_none (by rw [List.length_set, natV_len, dpL_len]; omega), List.getElem?_eq_none (by rw [natV_len, dpL_len]; omega)]
theorem dpL_end (l : List Nd) (h : Ahead l) (n i j : Nat) (hj : (kidsAt l i).length ≤ j) (hi : i < n) : (natV (dpL l n i j)).set i (.int .i64 (((((kidsAt l i).take j).map (depN l)).foldl max 0 + 1 : Nat) : Int)) = natV (dpL l n (i + 1) 0) := by
  apply List.ext_getElem?
  intro k
  by_cases hk : k < n
  · rw [dpL_at l n (i + 1) 0 k hk]
    by_cases e : k = i
    · subst e
      rw [List.getElem?_set_self (by rw [natV_len, dpL_len]; exact hk), if_pos (by omega), List.take_of_length_le hj, depN_eq h]
    · rw [List.getElem?_set_ne (by omega), dpL_at l n i j k hk, if_neg e]
      by_cases h1 : k < i
      · rw [if_pos h1, if_pos (by omega)]
      · rw [if_neg h1, if_neg (by omega)]
        split <;> simp
  · rw [List.getElem?_eq_none (by rw [List.length_set, natV_len, dpL_len]; omega), List.getElem?_eq_none (by rw [natV_len, dpL_len]; omega)]
theorem dpL_start (l : List Nd) (n : Nat) : natV (dpL l n 0 0) = List.replicate n (.int .i64 0) := by
  apply List.ext_getElem?
  intro k
  by_cases hk : k < n
  · rw [dpL_at l n 0 0 k hk, if_neg (by omega)]
    simp only [List.take_zero, List.map_nil, List.foldl_nil, List.getElem?_replicate, hk, if_true]
    split <;> rfl
  · rw [List.getElem?_eq_none (by rw [natV_len, dpL_len]; omega), List.getElem?_eq_none (by simp; omega)]
theorem foldl_le (l : List Nd) (h : Ahead l) (i j : Nat) : (((kidsAt l i).take j).map (depN l)).foldl max 0 ≤ i := by
  refine fold_max_le i _ 0 (Nat.zero_le _) fun x hx => ?_
  obtain ⟨k, hk, rfl⟩ := List.mem_map.1 hx
  have h1 := h i k (List.mem_of_mem_take hk); have := depN_le h k
  omega
theorem max_cast (a b : Nat) : ((max a b : Nat) : Int) = max (a : Int) (b : Int) := by
  rcases Nat.le_total a b with h | h
  · rw [Nat.max_eq_right h, Int.max_eq_right (by omega)]
  · rw [Nat.max_eq_left h, Int.max_eq_left (by omega)]
theorem row_belowI {w w' : World} {B g c n : Nat} {e : TypeId} {size : Nat} {xs : List Value} (h : w.ownsRow B e size (.slice (some ⟨g, 0, none⟩) n c) n xs) (hb : Below w.heap.size w w') : w'.ownsRow B e size (.slice (some ⟨g, 0, none⟩) n c) n xs :=
  own_agree h fun k hk => hb.block k (own_blk h k hk).2
theorem depT_le (t : Tr) : depT t ≤ t.nodes.length := by
  unfold depT
  split
  · rename_i h
    have hr := (rightT_iff t).1 h
    have h1 := depN_le (rightP_ahead hr) t.root.toNat
    have h2 := hr.1
    omega
  · omega
set_option maxRecDepth 100000 in
set_option maxHeartbeats 3200000 in
theorem depth_any (A : Option Addr) (c : Nat) (ls : List Ln) (root : Int) (S : Nat → Prop) (w : World) (hT : ndL.row w S A ls) (hl : ls.length ≤ 4294967296) (ht : CntTab w) :
    Calls Tryz.prog 139 #[.agg #[.slice A ls.length c, .int .i64 root]] w fun e w' => e = .returned (.int .i64 (depT ⟨ls.map Ln.nd, root⟩ : Nat)) ∧ Below w.heap.size w w' := by
  obtain ⟨i0, hi, hz0, hz1, hz2⟩ := info_parts infoInt
  have HT := Lib.hid hT; have HN := Lib.hid ht
  clear hT ht
  go_enter Tryz.func139, Tryz.ntmps139
  have HB0 := Lib.hid (bx1 w (.cells #[.slice A ls.length c, .int .i64 root] 48))
  have HK0 := Lib.hid (bx_new w (.cells #[.slice A ls.length c, .int .i64 root] 48))
  go_wp2_with fail
  refine (right_any A c ls root S _ (HT.out.below HB0.out) (by omega) (HN.out.below HB0.out)).mono ?_
  rintro e w1 ⟨rfl, hb1⟩
  have HB1 := Lib.hid (Below.step HB0.out hb1); have HK1 := Lib.hid (bx_kept hb1 HK0.out)
  clear hb1
  obtain ⟨k0, k1, _, _⟩ := blk2 HK1.out
  cases hr : rightT ⟨ls.map Ln.nd, root⟩
  · go_wp2_with fail
    go_ret
    exact ⟨by rw [show depT ⟨ls.map Ln.nd, root⟩ = 0 from depT_no hr]; rfl, HB1.out⟩
  · have HDT := Lib.hid (depT_yes hr)
    have HR := Lib.hid ((rightT_iff _).1 hr)
    have HAH := Lib.hid (rightP_ahead HR.out)
    clear hr
    have F1 := Lib.hid (show i0.bytes * ls.length ≤ 281474976710656 ∧ ls.length ≤ maxLen from ⟨by rw [hz2]; omega, by unfold maxLen; omega⟩)
    go_wp2_with (first
      | (at_make; refine wpList_make_full _ rfl _ _ 54 rfl w1.heap.size 3 i0 _ 1 Tryz.underlying54 hi hz0 hz1 .i64 .i64 _ _ ls.length rfl rfl rfl rfl F1.out.1 F1.out.2 (Nat.le_refl _) ?_; intro w2 hown2 hgrow2; have HO2 := Lib.hid hown2; have HB2 := Lib.hid (show Below w1.heap.size w1 w2 from (Below.refl _ _).grown hgrow2 (Nat.le_refl _) (fun k e => by cases e)); clear hown2 hgrow2; have HK2 := Lib.hid (bx_kept HB2.out HK1.out); obtain ⟨q0, q1, _, _⟩ := blk2 HK2.out)
      | fail)
    have HZ1 := Lib.hid (show w.heap.size < w1.heap.size from (Array.getElem?_eq_some_iff.1 HK1.out).1)
    generalize hZ : w1.heap.size = Z1 at *
    have HZE := Lib.hid hZ; clear hZ
    have HO2' := Lib.hid (show w2.ownsRow Z1 3 1 (.slice (some ⟨Z1, 0, none⟩) ls.length ls.length) ls.length (natV (dpL (ls.map Ln.nd) ls.length 0 0)) from by
      have h := HO2.out
      rw [dpL_start]
      rw [show (Value.int IntKind.i64 0).cells = #[.int .i64 0] from rfl, Nat.mul_one, toList_madeCells_one] at h
      exact h)
    clear HO2 q0 q1
    go_loopw [18] (fun i wr => ∃ k : Nat, k ≤ ls.length ∧ i = .int .i64 k ∧ Hid (wr.ownsRow Z1 3 1 (.slice (some ⟨Z1, 0, none⟩) ls.length ls.length) ls.length (natV (dpL (ls.map Ln.nd) ls.length k 0))) ∧ Hid (Below Z1 w1 wr)) (fun i _ => ls.length - (intOf i).toNat)
    case atStart => exact ⟨0, Nat.zero_le _, rfl, HO2', HB2⟩
    case round =>
      clear HO2' HB2 HK2
      obtain ⟨wo, rfl⟩ : ∃ wo : World, wo = wr := ⟨_, rfl⟩
      obtain ⟨k, hk, rfl, HO, HB⟩ := hrel
      have HBW := Lib.hid (show Below w.heap.size w wo from HB1.out.trans (HB.out.mono (Nat.le_of_lt HZ1.out)))
      have HKW := Lib.hid ((HB.out.block w.heap.size (by have := HZ1.out; exact this)).trans HK1.out)
      by_cases hlt : k < ls.length
      · obtain ⟨b, off, rfl, _, _, x0, x1, x2, x3, x4, x5, x6, x7, x8⟩ := ndRow (HT.out.agree (below_all HBW.out)) k hlt
        have i1 : (k : Int) < (ls.length : Int) := by omega
        have HKD := Lib.hid (show ∀ w', Below w.heap.size w w' → intL.row w' S ls[k].A ls[k].nd.kids from fun w' hb => ndSub (HT.out.agree (below_all hb)) k hlt)
        have HKP := Lib.hid (show ∀ z ∈ ls[k].nd.kids, 0 ≤ z ∧ z < (k : Int) from fun z hz => rightP_kid HR.out (i := k) (n := ls[k].nd) (by simp [hlt]) hz)
        have HKM := Lib.hid (show kidsAt (ls.map Ln.nd) k = ls[k].nd.kids.map Int.toNat by simp [kidsAt, hlt])
        have hkl : ls[k].nd.kids.length ≤ k := right_kids_len HR.out (i := k) (n := ls[k].nd) (by simp [hlt])
        have HZO := Lib.hid (show Z1 < wo.heap.size from (own_blk HO.out Z1 rfl).2)
        generalize ls[k] = ln at *
        obtain ⟨nd, lA, lc⟩ := ln
        simp only at x0 x1 x2 x3 x4 x5 x6 x7 x8 HKD HKP HKM hkl
        go_wp2_with fail
        clear x0 x1 x2 x3 x4 x5 x6 x7 x8
        have HNB := Lib.hid (bx_new wo (.cells #[.int .u8 nd.kind, .int .u64 nd.s0, .int .u64 nd.s1, .int .u64 nd.s2, .int .u64 nd.s3, .string nd.text, .int .i64 nd.mn, .int .i64 nd.mx, .slice lA nd.kids.length lc] 71))
        have HO0 := Lib.hid (row_belowI HO.out (bx1 wo (.cells #[.int .u8 nd.kind, .int .u64 nd.s0, .int .u64 nd.s1, .int .u64 nd.s2, .int .u64 nd.s3, .string nd.text, .int .i64 nd.mn, .int .i64 nd.mx, .slice lA nd.kids.length lc] 71)))
        have HBO := Lib.hid (HB.out.trans ((bx1 wo (.cells #[.int .u8 nd.kind, .int .u64 nd.s0, .int .u64 nd.s1, .int .u64 nd.s2, .int .u64 nd.s3, .string nd.text, .int .i64 nd.mn, .int .i64 nd.mx, .slice lA nd.kids.length lc] 71)).mono (Nat.le_of_lt HZO.out)))
        have HSO := Lib.hid (show wo.heap.size < (wo.alloc (.cells #[.int .u8 nd.kind, .int .u64 nd.s0, .int .u64 nd.s1, .int .u64 nd.s2, .int .u64 nd.s3, .string nd.text, .int .i64 nd.mn, .int .i64 nd.mx, .slice lA nd.kids.length lc] 71)).heap.size by simp)
        generalize (wo.alloc (.cells #[.int .u8 nd.kind, .int .u64 nd.s0, .int .u64 nd.s1, .int .u64 nd.s2, .int .u64 nd.s3, .string nd.text, .int .i64 nd.mn, .int .i64 nd.mx, .slice lA nd.kids.length lc] 71)) = W0 at *
        go_loopw [26] (fun i wx => ∃ j : Nat, j ≤ nd.kids.length ∧ i = .int .i64 j ∧ Hid (wx.ownsRow Z1 3 1 (.slice (some ⟨Z1, 0, none⟩) ls.length ls.length) ls.length (natV (dpL (ls.map Ln.nd) ls.length k j))) ∧ Hid (wx.heap[wo.heap.size]? = some (.cells #[.int .u8 nd.kind, .int .u64 nd.s0, .int .u64 nd.s1, .int .u64 nd.s2, .int .u64 nd.s3, .string nd.text, .int .i64 nd.mn, .int .i64 nd.mx, .slice lA nd.kids.length lc] 71 (0, 0))) ∧ Hid (Below Z1 w1 wx)) (fun i _ => nd.kids.length - (intOf i).toNat)
        case atStart => exact ⟨0, Nat.zero_le _, rfl, HO0, HNB, HBO⟩
        case round =>
          clear HO0 HNB HBO
          obtain ⟨wx, rfl⟩ : ∃ wx : World, wx = wr := ⟨_, rfl⟩
          obtain ⟨j, hj, rfl, HOX, HNX, HBX⟩ := hrel
          have HBWX := Lib.hid (show Below w.heap.size w wx from HB1.out.trans (HBX.out.mono (Nat.le_of_lt HZ1.out)))
          obtain ⟨_, _, _, _, _, _, _, _, y8, _⟩ := blk9 HNX.out
          have cf := World.ownsRow.frozenAt HOX.out k
          have hck := own_cell HOX.out k hlt (dpL_at (ls.map Ln.nd) ls.length k j k hlt)
          rw [if_neg (Nat.lt_irrefl k), if_pos rfl] at hck
          have hmk := foldl_le (ls.map Ln.nd) HAH.out k j
          have i4 : (0 : Int) ≤ (k : Int) := by omega
          by_cases hjl : j < nd.kids.length
          · obtain ⟨cb, co, rfl, _, hcl, v0⟩ := intRow (HKD.out _ HBWX.out) j hjl
            have hz := HKP.out nd.kids[j] (List.getElem_mem hjl)
            obtain ⟨z, hzk⟩ := Int.eq_ofNat_of_zero_le hz.1
            have HKJ := Lib.hid (show ∃ h : j < (kidsAt (ls.map Ln.nd) k).length, (kidsAt (ls.map Ln.nd) k)[j] = z from ⟨by rw [HKM.out]; simpa using hjl, by simp [HKM.out, hzk]⟩)
            rw [hzk] at v0 hz
            clear hzk
            have hzi : z < k := by omega
            have hcz := own_cell HOX.out z (by omega) (dpL_at (ls.map Ln.nd) ls.length k j z (by omega))
            rw [if_pos hzi] at hcz
            have hdz := depN_le HAH.out z
            have HNEW := Lib.hid (show (wx.setCell ⟨Z1, k, none⟩ (.int .i64 ((max ((((kidsAt (ls.map Ln.nd) k).take j).map (depN (ls.map Ln.nd))).foldl max 0) (depN (ls.map Ln.nd) z) : Nat) : Int))).ownsRow Z1 3 1 (.slice (some ⟨Z1, 0, none⟩) ls.length ls.length) ls.length (natV (dpL (ls.map Ln.nd) ls.length k (j + 1))) from by
              obtain ⟨h1, h2⟩ := HKJ.out
              have h := (World.ownsRow.stored HOX.out k (.int .i64 ((max ((((kidsAt (ls.map Ln.nd) k).take j).map (depN (ls.map Ln.nd))).foldl max 0) (depN (ls.map Ln.nd) z) : Nat) : Int))).1
              rw [← h2] at h ⊢
              rwa [dpL_kid (ls.map Ln.nd) ls.length k j h1 hlt] at h)
            generalize (((kidsAt (ls.map Ln.nd) k).take j).map (depN (ls.map Ln.nd))).foldl max 0 = M at *
            generalize depN (ls.map Ln.nd) z = D at *
            have j1 : (j : Int) < (nd.kids.length : Int) := by omega
            have j2 : (0 : Int) ≤ (j : Int) := by omega
            have z1 : (z : Int) < (ls.length : Int) := by omega
            have z2 : (0 : Int) ≤ (z : Int) := by omega
            go_upto_region 10 with (fail)
            go_still_tail 12, (by kernel_rfl)
            change wpList _ _ _ _ _ wx.drew
            have cf2 : wx.drew.frozen? ⟨Z1, k, none⟩ = false := cf
            have hck2 : wx.drew.cell? ⟨Z1, k, none⟩ = some (.int .i64 (M : Int)) := hck
            have HNEW2 := Lib.hid (max_cast M D ▸ HNEW.out)
            clear hck hcz cf HNEW
            go_wp2_with fail
            have hne : wo.heap.size ≠ Z1 := by have := HZO.out; omega
            exact ⟨⟨j + 1, by omega, by go_num, Lib.hid (show ((wx.setCell ⟨Z1, k, none⟩ (.int .i64 (max (M : Int) (D : Int)))).drew).ownsRow _ _ _ _ _ _ from HNEW2.out), Lib.hid ((Below.heap_setCell wx ⟨Z1, k, none⟩ _ _ hne).trans HNX.out), Lib.hid ((HBX.out.setCell (p := ⟨Z1, k, none⟩) (Nat.le_refl _) _).drew)⟩, by simp only [intOf]; omega⟩
          · have j1 : ¬ (j : Int) < (nd.kids.length : Int) := by omega
            have HNEW := Lib.hid (show (wx.setCell ⟨Z1, k, none⟩ (.int .i64 (((((kidsAt (ls.map Ln.nd) k).take j).map (depN (ls.map Ln.nd))).foldl max 0 + 1 : Nat) : Int))).ownsRow Z1 3 1 (.slice (some ⟨Z1, 0, none⟩) ls.length ls.length) ls.length (natV (dpL (ls.map Ln.nd) ls.length (k + 1) 0)) from by
              have h := (World.ownsRow.stored HOX.out k (.int .i64 (((((kidsAt (ls.map Ln.nd) k).take j).map (depN (ls.map Ln.nd))).foldl max 0 + 1 : Nat) : Int))).1
              rwa [dpL_end (ls.map Ln.nd) HAH.out ls.length k j (by rw [HKM.out]; simp; omega) hlt] at h)
            generalize (((kidsAt (ls.map Ln.nd) k).take j).map (depN (ls.map Ln.nd))).foldl max 0 = M at *
            have e1 : IntKind.i64.wrap ((M : Int) + 1) = (M : Int) + 1 := IntWalk.i64_in _ (by omega)
            go_wp2_with fail
            refine ⟨⟨k + 1, by omega, by go_num, HNEW, Lib.hid (HBX.out.setCell (p := ⟨Z1, k, none⟩) (Nat.le_refl _) _)⟩, by simp only [intOf]; omega⟩
      · have i1 : ¬ (k : Int) < (ls.length : Int) := by omega
        obtain rfl : k = ls.length := by omega
        have hroot := HR.out.1
        simp only [List.length_map] at hroot
        obtain ⟨ro, rfl⟩ := Int.eq_ofNat_of_zero_le hroot.1
        have hro : ro < ls.length := by omega
        obtain ⟨k0, k1, _, _⟩ := blk2 HKW.out
        have hce := own_cell HO.out ro hro (dpL_at (ls.map Ln.nd) ls.length ls.length 0 ro hro)
        rw [if_pos hro] at hce
        have i2 : (ro : Int) < (ls.length : Int) := by omega
        have i3 : (0 : Int) ≤ (ro : Int) := by omega
        have HDT2 := Lib.hid (show depT ⟨ls.map Ln.nd, (ro : Int)⟩ = depN (ls.map Ln.nd) ro from HDT.out)
        generalize depN (ls.map Ln.nd) ro = dd at *
        go_wp2_with fail
        go_ret
        exact ⟨by rw [HDT2.out]; rfl, HBW.out⟩
set_option maxRecDepth 100000 in
set_option maxHeartbeats 1600000 in
theorem tmay_any (t : Lt) (S : Nat → Prop) (w : World) (hT : t.inn w S) (hl : t.ls.length ≤ 4294967296) (ht : CntTab w) :
    Calls Tryz.prog 105 #[t.val] w fun e w' => e = .returned (.bool (mayT t.tr)) ∧ Below w.heap.size w w' := by
  obtain ⟨A, c, ls, root⟩ := t
  simp only at hl
  have HT := Lib.hid hT.2; have HN := Lib.hid ht
  have HMT := Lib.hid (show mayT (Lt.tr ⟨A, c, ls, root⟩) = (decide (ls.length ≤ 1024) && rightT ⟨ls.map Ln.nd, root⟩ && decide (depT ⟨ls.map Ln.nd, root⟩ ≤ 32)) from by
    show (decide ((ls.map Ln.nd).length ≤ 1024) && _ && _) = _
    rw [List.length_map]; rfl)
  clear hT ht
  show Calls _ _ _ _ fun e w' => e = .returned (.bool (mayT (Lt.tr ⟨A, c, ls, root⟩))) ∧ Below w.heap.size w w'
  rw [HMT.out]
  clear HMT
  go_enter Tryz.func105, Tryz.ntmps105
  have HB0 := Lib.hid (bx1 w (.cells #[.slice A ls.length c, .int .i64 root] 48))
  have HK0 := Lib.hid (bx_new w (.cells #[.slice A ls.length c, .int .i64 root] 48))
  by_cases h1 : ls.length ≤ 1024
  · have h1' : (ls.length : Int) ≤ 1024 := by omega
    rw [decide_eq_true h1, Bool.true_and]
    have HRR := Lib.hid (show ∀ w', Below w.heap.size w w' → Calls Tryz.prog 86 #[.agg #[.slice A ls.length c, .int .i64 root]] w' fun e w'' => e = .returned (.bool (rightT ⟨ls.map Ln.nd, root⟩)) ∧ Below w'.heap.size w' w'' from fun w' hb => right_any A c ls root S w' (HT.out.below hb) (by omega) (HN.out.below hb))
    have HDD := Lib.hid (show ∀ w', Below w.heap.size w w' → Calls Tryz.prog 139 #[.agg #[.slice A ls.length c, .int .i64 root]] w' fun e w'' => e = .returned (.int .i64 (depT ⟨ls.map Ln.nd, root⟩ : Nat)) ∧ Below w'.heap.size w' w'' from fun w' hb => depth_any A c ls root S w' (HT.out.below hb) hl (HN.out.below hb))
    have HDL := Lib.hid (depT_le ⟨ls.map Ln.nd, root⟩)
    clear h1
    generalize depT ⟨ls.map Ln.nd, root⟩ = dp at *
    cases hr : rightT ⟨ls.map Ln.nd, root⟩
    · rw [hr] at HRR
      clear hr
      go_wp2_with (first
        | (go_at_call 86; refine (HRR.out _ HB0.out).mono ?_; rintro e w1 ⟨rfl, hb⟩; have HB1 := Lib.hid (Below.step HB0.out hb); clear hb)
        | fail)
      go_ret
      exact ⟨rfl, HB1.out⟩
    · rw [hr] at HRR
      clear hr
      by_cases h2 : dp ≤ 32
      · have h2' : (dp : Int) ≤ 32 := by omega
        rw [decide_eq_true h2]
        clear h2
        go_wp2_with (first
          | (go_at_call 86; refine (HRR.out _ HB0.out).mono ?_; rintro e w1 ⟨rfl, hb⟩; have HB1 := Lib.hid (Below.step HB0.out hb); have HK1 := Lib.hid (bx_kept hb HK0.out); clear hb; obtain ⟨k0, k1, _, _⟩ := blk2 HK1.out)
          | (go_at_call 139; refine (HDD.out _ HB1.out).mono ?_; rintro e w2 ⟨rfl, hb⟩; have HB2 := Lib.hid (Below.step HB1.out hb); clear hb)
          | fail)
        go_ret
        exact ⟨rfl, HB2.out⟩
      · have h2' : ¬ (dp : Int) ≤ 32 := by omega
        rw [decide_eq_false h2]
        clear h2
        go_wp2_with (first
          | (go_at_call 86; refine (HRR.out _ HB0.out).mono ?_; rintro e w1 ⟨rfl, hb⟩; have HB1 := Lib.hid (Below.step HB0.out hb); have HK1 := Lib.hid (bx_kept hb HK0.out); clear hb; obtain ⟨k0, k1, _, _⟩ := blk2 HK1.out)
          | (go_at_call 139; refine (HDD.out _ HB1.out).mono ?_; rintro e w2 ⟨rfl, hb⟩; have HB2 := Lib.hid (Below.step HB1.out hb); clear hb)
          | fail)
        go_ret
        exact ⟨ret_bool (by simp; omega), HB2.out⟩
  · have h1' : ¬ (ls.length : Int) ≤ 1024 := by omega
    rw [decide_eq_false h1, Bool.false_and, Bool.false_and]
    clear h1
    go_wp2_with fail
    go_ret
    exact ⟨rfl, HB0.out⟩
end Go.Proofs.YtmjkgnknfgoadaaGreatDoor
/- The contract of gram.large. -/
namespace Go.Proofs.YtmjkgnknfgoadaaGreatDoor
open Go.RowKit
set_option linter.unusedSimpArgs false
set_option linter.unusedVariables false
theorem largeG_len {g : List Df} (h : 64 < g.length) : largeG g = true := by unfold largeG; rw [decide_eq_true h]; rfl
theorem largeG_tree {g : List Df} {d : Df} (hd : d ∈ g) (h : mayT d.body = false) : largeG g = true := by
  unfold largeG
  have : g.any (fun d => !mayT d.body) = true := List.any_eq_true.2 ⟨d, hd, by simp [h]⟩
  rw [this]; simp
theorem largeG_rest {g : List Df} (h1 : ¬ 64 < g.length) (h2 : ∀ d ∈ g, mayT d.body = true) : largeG g = (decide (1024 < nodesG g) || decide (8192 < (gramT g).length)) := by
  unfold largeG
  have : g.any (fun d => !mayT d.body) = false := List.any_eq_false.2 fun d hd => by simp [h2 d hd]
  rw [this, decide_eq_false h1]; simp
set_option maxRecDepth 100000 in
set_option maxHeartbeats 3200000 in
theorem glarge_any (A : Option Addr) (c : Nat) (ds : List Ld) (S : Nat → Prop) (w : World) (hT : dfL.row w S A ds) (hl : ds.length ≤ 50000) (hm : ∀ d ∈ ds, d.t.ls.length ≤ 1000000) (hp : PTabs w) :
    Calls Tryz.prog 60 #[.agg #[.slice A ds.length c]] w fun e w' => e = .returned (.bool (largeG (ds.map Ld.df))) ∧ Below w.heap.size w w' := by
  have HT := Lib.hid hT; have HP := Lib.hid hp; have HM := Lib.hid hm
  have HNC := Lib.hid (show ∀ w', Below w.heap.size w w' → Calls Tryz.prog 16 #[.agg #[.slice A ds.length c]] w' fun e w'' => e = .returned (.int .i64 (nodesG (ds.map Ld.df) : Nat)) ∧ Below w'.heap.size w' w'' from fun w' hb => gnodes_any A c ds S w' (hT.below hb) (by omega) (fun d hd => by have := hm d hd; omega) (hp.below hb).cn)
  have HSC := Lib.hid (show ∀ w', Below w.heap.size w w' → Calls Tryz.prog 106 #[.agg #[.slice A ds.length c]] w' fun e w'' => e = .returned (.int .i64 ((gramT (ds.map Ld.df)).length : Nat)) ∧ Below w'.heap.size w' w'' from fun w' hb => psize_any A c ds S w' (hT.below hb) hl hm (hp.below hb))
  have HR := Lib.hid (largeG_rest (g := ds.map Ld.df))
  have HMT := Lib.hid (fun d (hd : d ∈ ds.map Ld.df) => largeG_tree hd)
  have HML := Lib.hid (largeG_len (g := ds.map Ld.df))
  simp only [List.length_map] at HML HR
  clear hT hp hm
  generalize largeG (ds.map Ld.df) = lg at *
  generalize nodesG (ds.map Ld.df) = nn at *
  generalize (gramT (ds.map Ld.df)).length = gl at *
  go_enter Tryz.func60, Tryz.ntmps60
  have HB0 := Lib.hid (bx1 w (.cells #[.slice A ds.length c] 24))
  have HK0 := Lib.hid (bx_new w (.cells #[.slice A ds.length c] 24))
  by_cases h64 : 64 < ds.length
  · have h64' : (64 : Int) < (ds.length : Int) := by omega
    have HX := Lib.hid (HML.out h64)
    go_wp2_with fail
    go_ret
    exact ⟨ret_bool HX.out.symm, HB0.out⟩
  · have h64' : ¬ (64 : Int) < (ds.length : Int) := by omega
    have HR2 := Lib.hid (HR.out h64)
    clear HML HR h64
    go_wp2_with fail
    go_loopw [12] (fun i wr => ∃ k : Nat, k ≤ ds.length ∧ i = .int .i64 k ∧ Hid (∀ d ∈ (ds.map Ld.df).take k, mayT d.body = true) ∧ Hid (Below w.heap.size w wr) ∧ Hid (wr.heap[w.heap.size]? = some (.cells #[.slice A ds.length c] 24 (0, 0)))) (fun i _ => ds.length - (intOf i).toNat)
    case atStart => exact ⟨0, by omega, rfl, Lib.hid (by simp), HB0, HK0⟩
    case round =>
      clear HB0 HK0
      obtain ⟨k, hk, rfl, HK, HB, HKW⟩ := hrel
      by_cases hlt : k < ds.length
      · obtain ⟨b, o, rfl, _, _, x0, x1, x2⟩ := dfRow (HT.out.agree (below_all HB.out)) k hlt
        have i1 : (k : Int) < (ds.length : Int) := by omega
        have HMC := Lib.hid (show ∀ w', Below w.heap.size w w' → Calls Tryz.prog 105 #[.agg #[.slice ds[k].t.A ds[k].t.ls.length ds[k].t.c, .int .i64 ds[k].t.root]] w' fun e w'' => e = .returned (.bool (mayT ds[k].t.tr)) ∧ Below w'.heap.size w' w'' from fun w' hb => tmay_any ds[k].t S w' (dfSub (HT.out.agree (below_all hb)) k hlt) (by have := HM.out ds[k] (List.getElem_mem hlt); omega) (HP.out.below hb).cn)
        have HMEM := Lib.hid (show mayT ds[k].t.tr = false → lg = true from fun h => HMT.out ds[k].df (List.mem_map_of_mem (List.getElem_mem hlt)) h)
        have HTK := Lib.hid (show (ds.map Ld.df).take (k + 1) = (ds.map Ld.df).take k ++ [ds[k].df] from by
          rw [List.take_succ_eq_append_getElem (by simpa using hlt)]; simp)
        have hdb : ds[k].df.body = ds[k].t.tr := rfl
        have HDB := Lib.hid hdb; clear hdb
        have hmt0 : ∃ mt, mayT ds[k].t.tr = mt := ⟨_, rfl⟩
        obtain ⟨mt, hmtk⟩ := hmt0
        rw [hmtk] at HMC HMEM
        cases hmt : mt
        · have HX := Lib.hid (HMEM.out hmt)
          subst hmt
          go_wp2_with (first
            | (go_at_call 105; refine (HMC.out _ (Below.step HB.out (bx1 _ _))).mono ?_; rintro e w1 ⟨rfl, hb⟩; have HB1 := Lib.hid (Below.step (Below.step HB.out (bx1 wr _)) hb); clear hb)
            | fail)
          go_ret
          exact ⟨ret_bool HX.out.symm, HB1.out⟩
        · subst hmt
          go_wp2_with (first
            | (go_at_call 105; refine (HMC.out _ (Below.step HB.out (bx1 _ _))).mono ?_; rintro e w1 ⟨rfl, hb⟩; have HB1 := Lib.hid (Below.step (Below.step HB.out (bx1 wr _)) hb); have HKW1 := Lib.hid (bx_kept (Below.step (bx1 wr _) hb) HKW.out); clear hb)
            | fail)
          have HYES := Lib.hid (show mayT ds[k].df.body = true from by rw [HDB.out]; exact hmtk)
          exact ⟨⟨k + 1, by omega, by go_num, Lib.hid (fun x hx => by
            rw [HTK.out] at hx
            rcases List.mem_append.1 hx with hx | hx
            · exact HK.out x hx
            · simp only [List.mem_singleton] at hx; subst hx; exact HYES.out), HB1, HKW1⟩, by simp only [intOf]; omega⟩
      · have HE := Lib.hid (show (ds.map Ld.df).take k = ds.map Ld.df from List.take_of_length_le (by simp; omega))
        have HX := Lib.hid (HR2.out (fun d hd => HK.out d (by rw [HE.out]; exact hd)))
        obtain ⟨k0, _⟩ := blk1 HKW.out
        by_cases h1 : 1024 < nn
        · have h1' : (1024 : Int) < (nn : Int) := by omega
          have HX2 := Lib.hid (show lg = true from by rw [HX.out, decide_eq_true h1]; rfl)
          go_wp2_with (first
            | (go_at_call 16; refine (HNC.out _ HB.out).mono ?_; rintro e w1 ⟨rfl, hb⟩; have HB1 := Lib.hid (Below.step HB.out hb); clear hb)
            | fail)
          go_ret
          exact ⟨by rw [HX2.out]; first | rfl | simp [h1'], HB1.out⟩
        · have h1' : ¬ (1024 : Int) < (nn : Int) := by omega
          have HX2 := Lib.hid (show lg = decide (8192 < gl) from by rw [HX.out, decide_eq_false h1]; rfl)
          go_wp2_with (first
            | (go_at_call 16; refine (HNC.out _ HB.out).mono ?_; rintro e w1 ⟨rfl, hb⟩; have HB1 := Lib.hid (Below.step HB.out hb); have HKW1 := Lib.hid (bx_kept hb HKW.out); clear hb; obtain ⟨q0, _⟩ := blk1 HKW1.out)
            | (go_at_call 106; refine (HSC.out _ HB1.out).mono ?_; rintro e w2 ⟨rfl, hb⟩; have HB2 := Lib.hid (Below.step HB1.out hb); clear hb)
            | fail)
          go_ret
          exact ⟨ret_bool (by rw [HX2.out, Bool.eq_iff_iff]; simp; omega), HB2.out⟩
end Go.Proofs.YtmjkgnknfgoadaaGreatDoor
