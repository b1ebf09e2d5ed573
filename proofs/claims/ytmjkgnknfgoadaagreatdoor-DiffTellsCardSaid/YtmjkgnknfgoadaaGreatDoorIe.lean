/- The contract of bonsairef04.Exact, of any two trees. The contract of gram.Same. -/
import Derived.Test.YtmjkgnknfgoadaaGreatDoorDw
import Derived.BigQuiet
import Derived.Deep.RegionHeld3
import Derived.Deep.DeepCutAuto
import Derived.Deep.Cut
import Derived.Deep.CutRange
import Derived.Test.YtmjkgnknfgoadaaGreatDoorDs
import Derived.Test.YtmjkgnknfgoadaaGreatDoorDq
import Derived.Test.YtmjkgnknfgoadaaGreatDoorDa
namespace Go.Proofs.YtmjkgnknfgoadaaGreatDoor
open Go.RowKit
set_option linter.unusedSimpArgs false
set_option linter.unusedVariables false
theorem bx_two (w : World) (o p : Obj) : ((w.alloc o).alloc p).heap[w.heap.size + 1]? = some p := by
  have h := bx_new (w.alloc o) p
  rw [World.size_alloc] at h; exact h
theorem take_eq_next {α : Type} {l m : List α} {k : Nat} (h : l.take k = m.take k) (hl : k < l.length) (hm : k < m.length) (e : l[k] = m[k]) : l.take (k + 1) = m.take (k + 1) := by
  rw [List.take_succ_eq_append_getElem hl, List.take_succ_eq_append_getElem hm, h, e]
set_option maxRecDepth 100000 in
set_option maxHeartbeats 12800000 in
theorem exact_full (A B : Option Addr) (c d : Nat) (ls ms : List Ln) (ra rb : Int) (S T : Nat → Prop) (w : World) (hA : ndL.row w S A ls) (hB : ndL.row w T B ms) (hl : ls.length ≤ 281474976710656) (hm : ms.length ≤ 281474976710656) :
    Calls Tryz.prog 43 #[.agg #[.slice A ls.length c, .int .i64 ra], .agg #[.slice B ms.length d, .int .i64 rb]] w fun e w' => e = .returned (.bool (decide ((⟨ls.map Ln.nd, ra⟩ : Tr) = ⟨ms.map Ln.nd, rb⟩))) ∧ Below w.heap.size w w' := by
  have HA := Lib.hid hA; have HB := Lib.hid hB
  clear hA hB
  have HNO := Lib.hid (show (⟨ls.map Ln.nd, ra⟩ : Tr) ≠ ⟨ms.map Ln.nd, rb⟩ → decide ((⟨ls.map Ln.nd, ra⟩ : Tr) = ⟨ms.map Ln.nd, rb⟩) = false from fun h => decide_eq_false h)
  have HK := Lib.hid (show ∀ w', Below ((w.alloc (.cells #[.slice A ls.length c, .int .i64 ra] 48)).alloc (.cells #[.slice B ms.length d, .int .i64 rb] 48)).heap.size ((w.alloc (.cells #[.slice A ls.length c, .int .i64 ra] 48)).alloc (.cells #[.slice B ms.length d, .int .i64 rb] 48)) w' → (w'.heap[w.heap.size]? = some (.cells #[.slice A ls.length c, .int .i64 ra] 48 (0, 0)) ∧ w'.heap[w.heap.size + 1]? = some (.cells #[.slice B ms.length d, .int .i64 rb] 48 (0, 0))) ∧ Below w.heap.size w w' from fun w' hb => ⟨bx2_kept hb, Below.step (bx2 w _ _) hb⟩)
  go_enter Tryz.func43, Tryz.ntmps43
  go_upto_region 1 with (fail)
  generalize ((w.alloc (.cells #[.slice A ls.length c, .int .i64 ra] 48)).alloc (.cells #[.slice B ms.length d, .int .i64 rb] 48)) = W0 at *
  obtain ⟨⟨ha, hb⟩, hbw⟩ := HK.out W0 (Below.refl _ _)
  obtain ⟨p1, p2, _, _⟩ := blk2 ha
  obtain ⟨q1, q2, _, _⟩ := blk2 hb
  have HBW0 := Lib.hid hbw
  clear ha hb hbw
  by_cases hlen : ls.length = ms.length
  case neg =>
    have HN := Lib.hid (HNO.out fun e => hlen (by have h := congrArg (fun t : Tr => t.nodes.length) e; simpa using h))
    have e1 : ((ls.length : Int) != (ms.length : Int)) = true := by simp; omega
    have e2 : ((ls.length : Int) == (ms.length : Int)) = false := by simp; omega
    go_wp2_with fail
    go_ret
    exact ⟨ret_bool HN.out.symm, HBW0.out⟩
  have e1 : ((ls.length : Int) != (ms.length : Int)) = false := by simp [hlen]
  by_cases hroot : ra = rb
  case neg =>
    have HN := Lib.hid (HNO.out fun e => hroot (congrArg Tr.root e))
    have e3 : (ra != rb) = true := by simpa using hroot
    have e4 : (ra == rb) = false := by simpa using hroot
    have HLEN := Lib.hid hlen
    clear hlen
    go_wp2_with fail
    go_ret
    exact ⟨ret_bool HN.out.symm, HBW0.out⟩
  subst hroot
  have HLEN := Lib.hid hlen
  clear hlen
  go_wp2_with fail
  clear e1 p1 p2 q1 q2
  go_loopw [5] (fun i wr => ∃ k : Nat, k ≤ ls.length ∧ i = .int .i64 k ∧ Hid ((ls.map Ln.nd).take k = (ms.map Ln.nd).take k) ∧ Hid (Below W0.heap.size W0 wr)) (fun i _ => ls.length - (intOf i).toNat)
  case atStart => exact ⟨0, Nat.zero_le _, rfl, Lib.hid (by simp), Lib.hid (Below.refl _ _)⟩
  case round =>
    obtain ⟨k, hk, rfl, HTK, HBW⟩ := hrel
    obtain ⟨⟨ha, hb⟩, hbw⟩ := HK.out wr HBW.out
    obtain ⟨p1, p2, _, _⟩ := blk2 ha
    obtain ⟨q1, q2, _, _⟩ := blk2 hb
    have HBO := Lib.hid hbw
    by_cases hlt : k < ls.length
    · have i1 : (k : Int) < (ls.length : Int) := by omega
      have hkm : k < ms.length := by have := HLEN.out; omega
      have i3 : (k : Int) < (ms.length : Int) := by omega
      have i2 : (0 : Int) ≤ (k : Int) := by omega
      obtain ⟨ab, ao, rfl, _, hal, x0, x1, x2, x3, x4, x5, x6, x7, x8⟩ := ndRow (HA.out.below hbw) k hlt
      obtain ⟨bb, bo, rfl, _, hbl, y0, y1, y2, y3, y4, y5, y6, y7, y8⟩ := ndRow (HB.out.below hbw) k hkm
      have HSA := Lib.hid (ndSub (HA.out.below hbw) k hlt)
      have HSB := Lib.hid (ndSub (HB.out.below hbw) k hkm)
      have hka := (ndWf (HA.out.below hbw) k hlt).2.2.1
      have hkb := (ndWf (HB.out.below hbw) k hkm).2.2.1
      have HNX := Lib.hid (show ls[k].nd = ms[k].nd → (ls.map Ln.nd).take (k + 1) = (ms.map Ln.nd).take (k + 1) from fun e => take_eq_next HTK.out (by simpa using hlt) (by simpa using hkm) (by simpa using e))
      have HNE := Lib.hid (show ls[k].nd ≠ ms[k].nd → decide ((⟨ls.map Ln.nd, ra⟩ : Tr) = ⟨ms.map Ln.nd, ra⟩) = false from fun h => HNO.out fun e => h (by
        have h1 := congrArg (fun t : Tr => t.nodes[k]?) e
        simpa [hlt, hkm] using h1))
      generalize ls[k] = la at *
      generalize ms[k] = lb at *
      obtain ⟨⟨ak, a0, a1, a2, a3, at', an, ax, al⟩, KA, Kc⟩ := la
      obtain ⟨⟨bk, b0, b1, b2, b3, bt, bn, bx, bl⟩, KB, Kd⟩ := lb
      simp only at x0 x1 x2 x3 x4 x5 x6 x7 x8 y0 y1 y2 y3 y4 y5 y6 y7 y8 HSA HSB hka hkb HNX HNE
      have HST := Lib.hid (show ∀ w', Below wr.heap.size wr w' → w'.cell? ⟨w.heap.size, 0, none⟩ = some (.slice (some ⟨ab, ao, none⟩) ls.length c) ∧ w'.cell? ⟨w.heap.size + 1, 0, none⟩ = some (.slice (some ⟨bb, bo, none⟩) ms.length d) ∧ (w'.cell? ⟨ab, ao + k * 9, none⟩ = some (.int .u8 ak) ∧ w'.cell? ⟨ab, ao + k * 9 + 1, none⟩ = some (.int .u64 a0) ∧ w'.cell? ⟨ab, ao + k * 9 + 2, none⟩ = some (.int .u64 a1) ∧ w'.cell? ⟨ab, ao + k * 9 + 3, none⟩ = some (.int .u64 a2) ∧ w'.cell? ⟨ab, ao + k * 9 + 4, none⟩ = some (.int .u64 a3) ∧ w'.cell? ⟨ab, ao + k * 9 + 5, none⟩ = some (.string at') ∧ w'.cell? ⟨ab, ao + k * 9 + 6, none⟩ = some (.int .i64 an) ∧ w'.cell? ⟨ab, ao + k * 9 + 7, none⟩ = some (.int .i64 ax) ∧ w'.cell? ⟨ab, ao + k * 9 + 8, none⟩ = some (.slice KA al.length Kc)) ∧ w'.cell? ⟨bb, bo + k * 9, none⟩ = some (.int .u8 bk) ∧ w'.cell? ⟨bb, bo + k * 9 + 1, none⟩ = some (.int .u64 b0) ∧ w'.cell? ⟨bb, bo + k * 9 + 2, none⟩ = some (.int .u64 b1) ∧ w'.cell? ⟨bb, bo + k * 9 + 3, none⟩ = some (.int .u64 b2) ∧ w'.cell? ⟨bb, bo + k * 9 + 4, none⟩ = some (.int .u64 b3) ∧ w'.cell? ⟨bb, bo + k * 9 + 5, none⟩ = some (.string bt) ∧ w'.cell? ⟨bb, bo + k * 9 + 6, none⟩ = some (.int .i64 bn) ∧ w'.cell? ⟨bb, bo + k * 9 + 7, none⟩ = some (.int .i64 bx) ∧ w'.cell? ⟨bb, bo + k * 9 + 8, none⟩ = some (.slice KB bl.length Kd) from fun w' h =>
        ⟨(h.cell (cellLt p1)).trans p1, (h.cell (cellLt q1)).trans q1, ⟨(h.cell (cellLt x0)).trans x0, (h.cell (cellLt x1)).trans x1, (h.cell (cellLt x2)).trans x2, (h.cell (cellLt x3)).trans x3, (h.cell (cellLt x4)).trans x4, (h.cell (cellLt x5)).trans x5, (h.cell (cellLt x6)).trans x6, (h.cell (cellLt x7)).trans x7, (h.cell (cellLt x8)).trans x8⟩, (h.cell (cellLt y0)).trans y0, (h.cell (cellLt y1)).trans y1, (h.cell (cellLt y2)).trans y2, (h.cell (cellLt y3)).trans y3, (h.cell (cellLt y4)).trans y4, (h.cell (cellLt y5)).trans y5, (h.cell (cellLt y6)).trans y6, (h.cell (cellLt y7)).trans y7, (h.cell (cellLt y8)).trans y8⟩)
      go_upto_region 6 with (fail)
      clear p1 p2 q1 q2 x0 x1 x2 x3 x4 x5 x6 x7 x8 y0 y1 y2 y3 y4 y5 y6 y7 y8 ha hb hbw
      go_cut [6, 7] from 30 to 39 (fun v6 v7 wx => ∃ g h : Nat, v6 = .pointer (some ⟨g, 0, none⟩) ∧ v7 = .pointer (some ⟨h, 0, none⟩) ∧ Hid (wx.heap[g]? = some (.cells #[.int .u8 ak, .int .u64 a0, .int .u64 a1, .int .u64 a2, .int .u64 a3, .string at', .int .i64 an, .int .i64 ax, .slice KA al.length Kc] 71 (0, 0))) ∧ Hid (wx.heap[h]? = some (.cells #[.int .u8 bk, .int .u64 b0, .int .u64 b1, .int .u64 b2, .int .u64 b3, .string bt, .int .i64 bn, .int .i64 bx, .slice KB bl.length Kd] 71 (0, 0))) ∧ Hid (Below wr.heap.size wr wx))
      case first =>
        go_region_held3 (fun w' => w'.cell? ⟨w.heap.size, 0, none⟩ = some (.slice (some ⟨ab, ao, none⟩) ls.length c) ∧ w'.cell? ⟨w.heap.size + 1, 0, none⟩ = some (.slice (some ⟨bb, bo, none⟩) ms.length d) ∧ (w'.cell? ⟨ab, ao + k * 9, none⟩ = some (.int .u8 ak) ∧ w'.cell? ⟨ab, ao + k * 9 + 1, none⟩ = some (.int .u64 a0) ∧ w'.cell? ⟨ab, ao + k * 9 + 2, none⟩ = some (.int .u64 a1) ∧ w'.cell? ⟨ab, ao + k * 9 + 3, none⟩ = some (.int .u64 a2) ∧ w'.cell? ⟨ab, ao + k * 9 + 4, none⟩ = some (.int .u64 a3) ∧ w'.cell? ⟨ab, ao + k * 9 + 5, none⟩ = some (.string at') ∧ w'.cell? ⟨ab, ao + k * 9 + 6, none⟩ = some (.int .i64 an) ∧ w'.cell? ⟨ab, ao + k * 9 + 7, none⟩ = some (.int .i64 ax) ∧ w'.cell? ⟨ab, ao + k * 9 + 8, none⟩ = some (.slice KA al.length Kc)) ∧ w'.cell? ⟨bb, bo + k * 9, none⟩ = some (.int .u8 bk) ∧ w'.cell? ⟨bb, bo + k * 9 + 1, none⟩ = some (.int .u64 b0) ∧ w'.cell? ⟨bb, bo + k * 9 + 2, none⟩ = some (.int .u64 b1) ∧ w'.cell? ⟨bb, bo + k * 9 + 3, none⟩ = some (.int .u64 b2) ∧ w'.cell? ⟨bb, bo + k * 9 + 4, none⟩ = some (.int .u64 b3) ∧ w'.cell? ⟨bb, bo + k * 9 + 5, none⟩ = some (.string bt) ∧ w'.cell? ⟨bb, bo + k * 9 + 6, none⟩ = some (.int .i64 bn) ∧ w'.cell? ⟨bb, bo + k * 9 + 7, none⟩ = some (.int .i64 bx) ∧ w'.cell? ⟨bb, bo + k * 9 + 8, none⟩ = some (.slice KB bl.length Kd))
          (exact HST.out _ (by repeat (first | exact Below.refl _ _ | refine Below.drew ?_ | refine Below.alloc ?_ (by simp) _ | (refine Below.setCell ?_ (by simp) _))))
          (fail)
        all_goals go_wp2_with fail
        all_goals go_meet
        all_goals first
          | exact ⟨_, _, rfl, rfl, Lib.hid (bx_old (bx_new wr (.cells #[.int .u8 ak, .int .u64 a0, .int .u64 a1, .int .u64 a2, .int .u64 a3, .string at', .int .i64 an, .int .i64 ax, .slice KA al.length Kc] 71))), Lib.hid (bx_two wr (.cells #[.int .u8 ak, .int .u64 a0, .int .u64 a1, .int .u64 a2, .int .u64 a3, .string at', .int .i64 an, .int .i64 ax, .slice KA al.length Kc] 71) (.cells #[.int .u8 bk, .int .u64 b0, .int .u64 b1, .int .u64 b2, .int .u64 b3, .string bt, .int .i64 bn, .int .i64 bx, .slice KB bl.length Kd] 71)), Lib.hid (bx2 wr (.cells #[.int .u8 ak, .int .u64 a0, .int .u64 a1, .int .u64 a2, .int .u64 a3, .string at', .int .i64 an, .int .i64 ax, .slice KA al.length Kc] 71) (.cells #[.int .u8 bk, .int .u64 b0, .int .u64 b1, .int .u64 b2, .int .u64 b3, .string bt, .int .i64 bn, .int .i64 bx, .slice KB bl.length Kd] 71)).drew⟩
          | exact ⟨_, _, rfl, rfl, Lib.hid (bx_two wr (.cells #[.int .u8 bk, .int .u64 b0, .int .u64 b1, .int .u64 b2, .int .u64 b3, .string bt, .int .i64 bn, .int .i64 bx, .slice KB bl.length Kd] 71) (.cells #[.int .u8 ak, .int .u64 a0, .int .u64 a1, .int .u64 a2, .int .u64 a3, .string at', .int .i64 an, .int .i64 ax, .slice KA al.length Kc] 71)), Lib.hid (bx_old (bx_new wr (.cells #[.int .u8 bk, .int .u64 b0, .int .u64 b1, .int .u64 b2, .int .u64 b3, .string bt, .int .i64 bn, .int .i64 bx, .slice KB bl.length Kd] 71))), Lib.hid (bx2 wr (.cells #[.int .u8 bk, .int .u64 b0, .int .u64 b1, .int .u64 b2, .int .u64 b3, .string bt, .int .i64 bn, .int .i64 bx, .slice KB bl.length Kd] 71) (.cells #[.int .u8 ak, .int .u64 a0, .int .u64 a1, .int .u64 a2, .int .u64 a3, .string at', .int .i64 an, .int .i64 ax, .slice KA al.length Kc] 71)).drew⟩
      case rest =>
        obtain ⟨g, h, rfl, rfl, HXA, HXB, HWB⟩ := hcut
        have HBC := Lib.hid (Below.step HBW.out HWB.out)
        have HBD := Lib.hid (Below.step HBO.out HWB.out)
        have HSA2 := Lib.hid (HSA.out.below HWB.out)
        have HSB2 := Lib.hid (HSB.out.below HWB.out)
        clear HSA HSB HST HBW HBO
        obtain ⟨z0, z1, z2, z3, z4, z5, z6, z7, z8, _⟩ := blk9 HXA.out
        obtain ⟨y0, y1, y2, y3, y4, y5, y6, y7, y8, _⟩ := blk9 HXB.out
        have hE := fun w => eqSet w a0 a1 a2 a3 b0 b1 b2 b3
        by_cases h1 : ak = bk
        case neg =>
          have e1 : (ak == bk) = false := by simpa using h1
          have e1' : (ak != bk) = true := by simpa using h1
          have HN := Lib.hid (HNE.out fun e => h1 (congrArg Nd.kind e))
          clear h1
          as_aux_lemma =>
            go_wp2_with fail
            go_ret
            exact ⟨ret_bool HN.out.symm, HBD.out⟩
        have e1 : (ak == bk) = true := by simp [h1]
        have e1' : (ak != bk) = false := by simp [h1]
        by_cases h2 : a0 = b0 ∧ a1 = b1 ∧ a2 = b2 ∧ a3 = b3
        case neg =>
          rw [decide_eq_false h2] at hE
          have HN := Lib.hid (HNE.out fun e => h2 ⟨congrArg Nd.s0 e, congrArg Nd.s1 e, congrArg Nd.s2 e, congrArg Nd.s3 e⟩)
          clear h1 h2
          as_aux_lemma =>
            go_wp2_with fail
            go_ret
            exact ⟨ret_bool HN.out.symm, HBD.out⟩
        rw [decide_eq_true h2] at hE
        by_cases h3 : at' = bt
        case neg =>
          have e3 : (at'.toList == bt.toList) = false := by
            rw [beq_eq_false_iff_ne]
            intro e
            rw [Lib.toList_data, Lib.toList_data] at e
            exact h3 (str_ext e)
          have e3' : (at'.toList != bt.toList) = true := by simp [bne, e3]
          have HN := Lib.hid (HNE.out fun e => h3 (congrArg Nd.text e))
          clear h1 h2 h3
          as_aux_lemma =>
            go_wp2_with fail
            go_ret
            exact ⟨ret_bool HN.out.symm, HBD.out⟩
        have e3 : (at'.toList == bt.toList) = true := by simp [h3]
        have e3' : (at'.toList != bt.toList) = false := by simp [h3]
        by_cases h4 : an = bn
        case neg =>
          have e4 : (an == bn) = false := by simpa using h4
          have e4' : (an != bn) = true := by simpa using h4
          have HN := Lib.hid (HNE.out fun e => h4 (congrArg Nd.mn e))
          clear h1 h2 h3 h4
          as_aux_lemma =>
            go_wp2_with fail
            go_ret
            exact ⟨ret_bool HN.out.symm, HBD.out⟩
        have e4 : (an == bn) = true := by simp [h4]
        have e4' : (an != bn) = false := by simp [h4]
        by_cases h5 : ax = bx
        case neg =>
          have e5 : (ax == bx) = false := by simpa using h5
          have e5' : (ax != bx) = true := by simpa using h5
          have HN := Lib.hid (HNE.out fun e => h5 (congrArg Nd.mx e))
          clear h1 h2 h3 h4 h5
          as_aux_lemma =>
            go_wp2_with fail
            go_ret
            exact ⟨ret_bool HN.out.symm, HBD.out⟩
        have e5 : (ax == bx) = true := by simp [h5]
        have e5' : (ax != bx) = false := by simp [h5]
        by_cases h6 : al.length = bl.length
        case neg =>
          have e6 : ((al.length : Int) == (bl.length : Int)) = false := by simp; omega
          have e6' : ((al.length : Int) != (bl.length : Int)) = true := by simp; omega
          have HN := Lib.hid (HNE.out fun e => h6 (congrArg (fun n : Nd => n.kids.length) e))
          clear h1 h2 h3 h4 h5 h6
          as_aux_lemma =>
            go_wp2_with fail
            go_ret
            exact ⟨ret_bool HN.out.symm, HBD.out⟩
        obtain ⟨h21, h22, h23, h24⟩ := h2
        subst h1 h21 h22 h23 h24 h3 h4 h5
        have e6 : ((al.length : Int) == (bl.length : Int)) = true := by simp [h6]
        have e6' : ((al.length : Int) != (bl.length : Int)) = false := by simp [h6]
        have HL6 := Lib.hid h6
        clear h6
        as_aux_lemma =>
          go_wp2_with fail
          clear z0 z1 z2 z3 z4 z5 z6 z7 z8 y0 y1 y2 y3 y4 y5 y6 y7 y8 hE e1 e1' e3 e3' e4 e4' e5 e5' e6 e6'
          go_loopw [8] (fun i wx => ∃ j : Nat, j ≤ al.length ∧ i = .int .i64 j ∧ Hid (al.take j = bl.take j) ∧ Hid (Below wc.heap.size wc wx)) (fun i _ => al.length - (intOf i).toNat)
          case atStart => exact ⟨0, Nat.zero_le _, rfl, Lib.hid (by simp), Lib.hid (Below.refl _ _)⟩
          case round =>
            obtain ⟨j, hj, rfl, HTJ, HB2⟩ := hrel
            obtain ⟨z0, z1, z2, z3, z4, z5, z6, z7, z8, _⟩ := blk9 (bx_kept HB2.out HXA.out)
            obtain ⟨y0, y1, y2, y3, y4, y5, y6, y7, y8, _⟩ := blk9 (bx_kept HB2.out HXB.out)
            clear z0 z1 z2 z3 z4 z5 z6 z7 y0 y1 y2 y3 y4 y5 y6 y7
            by_cases hjl : j < al.length
            · have j1 : (j : Int) < (al.length : Int) := by omega
              have hjb : j < bl.length := by have := HL6.out; omega
              have j3 : (j : Int) < (bl.length : Int) := by omega
              have j2 : (0 : Int) ≤ (j : Int) := by omega
              obtain ⟨cb, co, hcb, _, _, u0⟩ := intRow (HSA2.out.below HB2.out) j hjl
              obtain ⟨db, d0, hdb, _, _, v0⟩ := intRow (HSB2.out.below HB2.out) j hjb
              rw [hcb] at z8
              rw [hdb] at y8
              clear hcb hdb
              have HJN := Lib.hid (show al[j] = bl[j] → al.take (j + 1) = bl.take (j + 1) from fun e => take_eq_next HTJ.out hjl hjb e)
              have HJE := Lib.hid (show al[j] ≠ bl[j] → al ≠ bl from fun h e => h (by subst e; rfl))
              generalize al[j] = kv at *
              generalize bl[j] = kw at *
              by_cases hkv : kv = kw
              · subst hkv
                have HJN' := Lib.hid (HJN.out rfl)
                go_wp2_with fail
                go_quiet (fail)
                go_wp2_with fail
                exact ⟨⟨j + 1, by omega, by go_num, HJN', Lib.hid (HB2.out.trans (drewN_below' (Below.refl _ _) _))⟩, by simp only [intOf]; omega⟩
              · have f1 : (kv == kw) = false := by simpa using hkv
                have f2 : (kv != kw) = true := by simpa using hkv
                have HN := Lib.hid (HNE.out fun e => HJE.out hkv (congrArg Nd.kids e))
                clear hkv
                go_wp2_with fail
                go_quiet (fail)
                go_wp2_with fail
                go_ret
                exact ⟨ret_bool HN.out.symm, drewN_below' (Below.step HBD.out HB2.out) _⟩
            · have hje : j = al.length := by omega
              subst hje
              have j1 : ¬ (al.length : Int) < (al.length : Int) := by omega
              have HNN := Lib.hid (HNX.out (by
                have h := HTJ.out
                rw [List.take_length, HL6.out, List.take_length] at h
                rw [h]))
              go_wp2_with fail
              exact ⟨⟨k + 1, by omega, by go_num, HNN, Lib.hid (Below.step HBC.out HB2.out)⟩, by simp only [intOf]; omega⟩
    · obtain rfl : k = ls.length := by omega
      have HY := Lib.hid (show decide ((⟨ls.map Ln.nd, ra⟩ : Tr) = ⟨ms.map Ln.nd, ra⟩) = true from decide_eq_true (by
        have h := HTK.out
        rw [List.take_of_length_le (by simp), List.take_of_length_le (by simp; rw [HLEN.out]; exact Nat.le_refl _)] at h
        rw [h]))
      go_wp2_with fail
      go_ret
      exact ⟨ret_bool HY.out.symm, HBO.out⟩
end Go.Proofs.YtmjkgnknfgoadaaGreatDoor
namespace Go.Proofs.YtmjkgnknfgoadaaGreatDoor
open Go.RowKit
set_option linter.unusedSimpArgs false
set_option linter.unusedVariables false
end Go.Proofs.YtmjkgnknfgoadaaGreatDoor
