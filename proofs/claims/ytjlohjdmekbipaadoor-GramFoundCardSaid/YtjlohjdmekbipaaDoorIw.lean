/- The walk of GramFound. -/
import Derived.Test.YtjlohjdmekbipaaDoorIs
import Derived.Test.YtjlohjdmekbipaaDoorIn
import Derived.Test.YtjlohjdmekbipaaDoorIh
import Derived.Test.YtjlohjdmekbipaaDoorIx
import Derived.Deep.RegionHeld3
import Derived.Deep.DeepCutAuto
import Derived.Deep.Cut
import Derived.Deep.CutRange
namespace Go.Proofs.YtjlohjdmekbipaaDoor
open Go.RowKit
set_option linter.unusedSimpArgs false
set_option linter.unusedVariables false

theorem once_find {g : List Df} (h : twiceG g = false) (k : Nat) (hk : k < g.length) : findG g g[k].name = (k : Int) :=
  findG_at g _ k hk rfl fun j hj e => by
    have := twice_no g h j k (by omega) hk e
    omega
theorem found_at {g : List Df} (h : lostG g = false) {d : Df} (hd : d ∈ g) {n : Nd} (hn : n ∈ d.body.nodes) (hk : n.kind = 3) : 0 ≤ findG g n.text := by
  simp only [lostG, List.any_eq_false] at h
  have h1 := h d hd
  simp only [Bool.not_eq_true, List.any_eq_false] at h1
  have h2 := h1 n hn
  exact Int.not_lt.1 (by simpa [hk] using h2)
theorem nodes_len {g : List Df} (h : ∀ d ∈ g, mayT d.body = true) : nodesG g = (g.map fun d => d.body.nodes.length).sum := by
  unfold nodesG
  congr 1
  refine List.map_congr_left fun d hd => ?_
  have h1 := h d hd
  simp only [mayT, Bool.and_eq_true] at h1
  unfold sizeT
  rw [if_pos h1.1.2]
theorem sum_take_le (l : List Nat) (k : Nat) : (l.take k).sum ≤ l.sum := by
  conv => rhs; rw [← List.take_append_drop k l, List.sum_append]
  omega
theorem sum_take_next (l : List Nat) (k : Nat) (h : k < l.length) : (l.take (k + 1)).sum = (l.take k).sum + l[k] := by
  rw [List.take_succ_eq_append_getElem h, List.sum_append]; simp
def FndOut (w : World) (A : Option Addr) (c : Nat) (la : List Ld) (L : List Nat) (i n : Value) (wr : World) : Prop :=
  ∃ k : Nat, k ≤ la.length ∧ i = .int .i64 k ∧ n = .int .i64 ((L.take k).sum : Nat) ∧ Hid (wr.heap[w.heap.size]? = some (.cells #[.slice A la.length c] 34 (0, 0))) ∧ Hid (Below w.heap.size w wr)
def FndIn (w : World) (A : Option Addr) (c n : Nat) (la : List Ld) (i : Value) (wr : World) : Prop :=
  ∃ q : Nat, q ≤ n ∧ i = .int .i64 q ∧ Hid (wr.heap[w.heap.size]? = some (.cells #[.slice A la.length c] 34 (0, 0))) ∧ Hid (Below w.heap.size w wr)

set_option maxRecDepth 100000 in
set_option maxHeartbeats 12800000 in
theorem gramfound_walk (A : Option Addr) (c : Nat) (la : List Ld) (S : Nat → Prop) (w : World) (hA : dfL.row w S A la) (hl1 : la.length ≤ 281474976710656) (hp : PTabs w) :
    Calls Tryd.prog 12 #[.agg #[.slice A la.length c]] w fun e w' => e = .returned (.bool true) ∧ Below w.heap.size w w' := by
  have HA := Lib.hid hA; have HP := Lib.hid hp
  clear hA hp
  generalize ho1 : Obj.cells #[.slice A la.length c] 34 (0, 0) = o1
  have HB3 := Lib.hid ((bx1 w o1).trans ((bx1 (w.alloc o1) (.cells #[.slice A la.length c] 34)).mono (by simp)))
  have HGR := Lib.hid (show grL.row ((w.alloc o1).alloc (.cells #[.slice A la.length c] 34)) (fun _ => True) (some ⟨w.heap.size + 1, 0, none⟩) [⟨A, c, la⟩] from by
    refine ⟨⟨?_, fun _ _ _ => trivial⟩, fun g hg => ?_⟩
    · have h := bx_new (w.alloc o1) (.cells #[.slice A la.length c] 34)
      rw [World.size_alloc] at h
      have h2 := row_blk (cs := [.slice A la.length c]) h
      have e : grL.all [⟨A, c, la⟩] = [.slice A la.length c] := rfl
      rw [e]; exact h2
    · simp only [List.mem_cons, List.not_mem_nil, or_false] at hg
      subst hg
      exact ⟨hl1, (HA.out.below HB3.out).mono (fun _ _ _ => trivial)⟩)
  have HKK := Lib.hid (show ∀ o w', Below ((w.alloc o1).alloc o).heap.size ((w.alloc o1).alloc o) w' → w'.heap[w.heap.size]? = some o1 from fun o w' hb => bx_kept hb (bx_old (bx_new w o1)))
  subst ho1
  go_enter Tryd.func12, Tryd.ntmps12
  go_wp2_with fail
  refine (large9_any [⟨A, c, la⟩] (some ⟨w.heap.size + 1, 0, none⟩) 1 (fun _ => True) _ HGR.out (by simp)).mono ?_
  rintro e w1 ⟨r, rfl, hr1, hb1⟩
  have HB1 := Lib.hid (Below.step HB3.out hb1)
  have HK1 := Lib.hid (HKK.out _ _ hb1)
  clear hb1 HGR HKK HB3
  cases r
  · have HS1 := Lib.hid (show Small9G la from hr1 rfl ⟨A, c, la⟩ (by simp))
    clear hr1
    go_wp2_with (go_at_call 39; refine (awake9_any _ (HP.out.below HB1.out)).mono ?_; rintro e w2 ⟨rfl, hb2⟩; have HK2 := Lib.hid (bx_kept hb2 HK1.out); have HB2 := Lib.hid (Below.step HB1.out hb2); obtain ⟨p1, p2⟩ := blk1 HK2.out; clear hb2)
    clear HK1 HB1
    have HMA := Lib.hid (show ∀ w', Below w.heap.size w w' → _ from fun w' hb => gmay_any A c la S w' (HA.out.below hb) (by have := HS1.out.1; omega) (fun d hd => by have := (HS1.out.2 d hd).1; omega) (HP.out.below hb))
    by_cases hm : mayG (la.map Ld.df) = 0
    · have HOK := Lib.hid (mayG_ok hm)
      rw [hm] at HMA
      clear hm
      go_wp2_with (go_at_call 49; refine (HMA.out _ HB2.out).mono ?_; rintro e w3 ⟨rfl, hb3⟩; have HK3 := Lib.hid (bx_kept hb3 HK2.out); have HB3 := Lib.hid (Below.step HB2.out hb3); clear hb3 p1 p2)
      clear HMA HK2 HB2
      have hs1 := HS1.out.1
      have HLN := Lib.hid (show (la.map fun d => d.t.ls.length).length = la.length from by simp)
      have HSUM := Lib.hid (show ((la.map Ld.df).map fun d => d.body.nodes.length).sum = (la.map fun d => d.t.ls.length).sum from by
        rw [List.map_map]
        congr 1
        exact List.map_congr_left fun d _ => by show (d.t.ls.map Ln.nd).length = _; simp)
      have HND := Lib.hid (show nodesG (la.map Ld.df) = (la.map fun d => d.t.ls.length).sum from (nodes_len HOK.out.may).trans HSUM.out)
      have HTOT := Lib.hid (show (la.map fun d => d.t.ls.length).sum ≤ 1024 from by have h := HOK.out.nodes; rw [HND.out] at h; exact h)
      have HAT := Lib.hid (show ∀ k (h : k < la.length), (la.map fun d => d.t.ls.length)[k]'(by rw [HLN.out]; exact h) = la[k].t.ls.length from fun k h => by simp)
      have HLG := Lib.hid (show la.length ≤ 64 from by have h := HOK.out.len; simpa using h)
      have HFD := Lib.hid (show ∀ k (h : k < la.length), findG (la.map Ld.df) la[k].name = (k : Int) from fun k h => by
        have h2 := once_find HOK.out.once k (by simpa using h)
        simpa [Ld.df] using h2)
      have HMT := Lib.hid (show ∀ k (h : k < la.length), mayT la[k].t.tr = true from fun k h => HOK.out.may la[k].df (List.mem_map.2 ⟨la[k], List.getElem_mem h, rfl⟩))
      have HFN := Lib.hid (show ∀ k (h : k < la.length) q (h2 : q < la[k].t.ls.length), la[k].t.ls[q].nd.kind = 3 → 0 ≤ findG (la.map Ld.df) la[k].t.ls[q].nd.text from fun k h q h2 h3 => found_at HOK.out.found (d := la[k].df) (List.mem_map.2 ⟨la[k], List.getElem_mem h, rfl⟩) (List.mem_map.2 ⟨la[k].t.ls[q], List.getElem_mem h2, rfl⟩) h3)
      have HCF := Lib.hid (show ∀ s w', Below w.heap.size w w' → _ from fun s w' hb => find_any A c la s S w' (HA.out.below hb) (by omega))
      clear HSUM
      generalize hL : (la.map fun d => d.t.ls.length) = L at *
      clear hL
      go_wp2_with fail
      go_loopw [4, 3] (fun i n wr => FndOut w A c la L i n wr) (fun i _ _ => la.length - (intOf i).toNat)
      case atStart => exact ⟨0, Nat.zero_le _, rfl, by simp, HK3, HB3⟩
      case round =>
        clear HK3 HB3
        obtain ⟨k, hk, rfl, rfl, HK, HB⟩ := hrel
        obtain ⟨p1, p2⟩ := blk1 HK.out
        by_cases hlt : k < la.length
        · have i1 : (k : Int) < (la.length : Int) := by omega
          have i2 : (0 : Int) ≤ (k : Int) := by omega
          obtain ⟨b, o, rfl, _, _, x0, x1, x2⟩ := dfRow (HA.out.below HB.out) k hlt
          have HS9 := Lib.hid (show ∀ w', Below wr.heap.size wr w' → w'.cell? ⟨w.heap.size, 0, none⟩ = some (.slice (some ⟨b, o, none⟩) la.length c) ∧ w'.cell? ⟨b, o + k * 3, none⟩ = some (.string la[k].name) ∧ w'.cell? ⟨b, o + k * 3 + 1, none⟩ = some (.slice la[k].t.A la[k].t.ls.length la[k].t.c) ∧ w'.cell? ⟨b, o + k * 3 + 2, none⟩ = some (.int .i64 la[k].t.root) from fun w' hb => by
            obtain ⟨b', o', e, _, _, y0, y1, y2⟩ := dfRow (HA.out.below (Below.step HB.out hb)) k hlt
            cases e
            exact ⟨(blk1 (bx_kept hb HK.out)).1, y0, y1, y2⟩)
          have HSD := Lib.hid (dfSub HA.out k hlt)
          have HF1 := Lib.hid (HFD.out k hlt)
          have HM1 := Lib.hid (HMT.out k hlt)
          have HN1 := Lib.hid (HFN.out k hlt)
          have HT1 := Lib.hid (HAT.out k hlt)
          have HD1 := Lib.hid (HS1.out.2 la[k] (List.getElem_mem hlt)).1
          have HSN := Lib.hid (sum_take_next L k (by rw [HLN.out]; exact hlt))
          rw [HT1.out] at HSN
          have HSL := Lib.hid (sum_take_le L (k + 1))
          clear x0 x1 x2 HT1
          generalize la[k] = d at *
          obtain ⟨nm, TA, tc, ls, rt⟩ := d
          simp only at HS9 HSD HF1 HM1 HN1 HD1 HSN
          have HTM := Lib.hid (show ∀ w', Below w.heap.size w w' → _ from fun w' hb => tmay_any ⟨TA, tc, ls, rt⟩ S w' (HSD.out.below hb) (by have := HD1.out; show ls.length ≤ _; omega) (HP.out.below hb).cn)
          rw [HM1.out] at HTM
          have HCK := Lib.hid (HCF.out nm)
          rw [HF1.out] at HCK
          have HC := Lib.hid (Below.refl wr.heap.size wr)
          go_upto_region 9 with (fail)
          clear p1 p2
          go_cut [44] from 18 to 77 (fun v44 wx => v44 = .bool false ∧ Hid (Below wr.heap.size wr wx))
          case first =>
            go_region_held3 (fun w' => w'.cell? ⟨w.heap.size, 0, none⟩ = some (.slice (some ⟨b, o, none⟩) la.length c) ∧ w'.cell? ⟨b, o + k * 3, none⟩ = some (.string nm) ∧ w'.cell? ⟨b, o + k * 3 + 1, none⟩ = some (.slice TA ls.length tc) ∧ w'.cell? ⟨b, o + k * 3 + 2, none⟩ = some (.int .i64 rt))
              (exact HS9.out _ (by first | exact HC.out | exact HC.out.drew))
              (first
                | (go_at_call 50; (with_reducible refine (HCK.out _ (Below.step HB.out (by first | exact HC.out | exact HC.out.drew))).mono ?_); rintro e wx ⟨rfl, hb⟩; have HC' := Lib.hid (Below.step (by first | exact HC.out | exact HC.out.drew) hb); clear HC; have HC := HC'; clear HC' hb)
                | (go_at_call 51; (with_reducible refine (HTM.out _ (Below.step HB.out (by first | exact HC.out | exact HC.out.drew))).mono ?_); rintro e wx ⟨rfl, hb⟩; have HC' := Lib.hid (Below.step (by first | exact HC.out | exact HC.out.drew) hb); clear HC; have HC := HC'; clear HC' hb)
                | fail)
            all_goals go_wp2_with fail
            all_goals go_meet
            all_goals exact ⟨rfl, HC⟩
          case rest =>
            obtain ⟨rfl, HD⟩ := hcut
            have HBc := Lib.hid (Below.step HB.out HD.out)
            have HKc := Lib.hid (bx_kept HD.out HK.out)
            obtain ⟨c0, c1, c2, c3⟩ := HS9.out wc HD.out
            have hsn := HSN.out
            have hsl := HSL.out
            have htot := HTOT.out
            have hb0 : ((L.take k).sum : Int) + (ls.length : Int) ≤ 1024 := by omega
            go_wp2_with fail
            clear c0 c1 c2 c3 HS9 HC HCK HTM
            go_loopw [6] (fun i wx => FndIn w (some ⟨b, o, none⟩) c ls.length la i wx) (fun i _ => ls.length - (intOf i).toNat)
            case atStart => exact ⟨0, Nat.zero_le _, rfl, HKc, HBc⟩
            case round =>
              clear HKc HBc HD HB HK
              obtain ⟨q, hq, rfl, HK, HB⟩ := hrel
              by_cases hql : q < ls.length
              · have i3 : (q : Int) < (ls.length : Int) := by omega
                have i4 : (0 : Int) ≤ (q : Int) := by omega
                obtain ⟨nb, no, rfl, _, _, y0, _, _, _, _, y5, _⟩ := ndRow (HSD.out.2.below HB.out) q hql
                obtain ⟨p1, p2⟩ := blk1 HK.out
                have HFQ := Lib.hid (HN1.out q hql)
                generalize ls[q] = n at *
                by_cases hkd : n.nd.kind = 3
                · have HF3 := Lib.hid (HFQ.out hkd)
                  have hk2 : (n.nd.kind == 3) = true := by simpa using hkd
                  have HCK := Lib.hid (HCF.out n.nd.text)
                  have HSQ := Lib.hid (show ∀ w', Below wr.heap.size wr w' → w'.cell? ⟨w.heap.size, 0, none⟩ = some (.slice (some ⟨b, o, none⟩) la.length c) ∧ w'.cell? ⟨nb, no + q * 9, none⟩ = some (.int .u8 n.nd.kind) ∧ w'.cell? ⟨nb, no + q * 9 + 5, none⟩ = some (.string n.nd.text) from fun w' hb => ⟨(blk1 (bx_kept hb HK.out)).1, (hb.cell (by exact cellLt y0)).trans y0, (hb.cell (by exact cellLt y5)).trans y5⟩)
                  have hff := HF3.out
                  generalize findG (la.map Ld.df) n.nd.text = ff at *
                  clear y0 y5 p1 p2 HF3 hkd
                  have hff2 : ¬ ff < 0 := by omega
                  have HC := Lib.hid (Below.refl wr.heap.size wr)
                  go_upto_region 16 with (fail)
                  go_region_held3 (fun w' => w'.cell? ⟨w.heap.size, 0, none⟩ = some (.slice (some ⟨b, o, none⟩) la.length c) ∧ w'.cell? ⟨nb, no + q * 9, none⟩ = some (.int .u8 n.nd.kind) ∧ w'.cell? ⟨nb, no + q * 9 + 5, none⟩ = some (.string n.nd.text))
                    (exact HSQ.out _ (by first | exact HC.out | exact HC.out.drew))
                    ((go_at_call 50; (with_reducible refine (HCK.out _ (Below.step HB.out (by first | exact HC.out | exact HC.out.drew))).mono ?_); rintro e wx ⟨rfl, hb⟩; have HC' := Lib.hid (Below.step (by first | exact HC.out | exact HC.out.drew) hb); clear HC; have HC := HC'; clear HC' hb))
                  go_wp2_with fail
                  exact ⟨⟨q + 1, by omega, by go_num, Lib.hid (bx_kept HC.out HK.out), Lib.hid (Below.step HB.out HC.out)⟩, by simp [intOf]; omega⟩
                · have hk2 : (n.nd.kind == 3) = false := by simpa using hkd
                  go_wp2_with fail
                  go_quiet (fail)
                  go_wp2_with fail
                  exact ⟨⟨q + 1, by omega, by go_num, Lib.hid HK.out, Lib.hid (drewN_below HB.out nq)⟩, by simp [intOf]; omega⟩
              · have hqe : q = ls.length := by omega
                have HQE := Lib.hid hqe; clear hqe
                go_wp2_with fail
                exact ⟨⟨k + 1, by omega, by go_num, by rw [HSN.out]; go_num, HK, HB⟩, by simp [intOf]; omega⟩
        · have hke : k = la.length := by omega
          have HT2 := Lib.hid (show (L.take k).sum = L.sum from by rw [hke, ← HLN.out, List.take_length])
          rw [HT2.out]
          have HNC := Lib.hid (show ∀ w', Below w.heap.size w w' → _ from fun w' hb => gnodes_any A c la S w' (HA.out.below hb) (by omega) (fun d hd => by have := (HS1.out.2 d hd).1; omega) (HP.out.below hb).cn)
          rw [HND.out] at HNC
          have HZC := Lib.hid (show ∀ w', Below w.heap.size w w' → _ from fun w' hb => psize_any A c la S w' (HA.out.below hb) (by omega) (fun d hd => by have := (HS1.out.2 d hd).1; omega) (HP.out.below hb))
          have hsz := HOK.out.size
          generalize (gramT (la.map Ld.df)).length = gz at *
          have htot := HTOT.out
          generalize L.sum = tot at *
          have hlg := HLG.out
          go_wp2_with (first
            | (go_at_call 52; refine (HNC.out _ HB.out).mono ?_; rintro e w5 ⟨rfl, hb⟩; have HB5 := Lib.hid (Below.step HB.out hb); have HK5 := Lib.hid (bx_kept hb HK.out); obtain ⟨q1, q2⟩ := blk1 HK5.out; clear hb)
            | (go_at_call 29; refine (HZC.out _ HB5.out).mono ?_; rintro e w6 ⟨rfl, hb⟩; have HB6 := Lib.hid (Below.step HB5.out hb); clear hb))
          go_ret
          exact ⟨ret_bool (by simp; omega), HB6.out⟩
    · have hm2 : (mayG (la.map Ld.df) == 0) = false := by simpa using hm
      clear hm
      generalize mayG (la.map Ld.df) = mg at *
      go_wp2_with (go_at_call 49; refine (HMA.out _ HB2.out).mono ?_; rintro e w3 ⟨rfl, hb3⟩; have HB3 := Lib.hid (Below.step HB2.out hb3); clear hb3)
      go_ret
      exact ⟨rfl, HB3.out⟩
  · as_aux_lemma =>
      go_wp2_with (go_at_call 39; refine (awake9_any _ (HP.out.below HB1.out)).mono ?_; rintro e w3 ⟨rfl, hb3⟩; have HB3 := Lib.hid (Below.step HB1.out hb3); clear hb3)
      go_ret
      exact ⟨rfl, HB3.out⟩
end Go.Proofs.YtjlohjdmekbipaaDoor
