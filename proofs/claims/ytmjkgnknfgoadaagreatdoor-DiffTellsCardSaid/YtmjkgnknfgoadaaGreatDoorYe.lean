/- The reference's May of grammars. -/
import Derived.Test.YtmjkgnknfgoadaaGreatDoorYd
import Derived.Test.YtmjkgnknfgoadaaGreatDoorUk
import Derived.Test.YtmjkgnknfgoadaaGreatDoorIh
import Derived.Test.YtmjkgnknfgoadaaGreatDoorNr
import Derived.Deep.RegionHeld3
import Derived.Deep.DeepCutAuto
import Derived.Deep.Cut
import Derived.Deep.CutRange
namespace Go.Proofs.YtmjkgnknfgoadaaGreatDoor
open Go.RowKit
set_option linter.unusedSimpArgs false
set_option linter.unusedVariables false
theorem ModR.mod8 {t : Lt} (h : ModR t) : Mod8 t := ⟨h.len, h.kids, h.all⟩
theorem mayG_bad {g : List Df} {k : Nat} (hk : k < g.length) (h : (mayL g[k].name.data.toList && normT g[k].body) = false) : mayG g = 4 := by
  unfold mayG
  rw [if_pos (.inr (List.any_eq_true.2 ⟨g[k], List.getElem_mem hk, by rw [h]; rfl⟩))]
theorem find_twice {g : List Df} {k : Nat} (hk : k < g.length) (h : findG g g[k].name ≠ (k : Int)) : twiceG g = true := by
  cases ht : twiceG g with
  | true => rfl
  | false =>
    exfalso
    by_cases hn : findG g g[k].name < 0
    · exact (findG_neg g g[k].name).1 hn g[k] (List.getElem_mem hk) rfl
    · obtain ⟨j, hj⟩ := Int.eq_ofNat_of_zero_le (Int.not_lt.1 hn)
      obtain ⟨hj2, h2, _⟩ := findG_name g g[k].name j hj
      have h3 := twice_no g ht j k hj2 hk h2
      subst h3
      exact h hj
theorem find_once {g : List Df} (h : ∀ k (hk : k < g.length), findG g g[k].name = (k : Int)) : twiceG g = false := by
  cases ht : twiceG g with
  | false => rfl
  | true =>
    exfalso
    obtain ⟨i, j, hij, hj, e⟩ := (twiceG_iff g).1 ht
    have h1 := h i (by omega); have h2 := h j hj
    rw [e, h2] at h1
    omega
theorem lost_at {g : List Df} {k j : Nat} (hk : k < g.length) (hj : j < g[k].body.nodes.length) (h3 : g[k].body.nodes[j].kind = 3) (hf : findG g g[k].body.nodes[j].text < 0) : lostG g = true := by
  unfold lostG
  exact List.any_eq_true.2 ⟨g[k], List.getElem_mem hk, List.any_eq_true.2 ⟨_, List.getElem_mem hj, by simp [h3, hf]⟩⟩
theorem lost_none {g : List Df} (h : ∀ k (hk : k < g.length), ∀ n ∈ g[k].body.nodes, ¬ (n.kind = 3 ∧ findG g n.text < 0)) : lostG g = false := by
  unfold lostG
  rw [List.any_eq_false]
  intro d hd
  obtain ⟨k, hk, rfl⟩ := List.mem_iff_getElem.1 hd
  simp only [Bool.not_eq_true, List.any_eq_false, Bool.and_eq_true, decide_eq_true_eq]
  intro n hn
  exact h k hk n hn
theorem tpost_len {l : List UInt8} {w : World} {e : Ending} {w' : World} (h : TextPost l w e w') : ∃ s : ByteArray, e = .returned (.string s) ∧ s.size = l.length ∧ Below w.heap.size w w' := ⟨⟨l.toArray⟩, h.1, by simp [ByteArray.size], h.2⟩
def bigG (g : List Df) (k : Nat) : Bool := decide (64 < g.length) || decide (1024 < nodesG g) || (g.take k).any fun d => !mayT d.body
theorem bigG_step {g : List Df} {k : Nat} (hk : k < g.length) (h : bigG g k = false) : bigG g (k + 1) = !mayT g[k].body := by
  unfold bigG at h ⊢
  simp only [Bool.or_eq_false_iff] at h
  rw [List.take_succ_eq_append_getElem hk, List.any_append, h.1.1, h.1.2, h.2]
  simp
theorem bigG_large {g : List Df} {k : Nat} (h : bigG g k = true) : largeG g = true := by
  unfold bigG at h
  unfold largeG
  simp only [Bool.or_eq_true] at h ⊢
  rcases h with (h | h) | h
  · exact .inl (.inl (.inl h))
  · exact .inl (.inr h)
  · obtain ⟨d, hd, hx⟩ := List.any_eq_true.1 h
    exact .inl (.inl (.inr (List.any_eq_true.2 ⟨d, List.mem_of_mem_take hd, hx⟩)))
theorem bigG_all {g : List Df} (h : bigG g g.length = false) : largeG g = decide (8192 < (gramT g).length) := by
  unfold bigG at h
  unfold largeG
  rw [List.take_length] at h
  simp only [Bool.or_eq_false_iff] at h
  rw [h.1.1, h.1.2, h.2]
  simp
set_option maxRecDepth 100000 in
set_option maxHeartbeats 6400000 in
theorem r9may_any (A : Option Addr) (c : Nat) (ds : List Ld) (S : Nat → Prop) (w : World) (hT : dfL.row w S A ds) (hl : ds.length ≤ 50000) (hm : ∀ d ∈ ds, ModR d.t) :
    Calls Tryz.prog 15 #[.agg #[.slice A ds.length c]] w fun e w' => e = .returned (.int .i64 (mayG (ds.map Ld.df))) ∧ Below w.heap.size w w' := by
  have HT := Lib.hid hT; have HM := Lib.hid hm
  have HNS := Lib.hid (show ∀ k (hk : k < ds.length), ds[k].name.size ≤ 281474976710656 from fun k hk => (hT.sub k hk).1)
  clear hT hm
  have HGL := Lib.hid (show (ds.map Ld.df).length = ds.length from by simp)
  have HGN := Lib.hid (show ∀ k (hk : k < ds.length) (h : k < (ds.map Ld.df).length), (ds.map Ld.df)[k].name = ds[k].name ∧ (ds.map Ld.df)[k].body = ds[k].t.tr from fun k hk h => by simp [Ld.df])
  go_enter Tryz.func15, Tryz.ntmps15
  have HB0 := Lib.hid (bx1 w (.cells #[.slice A ds.length c] 24))
  have HK0 := Lib.hid (bx_new w (.cells #[.slice A ds.length c] 24))
  by_cases h0 : ds.length = 0
  · have e1 : ((ds.length : Int) == 0) = true := by simp [h0]
    obtain rfl : ds = [] := List.eq_nil_of_length_eq_zero h0
    as_aux_lemma =>
      go_wp2_with fail
      go_ret
      exact ⟨rfl, HB0.out⟩
  have e1 : ((ds.length : Int) == 0) = false := by simp; intro h; exact h0 (by rw [h]; rfl)
  have HNE := Lib.hid (show ds.map Ld.df ≠ [] from fun h => h0 (by have := congrArg List.length h; simpa using this))
  go_wp2_with fail
  clear e1
  go_loopw [3] (fun i wr => ∃ k : Nat, k ≤ ds.length ∧ i = .int .i64 k ∧ Hid (∀ j (hj : j < (ds.map Ld.df).length), j < k → (mayL (ds.map Ld.df)[j].name.data.toList && normT (ds.map Ld.df)[j].body) = true) ∧ Hid (wr.heap[w.heap.size]? = some (.cells #[.slice A ds.length c] 24 (0, 0))) ∧ Hid (Below w.heap.size w wr)) (fun i _ => ds.length - (intOf i).toNat)
  case atStart => exact ⟨0, by omega, rfl, Lib.hid (fun _ _ h => by omega), HK0, HB0⟩
  case round =>
    clear HK0 HB0
    obtain ⟨wo, rfl⟩ : ∃ wo : World, wo = wr := ⟨_, rfl⟩
    obtain ⟨k, hk, rfl, HOK, HPW, HBW⟩ := hrel
    obtain ⟨p0, _⟩ := blk1 HPW.out
    by_cases hlt : k < ds.length
    · have i1 : (k : Int) < (ds.length : Int) := by omega
      have i2 : (0 : Int) ≤ (k : Int) := by omega
      obtain ⟨b, o, rfl, _, _, x0, x1, x2⟩ := dfRow (HT.out.agree (below_all HBW.out)) k hlt
      have HI := Lib.hid (dfSub (HT.out.agree (below_all HBW.out)) k hlt)
      have HMK := Lib.hid (HM.out ds[k] (List.getElem_mem hlt))
      have HSZ := Lib.hid (HNS.out k hlt)
      have HBADK := Lib.hid (show (mayL ds[k].name.data.toList && normT ds[k].t.tr) = false → mayG (ds.map Ld.df) = 4 from fun h => mayG_bad (k := k) (by simpa using hlt) (by rw [(HGN.out k hlt _).1, (HGN.out k hlt _).2]; exact h))
      have HGOK := Lib.hid (show (mayL ds[k].name.data.toList && normT ds[k].t.tr) = true → ∀ j (hj : j < (ds.map Ld.df).length), j < k + 1 → (mayL (ds.map Ld.df)[j].name.data.toList && normT (ds.map Ld.df)[j].body) = true from fun h j hj hjk => by
        by_cases e : j = k
        · subst e; rw [(HGN.out j hlt _).1, (HGN.out j hlt _).2]; exact h
        · exact HOK.out j hj (by omega))
      have HNC := Lib.hid (show ∀ w', Below wo.heap.size wo w' → Calls Tryz.prog 63 #[.agg #[.slice ds[k].t.A ds[k].t.ls.length ds[k].t.c, .int .i64 ds[k].t.root]] w' fun e w'' => e = .returned (.bool (normT ds[k].t.tr)) ∧ Below w'.heap.size w' w'' from fun w' hb => r5normal_any ds[k].t.A ds[k].t.c ds[k].t.ls ds[k].t.root S w' (HI.out.below hb).2 HMK.out.len HMK.out.kids HMK.out.all)
      generalize ds[k] = d at *
      generalize normT d.t.tr = nm at *
      cases hmy : mayL d.name.data.toList
      · rw [hmy] at HBADK
        have HX := Lib.hid (HBADK.out rfl)
        clear HBADK HGOK
        as_aux_lemma =>
          go_wp2_with (go_at_call 62; refine (rmay_any d.name _ HSZ.out).mono ?_; rintro e w1 ⟨rfl, rfl⟩; rw [hmy])
          go_ret
          exact ⟨by rw [HX.out]; rfl, HBW.out⟩
      · rw [hmy] at HBADK HGOK
        cases nm
        · have HX := Lib.hid (HBADK.out rfl)
          clear HBADK HGOK
          as_aux_lemma =>
            go_wp2_with (first
              | (go_at_call 62; refine (rmay_any d.name _ HSZ.out).mono ?_; rintro e w1 ⟨rfl, rfl⟩; rw [hmy])
              | (go_at_call 63; refine (HNC.out _ (Below.refl _ _)).mono ?_; rintro e w1 ⟨rfl, hb⟩; have HB1 := Lib.hid (Below.step HBW.out hb); clear hb)
              | fail)
            go_ret
            exact ⟨by rw [HX.out]; rfl, HB1.out⟩
        · have HX := Lib.hid (HGOK.out rfl)
          clear HBADK HGOK
          as_aux_lemma =>
            go_wp2_with (first
              | (go_at_call 62; refine (rmay_any d.name _ HSZ.out).mono ?_; rintro e w1 ⟨rfl, rfl⟩; rw [hmy])
              | (go_at_call 63; refine (HNC.out _ (Below.refl _ _)).mono ?_; rintro e w1 ⟨rfl, hb⟩; have HB1 := Lib.hid (Below.step HBW.out hb); have HK1 := Lib.hid (bx_kept hb HPW.out); clear hb)
              | fail)
            exact ⟨⟨k + 1, by omega, by go_num, HX, HK1, HB1⟩, by simp only [intOf]; omega⟩
    · have i1 : ¬ (k : Int) < (ds.length : Int) := by omega
      have HALL := Lib.hid (show ∀ d ∈ ds.map Ld.df, (mayL d.name.data.toList && normT d.body) = true from fun d hd => by
        obtain ⟨j, hj, rfl⟩ := List.mem_iff_getElem.1 hd
        exact HOK.out j hj (by rw [HGL.out] at hj; omega))
      have HLG := Lib.hid (show largeG (ds.map Ld.df) = true → mayG (ds.map Ld.df) = 40 from mayG_large HNE.out HALL.out)
      have HRS := Lib.hid (show largeG (ds.map Ld.df) = false → mayG (ds.map Ld.df) = if twiceG (ds.map Ld.df) then 6 else if lostG (ds.map Ld.df) then 41 else 0 from mayG_rest HNE.out HALL.out)
      have HNC := Lib.hid (show ∀ w', Below wo.heap.size wo w' → Calls Tryz.prog 17 #[.agg #[.slice A ds.length c]] w' fun e w'' => e = .returned (.int .i64 (nodesG (ds.map Ld.df) : Nat)) ∧ Below w'.heap.size w' w'' from fun w' hb => r9nodes_any A c ds S w' (HT.out.agree (below_all (Below.step HBW.out hb))) (by omega) HM.out)
      clear HOK HALL HNE hlt hk h0
      go_upto_region 8 with (fail)
      go_cut [4] (fun v wx => v = .bool (bigG (ds.map Ld.df) 0) ∧ Hid (wx.heap[w.heap.size]? = some (.cells #[.slice A ds.length c] 24 (0, 0))) ∧ Hid (Below w.heap.size w wx))
      case first =>
        by_cases h64 : 64 < ds.length
        · have n1 : (64 : Int) < (ds.length : Int) := by omega
          have HBG := Lib.hid (show bigG (ds.map Ld.df) 0 = true from by unfold bigG; rw [HGL.out, decide_eq_true h64]; rfl)
          clear h64
          as_aux_lemma =>
            go_wp2_with fail
            all_goals go_meet
            exact ⟨by rw [HBG.out], HPW, HBW⟩
        · have n1 : ¬ (64 : Int) < (ds.length : Int) := by omega
          have HBG := Lib.hid (show bigG (ds.map Ld.df) 0 = decide (1024 < nodesG (ds.map Ld.df)) from by unfold bigG; rw [HGL.out, decide_eq_false h64]; simp)
          clear h64
          as_aux_lemma =>
            go_wp2_with (go_at_call 17; refine (HNC.out _ (Below.refl _ _)).mono ?_; rintro e w1 ⟨rfl, hb⟩; have HB1 := Lib.hid (Below.step HBW.out hb); have HK1 := Lib.hid (bx_kept hb HPW.out); clear hb)
            all_goals go_meet
            exact ⟨by rw [HBG.out]; have h : ((1024 : Int) < (nodesG (ds.map Ld.df) : Int)) = (1024 < nodesG (ds.map Ld.df)) := propext (by omega); simp [h], HK1, HB1⟩
      case rest =>
        obtain ⟨rfl, HPB, HBB⟩ := hcut
        clear HPW HBW HNC p0
        go_wp2_with fail
        go_loopw [5, 4] (fun i v wr => ∃ k : Nat, k ≤ ds.length ∧ i = .int .i64 k ∧ v = .bool (bigG (ds.map Ld.df) k) ∧ Hid (wr.heap[w.heap.size]? = some (.cells #[.slice A ds.length c] 24 (0, 0))) ∧ Hid (Below w.heap.size w wr)) (fun i _ _ => ds.length - (intOf i).toNat)
        case atStart => exact ⟨0, by omega, rfl, rfl, HPB, HBB⟩
        case round =>
          clear HPB HBB i1
          obtain ⟨wo, rfl⟩ : ∃ wo : World, wo = wr := ⟨_, rfl⟩
          obtain ⟨k, hk, rfl, rfl, HPW, HBW⟩ := hrel
          obtain ⟨p0, _⟩ := blk1 HPW.out
          cases hbg : bigG (ds.map Ld.df) k
          · have HBK := Lib.hid hbg
            clear hbg
            by_cases hlt : k < ds.length
            · have i1 : (k : Int) < (ds.length : Int) := by omega
              have i2 : (0 : Int) ≤ (k : Int) := by omega
              obtain ⟨b, o, rfl, _, _, x0, x1, x2⟩ := dfRow (HT.out.agree (below_all HBW.out)) k hlt
              have HI := Lib.hid (dfSub (HT.out.agree (below_all HBW.out)) k hlt)
              have HMK := Lib.hid (HM.out ds[k] (List.getElem_mem hlt))
              have HST := Lib.hid (show bigG (ds.map Ld.df) (k + 1) = !mayT ds[k].t.tr from by rw [bigG_step (by simpa using hlt) HBK.out, (HGN.out k hlt _).2])
              have HTC := Lib.hid (show ∀ w', Below wo.heap.size wo w' → Calls Tryz.prog 64 #[.agg #[.slice ds[k].t.A ds[k].t.ls.length ds[k].t.c, .int .i64 ds[k].t.root]] w' fun e w'' => e = .returned (.bool (mayT ds[k].t.tr)) ∧ Below w'.heap.size w' w'' from fun w' hb => r4may_any ds[k].t S w' (HI.out.below hb) HMK.out)
              generalize ds[k] = d at *
              generalize mayT d.t.tr = my at *
              as_aux_lemma =>
                go_wp2_with (go_at_call 64; refine (HTC.out _ (Below.refl _ _)).mono ?_; rintro e w1 ⟨rfl, hb⟩; have HB1 := Lib.hid (Below.step HBW.out hb); have HK1 := Lib.hid (bx_kept hb HPW.out); clear hb)
                exact ⟨⟨k + 1, by omega, by go_num, by rw [HST.out], HK1, HB1⟩, by simp only [intOf]; omega⟩
            · have i1 : ¬ (k : Int) < (ds.length : Int) := by omega
              obtain rfl : k = ds.length := by omega
              have HLE := Lib.hid (bigG_all (g := ds.map Ld.df) (by rw [HGL.out]; exact HBK.out))
              have HGC := Lib.hid (show ∀ w', Below wo.heap.size wo w' → Calls Tryz.prog 65 #[.agg #[.slice A ds.length c]] w' fun e w'' => ∃ s : ByteArray, e = .returned (.string s) ∧ s.size = (gramT (ds.map Ld.df)).length ∧ Below w'.heap.size w' w'' from fun w' hb => (rgram_any A c ds S w' (HT.out.agree (below_all (Below.step HBW.out hb))) hl (fun d hd => (HM.out d hd).mod8)).mono fun e w'' h => tpost_len h)
              clear HBK hlt hk
              generalize (gramT (ds.map Ld.df)).length = gl at *
              by_cases hsz : 8192 < gl
              · have n1 : (8192 : Int) < (gl : Int) := by omega
                have HX := Lib.hid (HLG.out (by rw [HLE.out]; exact decide_eq_true hsz))
                clear hsz HLG HRS HLE
                as_aux_lemma =>
                  go_wp2_with (go_at_call 65; refine (HGC.out _ (Below.refl _ _)).mono ?_; rintro e w1 ⟨s, rfl, hs, hb⟩; have HB1 := Lib.hid (Below.step HBW.out hb); clear hb; rw [← hs] at n1)
                  go_ret
                  exact ⟨by rw [HX.out]; rfl, HB1.out⟩
              · have n1 : ¬ (8192 : Int) < (gl : Int) := by omega
                have HX := Lib.hid (HRS.out (by rw [HLE.out]; exact decide_eq_false hsz))
                clear hsz HLG HRS HLE
                go_wp2_with (go_at_call 65; refine (HGC.out _ (Below.refl _ _)).mono ?_; rintro e w1 ⟨s, rfl, hs, hb⟩; have HB1 := Lib.hid (Below.step HBW.out hb); have HK1 := Lib.hid (bx_kept hb HPW.out); clear hb; rw [← hs] at n1)
                clear HPW HBW HGC p0 n1 i1 hs
                go_loopw [6] (fun i wr => ∃ k : Nat, k ≤ ds.length ∧ i = .int .i64 k ∧ Hid (∀ j (hj : j < (ds.map Ld.df).length), j < k → findG (ds.map Ld.df) (ds.map Ld.df)[j].name = (j : Int)) ∧ Hid (wr.heap[w.heap.size]? = some (.cells #[.slice A ds.length c] 24 (0, 0))) ∧ Hid (Below w.heap.size w wr)) (fun i _ => ds.length - (intOf i).toNat)
                case atStart => exact ⟨0, by omega, rfl, Lib.hid (fun _ _ h => by omega), HK1, HB1⟩
                case round =>
                  clear HK1 HB1
                  obtain ⟨wo, rfl⟩ : ∃ wo : World, wo = wr := ⟨_, rfl⟩
                  obtain ⟨k, hk, rfl, HON, HPW, HBW⟩ := hrel
                  obtain ⟨p0, _⟩ := blk1 HPW.out
                  by_cases hlt : k < ds.length
                  · have i1 : (k : Int) < (ds.length : Int) := by omega
                    have i2 : (0 : Int) ≤ (k : Int) := by omega
                    have HRW := Lib.hid (show ∀ w', Below wo.heap.size wo w' → ∃ b o, A = some ⟨b, o, none⟩ ∧ w'.cell? ⟨b, o + k * 3, none⟩ = some (.string ds[k].name) from fun w' hb => by
                      obtain ⟨b, o, h1, _, _, h2, h3, h4⟩ := dfRow (HT.out.agree (below_all (Below.step HBW.out hb))) k hlt
                      exact ⟨b, o, h1, h2⟩)
                    have HFC := Lib.hid (show ∀ w', Below wo.heap.size wo w' → Calls Tryz.prog 13 #[.agg #[.slice A ds.length c], .string ds[k].name] w' fun e w'' => e = .returned (.int .i64 (findG (ds.map Ld.df) ds[k].name)) ∧ Below w'.heap.size w' w'' from fun w' hb => r9find_any A c ds ds[k].name S w' (HT.out.agree (below_all (Below.step HBW.out hb))) (by omega))
                    have HTW := Lib.hid (show findG (ds.map Ld.df) ds[k].name ≠ (k : Int) → mayG (ds.map Ld.df) = 6 from fun h => by
                      rw [HX.out, if_pos (find_twice (k := k) (by simpa using hlt) (by rw [(HGN.out k hlt _).1]; exact h))])
                    have HNXT := Lib.hid (show findG (ds.map Ld.df) ds[k].name = (k : Int) → ∀ j (hj : j < (ds.map Ld.df).length), j < k + 1 → findG (ds.map Ld.df) (ds.map Ld.df)[j].name = (j : Int) from fun h j hj hjk => by
                      by_cases e : j = k
                      · subst e; rw [(HGN.out j hlt _).1]; exact h
                      · exact HON.out j hj (by omega))
                    generalize ds[k].name = nk at *
                    generalize findG (ds.map Ld.df) nk = fv at *
                    have HX0 := HX
                    clear HX HON hlt
                    obtain ⟨b, o, rfl, x0⟩ := HRW.out wo (Below.refl _ _)
                    have HS3 := Lib.hid (show ∀ w', Below wo.heap.size wo w' → w'.cell? ⟨w.heap.size, 0, none⟩ = some (.slice (some ⟨b, o, none⟩) ds.length c) ∧ w'.cell? ⟨b, o + k * 3, none⟩ = some (.string nk) from fun w' hb => by
                      obtain ⟨p0, _⟩ := blk1 (bx_kept hb HPW.out)
                      obtain ⟨_, _, e1, h1⟩ := HRW.out w' hb
                      cases e1
                      exact ⟨p0, h1⟩)
                    clear HRW
                    go_upto_region 18 with (fail)
                    clear p0 x0
                    obtain ⟨SP, HSD⟩ : ∃ SP : World → Prop, Hid (SP = fun w' => w'.cell? ⟨w.heap.size, 0, none⟩ = some (.slice (some ⟨b, o, none⟩) ds.length c) ∧ w'.cell? ⟨b, o + k * 3, none⟩ = some (.string nk)) := ⟨_, Lib.hid rfl⟩
                    have HE0 := Lib.hid (Below.refl wo.heap.size wo)
                    by_cases hf : fv = (k : Int)
                    · have e1 : (fv == (k : Int)) = true := by simpa using hf
                      have HX := Lib.hid (HNXT.out hf)
                      clear hf HNXT HTW
                      as_aux_lemma =>
                        refine wp_region_held_drew (S := SP) (by kernel_rfl) (by rw [HSD.out]; exact HS3.out _ (by first | exact HE0.out | exact HE0.out.drew)) (fun hHeld => ?_)
                        try simp only [Act.put, List.setIfInBounds_toArray, List.set_cons_zero, List.set_cons_succ]
                        (refine wpAnyH_take (i := 0) (oi := { dst := some 81, op := Go.Op.load 24 (Go.Operand.tmp 1), type := 24, pos := "ref.go:58", after := #[], guard := none }) (v := ?_) rfl (by kernel_rfl) (by kernel_rfl) (by kernel_rfl) (fun _ _ _ h => h) (Or.inl ⟨by rfl, ?_⟩) (by assumption) ?_; rotate_left 1; (focus (intro w hSw; rw [HSD.out] at hSw; (try dsimp only at hSw); go_simp; (try with_reducible rfl))); (try simp only [Act.put, List.setIfInBounds_toArray, List.set_cons_zero, List.set_cons_succ]))
                        (refine wpAnyH_take (i := 1) (oi := { dst := some 82, op := Go.Op.fieldAddr 24 (Go.Operand.tmp 1) 0, type := 0, pos := "ref.go:58", after := #[], guard := none }) (v := ?_) rfl (by kernel_rfl) (by kernel_rfl) (by kernel_rfl) (fun _ _ _ h => h) (Or.inl ⟨by rfl, ?_⟩) (by assumption) ?_; rotate_left 1; (focus (intro w hSw; rw [HSD.out] at hSw; (try dsimp only at hSw); go_simp; (try with_reducible rfl))); (try simp only [Act.put, List.setIfInBounds_toArray, List.set_cons_zero, List.set_cons_succ]))
                        (refine wpAnyH_take (i := 2) (oi := { dst := some 83, op := Go.Op.load 22 (Go.Operand.tmp 82), type := 22, pos := "ref.go:58", after := #[{ on := 1, ground := Go.Ground.data }], guard := none }) (v := ?_) rfl (by kernel_rfl) (by kernel_rfl) (by kernel_rfl) (fun _ _ _ h => h) (Or.inl ⟨by rfl, ?_⟩) (by assumption) ?_; rotate_left 1; (focus (intro w hSw; rw [HSD.out] at hSw; (try dsimp only at hSw); go_simp; (try with_reducible rfl))); (try simp only [Act.put, List.setIfInBounds_toArray, List.set_cons_zero, List.set_cons_succ]))
                        (refine wpAnyH_take (i := 3) (oi := { dst := some 84, op := Go.Op.move (Go.Operand.tmp 6), type := 3, pos := "ref.go:58", after := #[], guard := none }) (v := ?_) rfl (by kernel_rfl) (by kernel_rfl) (by kernel_rfl) (fun _ _ _ h => h) (Or.inl ⟨by rfl, ?_⟩) (by assumption) ?_; rotate_left 1; (focus (intro w hSw; rw [HSD.out] at hSw; (try dsimp only at hSw); go_simp; (try with_reducible rfl))); (try simp only [Act.put, List.setIfInBounds_toArray, List.set_cons_zero, List.set_cons_succ]))
                        (refine wpAnyH_take (i := 4) (oi := { dst := some 85, op := Go.Op.indexAddr 22 (Go.Operand.tmp 83) (Go.Operand.tmp 84), type := 0, pos := "ref.go:58", after := #[{ on := 2, ground := Go.Ground.data }, { on := 3, ground := Go.Ground.data }], guard := none }) (v := ?_) rfl (by kernel_rfl) (by kernel_rfl) (by kernel_rfl) (fun _ _ _ h => h) (Or.inl ⟨by rfl, ?_⟩) (by assumption) ?_; rotate_left 1; (focus (intro w hSw; rw [HSD.out] at hSw; (try dsimp only at hSw); go_simp; (try with_reducible rfl))); (try simp only [Act.put, List.setIfInBounds_toArray, List.set_cons_zero, List.set_cons_succ]))
                        (refine wpAnyH_take (i := 5) (oi := { dst := some 86, op := Go.Op.fieldAddr 50 (Go.Operand.tmp 85) 0, type := 0, pos := "ref.go:58", after := #[{ on := 4, ground := Go.Ground.data }], guard := none }) (v := ?_) rfl (by kernel_rfl) (by kernel_rfl) (by kernel_rfl) (fun _ _ _ h => h) (Or.inl ⟨by rfl, ?_⟩) (by assumption) ?_; rotate_left 1; (focus (intro w hSw; rw [HSD.out] at hSw; (try dsimp only at hSw); go_simp; (try with_reducible rfl))); (try simp only [Act.put, List.setIfInBounds_toArray, List.set_cons_zero, List.set_cons_succ]))
                        (refine wpAnyH_take (i := 6) (oi := { dst := some 87, op := Go.Op.load 9 (Go.Operand.tmp 86), type := 9, pos := "ref.go:58", after := #[{ on := 5, ground := Go.Ground.data }], guard := none }) (v := ?_) rfl (by kernel_rfl) (by kernel_rfl) (by kernel_rfl) (fun _ _ _ h => h) (Or.inl ⟨by rfl, ?_⟩) (by assumption) ?_; rotate_left 1; (focus (intro w hSw; rw [HSD.out] at hSw; (try dsimp only at hSw); go_simp; (try with_reducible rfl))); (try simp only [Act.put, List.setIfInBounds_toArray, List.set_cons_zero, List.set_cons_succ]))
                        (refine wpAnyH_take (i := 8) (oi := { dst := some 89, op := Go.Op.move (Go.Operand.tmp 6), type := 3, pos := "ref.go:58", after := #[], guard := none }) (v := ?_) rfl (by kernel_rfl) (by kernel_rfl) (by kernel_rfl) (fun _ _ _ h => h) (Or.inl ⟨by rfl, ?_⟩) (by assumption) ?_; rotate_left 1; (focus (intro w hSw; rw [HSD.out] at hSw; (try dsimp only at hSw); go_simp; (try with_reducible rfl))); (try simp only [Act.put, List.setIfInBounds_toArray, List.set_cons_zero, List.set_cons_succ]))
                        (refine wpAnyH_ready (rs := [7]) (by kernel_rfl) (by simp) ?_; refine AllReadyH.cons (o := { dst := some 88, op := Go.Op.call { callee := Go.Callee.value (Go.Operand.func 13), args := #[Go.Operand.tmp 81, Go.Operand.tmp 87], argTypes := #[24, 9] }, type := 3, pos := "ref.go:58", after := #[{ on := 0, ground := Go.Ground.data }, { on := 6, ground := Go.Ground.data }], guard := none }) rfl (fun K hK => ?_) AllReadyH.nil; go_simp; (go_at_call 13; (with_reducible refine (HFC.out _ (by first | exact HE0.out | exact HE0.out.drew)).mono ?_); rintro e wx ⟨rfl, hb⟩; have HE' := Lib.hid (Below.step (by first | exact HE0.out | exact HE0.out.drew) hb); clear HE0; have HE0 := HE'; clear HE' hb); (try go_wp2_with fail); refine hK.out _ _ (by rw [HSD.out]; exact HS3.out _ (by first | exact HE0.out | exact HE0.out.drew)) (fun hHeld => ?_); clear hK K; (try simp only [Act.put, List.setIfInBounds_toArray, List.set_cons_zero, List.set_cons_succ]))
                        (refine wpAnyH_take (i := 9) (oi := { dst := some 90, op := Go.Op.binOp Go.BinOp.neq 3 (Go.Operand.tmp 88) (Go.Operand.tmp 89) 3, type := 4, pos := "ref.go:58", after := #[{ on := 7, ground := Go.Ground.data }, { on := 8, ground := Go.Ground.data }], guard := none }) (v := ?_) rfl (by kernel_rfl) (by kernel_rfl) (by kernel_rfl) (fun _ _ _ h => h) (Or.inl ⟨by rfl, ?_⟩) (by assumption) ?_; rotate_left 1; (focus (intro w hSw; rw [HSD.out] at hSw; (try dsimp only at hSw); go_simp; (try with_reducible rfl))); (try simp only [Act.put, List.setIfInBounds_toArray, List.set_cons_zero, List.set_cons_succ]))
                        refine wpAnyH_done (by kernel_rfl) ?_ _
                        go_wp2_with fail
                        exact ⟨⟨k + 1, by omega, by go_num, HX, Lib.hid (bx_kept (by first | exact HE0.out | exact HE0.out.drew) HPW.out), Lib.hid (Below.step HBW.out (by first | exact HE0.out | exact HE0.out.drew))⟩, by simp only [intOf]; omega⟩
                    · have e1 : (fv == (k : Int)) = false := by simpa using hf
                      have HX := Lib.hid (HTW.out hf)
                      clear hf HNXT HTW
                      as_aux_lemma =>
                        refine wp_region_held_drew (S := SP) (by kernel_rfl) (by rw [HSD.out]; exact HS3.out _ (by first | exact HE0.out | exact HE0.out.drew)) (fun hHeld => ?_)
                        try simp only [Act.put, List.setIfInBounds_toArray, List.set_cons_zero, List.set_cons_succ]
                        (refine wpAnyH_take (i := 0) (oi := { dst := some 81, op := Go.Op.load 24 (Go.Operand.tmp 1), type := 24, pos := "ref.go:58", after := #[], guard := none }) (v := ?_) rfl (by kernel_rfl) (by kernel_rfl) (by kernel_rfl) (fun _ _ _ h => h) (Or.inl ⟨by rfl, ?_⟩) (by assumption) ?_; rotate_left 1; (focus (intro w hSw; rw [HSD.out] at hSw; (try dsimp only at hSw); go_simp; (try with_reducible rfl))); (try simp only [Act.put, List.setIfInBounds_toArray, List.set_cons_zero, List.set_cons_succ]))
                        (refine wpAnyH_take (i := 1) (oi := { dst := some 82, op := Go.Op.fieldAddr 24 (Go.Operand.tmp 1) 0, type := 0, pos := "ref.go:58", after := #[], guard := none }) (v := ?_) rfl (by kernel_rfl) (by kernel_rfl) (by kernel_rfl) (fun _ _ _ h => h) (Or.inl ⟨by rfl, ?_⟩) (by assumption) ?_; rotate_left 1; (focus (intro w hSw; rw [HSD.out] at hSw; (try dsimp only at hSw); go_simp; (try with_reducible rfl))); (try simp only [Act.put, List.setIfInBounds_toArray, List.set_cons_zero, List.set_cons_succ]))
                        (refine wpAnyH_take (i := 2) (oi := { dst := some 83, op := Go.Op.load 22 (Go.Operand.tmp 82), type := 22, pos := "ref.go:58", after := #[{ on := 1, ground := Go.Ground.data }], guard := none }) (v := ?_) rfl (by kernel_rfl) (by kernel_rfl) (by kernel_rfl) (fun _ _ _ h => h) (Or.inl ⟨by rfl, ?_⟩) (by assumption) ?_; rotate_left 1; (focus (intro w hSw; rw [HSD.out] at hSw; (try dsimp only at hSw); go_simp; (try with_reducible rfl))); (try simp only [Act.put, List.setIfInBounds_toArray, List.set_cons_zero, List.set_cons_succ]))
                        (refine wpAnyH_take (i := 3) (oi := { dst := some 84, op := Go.Op.move (Go.Operand.tmp 6), type := 3, pos := "ref.go:58", after := #[], guard := none }) (v := ?_) rfl (by kernel_rfl) (by kernel_rfl) (by kernel_rfl) (fun _ _ _ h => h) (Or.inl ⟨by rfl, ?_⟩) (by assumption) ?_; rotate_left 1; (focus (intro w hSw; rw [HSD.out] at hSw; (try dsimp only at hSw); go_simp; (try with_reducible rfl))); (try simp only [Act.put, List.setIfInBounds_toArray, List.set_cons_zero, List.set_cons_succ]))
                        (refine wpAnyH_take (i := 4) (oi := { dst := some 85, op := Go.Op.indexAddr 22 (Go.Operand.tmp 83) (Go.Operand.tmp 84), type := 0, pos := "ref.go:58", after := #[{ on := 2, ground := Go.Ground.data }, { on := 3, ground := Go.Ground.data }], guard := none }) (v := ?_) rfl (by kernel_rfl) (by kernel_rfl) (by kernel_rfl) (fun _ _ _ h => h) (Or.inl ⟨by rfl, ?_⟩) (by assumption) ?_; rotate_left 1; (focus (intro w hSw; rw [HSD.out] at hSw; (try dsimp only at hSw); go_simp; (try with_reducible rfl))); (try simp only [Act.put, List.setIfInBounds_toArray, List.set_cons_zero, List.set_cons_succ]))
                        (refine wpAnyH_take (i := 5) (oi := { dst := some 86, op := Go.Op.fieldAddr 50 (Go.Operand.tmp 85) 0, type := 0, pos := "ref.go:58", after := #[{ on := 4, ground := Go.Ground.data }], guard := none }) (v := ?_) rfl (by kernel_rfl) (by kernel_rfl) (by kernel_rfl) (fun _ _ _ h => h) (Or.inl ⟨by rfl, ?_⟩) (by assumption) ?_; rotate_left 1; (focus (intro w hSw; rw [HSD.out] at hSw; (try dsimp only at hSw); go_simp; (try with_reducible rfl))); (try simp only [Act.put, List.setIfInBounds_toArray, List.set_cons_zero, List.set_cons_succ]))
                        (refine wpAnyH_take (i := 6) (oi := { dst := some 87, op := Go.Op.load 9 (Go.Operand.tmp 86), type := 9, pos := "ref.go:58", after := #[{ on := 5, ground := Go.Ground.data }], guard := none }) (v := ?_) rfl (by kernel_rfl) (by kernel_rfl) (by kernel_rfl) (fun _ _ _ h => h) (Or.inl ⟨by rfl, ?_⟩) (by assumption) ?_; rotate_left 1; (focus (intro w hSw; rw [HSD.out] at hSw; (try dsimp only at hSw); go_simp; (try with_reducible rfl))); (try simp only [Act.put, List.setIfInBounds_toArray, List.set_cons_zero, List.set_cons_succ]))
                        (refine wpAnyH_take (i := 8) (oi := { dst := some 89, op := Go.Op.move (Go.Operand.tmp 6), type := 3, pos := "ref.go:58", after := #[], guard := none }) (v := ?_) rfl (by kernel_rfl) (by kernel_rfl) (by kernel_rfl) (fun _ _ _ h => h) (Or.inl ⟨by rfl, ?_⟩) (by assumption) ?_; rotate_left 1; (focus (intro w hSw; rw [HSD.out] at hSw; (try dsimp only at hSw); go_simp; (try with_reducible rfl))); (try simp only [Act.put, List.setIfInBounds_toArray, List.set_cons_zero, List.set_cons_succ]))
                        (refine wpAnyH_ready (rs := [7]) (by kernel_rfl) (by simp) ?_; refine AllReadyH.cons (o := { dst := some 88, op := Go.Op.call { callee := Go.Callee.value (Go.Operand.func 13), args := #[Go.Operand.tmp 81, Go.Operand.tmp 87], argTypes := #[24, 9] }, type := 3, pos := "ref.go:58", after := #[{ on := 0, ground := Go.Ground.data }, { on := 6, ground := Go.Ground.data }], guard := none }) rfl (fun K hK => ?_) AllReadyH.nil; go_simp; (go_at_call 13; (with_reducible refine (HFC.out _ (by first | exact HE0.out | exact HE0.out.drew)).mono ?_); rintro e wx ⟨rfl, hb⟩; have HE' := Lib.hid (Below.step (by first | exact HE0.out | exact HE0.out.drew) hb); clear HE0; have HE0 := HE'; clear HE' hb); (try go_wp2_with fail); refine hK.out _ _ (by rw [HSD.out]; exact HS3.out _ (by first | exact HE0.out | exact HE0.out.drew)) (fun hHeld => ?_); clear hK K; (try simp only [Act.put, List.setIfInBounds_toArray, List.set_cons_zero, List.set_cons_succ]))
                        (refine wpAnyH_take (i := 9) (oi := { dst := some 90, op := Go.Op.binOp Go.BinOp.neq 3 (Go.Operand.tmp 88) (Go.Operand.tmp 89) 3, type := 4, pos := "ref.go:58", after := #[{ on := 7, ground := Go.Ground.data }, { on := 8, ground := Go.Ground.data }], guard := none }) (v := ?_) rfl (by kernel_rfl) (by kernel_rfl) (by kernel_rfl) (fun _ _ _ h => h) (Or.inl ⟨by rfl, ?_⟩) (by assumption) ?_; rotate_left 1; (focus (intro w hSw; rw [HSD.out] at hSw; (try dsimp only at hSw); go_simp; (try with_reducible rfl))); (try simp only [Act.put, List.setIfInBounds_toArray, List.set_cons_zero, List.set_cons_succ]))
                        refine wpAnyH_done (by kernel_rfl) ?_ _
                        go_wp2_with fail
                        go_ret
                        exact ⟨by rw [HX.out]; rfl, Below.step HBW.out (by first | exact HE0.out | exact HE0.out.drew)⟩
                  · have i1 : ¬ (k : Int) < (ds.length : Int) := by omega
                    have HX1 := Lib.hid (show mayG (ds.map Ld.df) = if lostG (ds.map Ld.df) then 41 else 0 from by
                      rw [HX.out, if_neg]
                      simp only [Bool.not_eq_true]
                      exact find_once fun j hj => HON.out j hj (by rw [HGL.out] at hj; omega))
                    clear HX HON hlt hk
                    go_wp2_with fail
                    clear i1 p0
                    go_loopw [7] (fun i wr => ∃ k : Nat, k ≤ ds.length ∧ i = .int .i64 k ∧ Hid (∀ j (hj : j < (ds.map Ld.df).length), j < k → ∀ n ∈ (ds.map Ld.df)[j].body.nodes, ¬ (n.kind = 3 ∧ findG (ds.map Ld.df) n.text < 0)) ∧ Hid (wr.heap[w.heap.size]? = some (.cells #[.slice A ds.length c] 24 (0, 0))) ∧ Hid (Below w.heap.size w wr)) (fun i _ => ds.length - (intOf i).toNat)
                    case atStart => exact ⟨0, by omega, rfl, Lib.hid (fun _ _ h => by omega), HPW, HBW⟩
                    case round =>
                      clear HPW HBW
                      obtain ⟨wo, rfl⟩ : ∃ wo : World, wo = wr := ⟨_, rfl⟩
                      obtain ⟨k, hk, rfl, HON, HPW, HBW⟩ := hrel
                      obtain ⟨p0, _⟩ := blk1 HPW.out
                      by_cases hlt : k < ds.length
                      · have i1 : (k : Int) < (ds.length : Int) := by omega
                        have i2 : (0 : Int) ≤ (k : Int) := by omega
                        obtain ⟨b, o, rfl, _, _, x0, x1, x2⟩ := dfRow (HT.out.agree (below_all HBW.out)) k hlt
                        have HI := Lib.hid (show ∀ w', Below w.heap.size w w' → ndL.row w' S ds[k].t.A ds[k].t.ls from fun w' hb => (dfSub (HT.out.agree (below_all hb)) k hlt).2)
                        have HLS := Lib.hid (HM.out ds[k] (List.getElem_mem hlt)).len
                        have HLO := Lib.hid (show ∀ j (hj : j < ds[k].t.ls.length), ds[k].t.ls[j].nd.kind = 3 → findG (ds.map Ld.df) ds[k].t.ls[j].nd.text < 0 → mayG (ds.map Ld.df) = 41 from fun j hj h3 hf => by
                          have hg := (HGN.out k hlt (by simpa using hlt)).2
                          have hj2 : j < ((ds.map Ld.df)[k]'(by simpa using hlt)).body.nodes.length := by rw [hg]; simpa [Lt.tr] using hj
                          have hn : ((ds.map Ld.df)[k]'(by simpa using hlt)).body.nodes[j] = ds[k].t.ls[j].nd := by simp only [hg]; simp [Lt.tr]
                          rw [HX1.out, if_pos (lost_at (k := k) (j := j) (by simpa using hlt) hj2 (by rw [hn]; exact h3) (by rw [hn]; exact hf))])
                        have HNXT := Lib.hid (show (∀ n ∈ ds[k].t.ls.map Ln.nd, ¬ (n.kind = 3 ∧ findG (ds.map Ld.df) n.text < 0)) → ∀ j (hj : j < (ds.map Ld.df).length), j < k + 1 → ∀ n ∈ (ds.map Ld.df)[j].body.nodes, ¬ (n.kind = 3 ∧ findG (ds.map Ld.df) n.text < 0) from fun h j hj hjk => by
                          by_cases e : j = k
                          · subst e; rw [(HGN.out j hlt _).2]; exact h
                          · exact HON.out j hj (by omega))
                        have HFA := Lib.hid (show ∀ s w', Below w.heap.size w w' → Calls Tryz.prog 13 #[.agg #[.slice (some ⟨b, o, none⟩) ds.length c], .string s] w' fun e w'' => e = .returned (.int .i64 (findG (ds.map Ld.df) s)) ∧ Below w'.heap.size w' w'' from fun s w' hb => r9find_any _ c ds s S w' (HT.out.agree (below_all hb)) (by omega))
                        generalize ds[k] = d at *
                        clear HON
                        go_wp2_with fail
                        clear x0 x1 x2 p0
                        obtain ⟨nm, ⟨lA, lc, ls, lr⟩⟩ := d
                        simp only at HI HLS HLO HNXT
                        go_loopw [9] (fun i wr => ∃ j : Nat, j ≤ ls.length ∧ i = .int .i64 j ∧ Hid (∀ n ∈ (ls.map Ln.nd).take j, ¬ (n.kind = 3 ∧ findG (ds.map Ld.df) n.text < 0)) ∧ Hid (wr.heap[w.heap.size]? = some (.cells #[.slice (some ⟨b, o, none⟩) ds.length c] 24 (0, 0))) ∧ Hid (Below w.heap.size w wr)) (fun i _ => ls.length - (intOf i).toNat)
                        case atStart => exact ⟨0, by omega, rfl, Lib.hid (by simp), HPW, HBW⟩
                        case round =>
                          clear HPW HBW
                          obtain ⟨wx0, rfl⟩ : ∃ wx : World, wx = wr := ⟨_, rfl⟩
                          obtain ⟨j, hj, rfl, HOJ, HPX, HBX⟩ := hrel
                          have hls := HLS.out
                          by_cases hjl : j < ls.length
                          · have j1 : (j : Int) < (ls.length : Int) := by omega
                            have j2 : (0 : Int) ≤ (j : Int) := by omega
                            have HRW := Lib.hid (show ∀ w', Below wx0.heap.size wx0 w' → ∃ b o, lA = some ⟨b, o, none⟩ ∧ w'.cell? ⟨b, o + j * 9, none⟩ = some (.int .u8 ls[j].nd.kind) ∧ w'.cell? ⟨b, o + j * 9 + 5, none⟩ = some (.string ls[j].nd.text) from fun w' hb => by
                              obtain ⟨b, o, h1, _, _, h2, _, _, _, _, h3, _⟩ := ndRow (HI.out w' (Below.step HBX.out hb)) j hjl
                              exact ⟨b, o, h1, h2, h3⟩)
                            have HLJ := Lib.hid (HLO.out j hjl)
                            have HNJ := Lib.hid (show ¬ (ls[j].nd.kind = 3 ∧ findG (ds.map Ld.df) ls[j].nd.text < 0) → ∀ n ∈ (ls.map Ln.nd).take (j + 1), ¬ (n.kind = 3 ∧ findG (ds.map Ld.df) n.text < 0) from fun h n hn => by
                              rw [List.take_succ_eq_append_getElem (by simpa using hjl)] at hn
                              rcases List.mem_append.1 hn with hn | hn
                              · exact HOJ.out n hn
                              · simp only [List.mem_singleton, List.getElem_map] at hn; subst hn; exact h)
                            have HFC := Lib.hid (show ∀ w', Below wx0.heap.size wx0 w' → _ from fun w' hb => HFA.out ls[j].nd.text w' (Below.step HBX.out hb))
                            generalize ls[j].nd.kind = kd at *
                            generalize ls[j].nd.text = tx at *
                            generalize findG (ds.map Ld.df) tx = fv at *
                            clear HLO HOJ
                            obtain ⟨b', o', rfl, y0, y5⟩ := HRW.out wx0 (Below.refl _ _)
                            have HS3 := Lib.hid (show ∀ w', Below wx0.heap.size wx0 w' → w'.cell? ⟨w.heap.size, 0, none⟩ = some (.slice (some ⟨b, o, none⟩) ds.length c) ∧ w'.cell? ⟨b', o' + j * 9, none⟩ = some (.int .u8 kd) ∧ w'.cell? ⟨b', o' + j * 9 + 5, none⟩ = some (.string tx) from fun w' hb => by
                              obtain ⟨p0, _⟩ := blk1 (bx_kept hb HPX.out)
                              obtain ⟨_, _, e1, h1, h2⟩ := HRW.out w' hb
                              cases e1
                              exact ⟨p0, h1, h2⟩)
                            clear HRW
                            go_upto_region 27 with (fail)
                            clear y0 y5
                            go_cut [126] (fun v wx => v = .bool (decide (kd = 3 ∧ fv < 0)) ∧ Hid (Below wx0.heap.size wx0 wx))
                            case first =>
                              obtain ⟨SP, HSD⟩ : ∃ SP : World → Prop, Hid (SP = fun w' => w'.cell? ⟨w.heap.size, 0, none⟩ = some (.slice (some ⟨b, o, none⟩) ds.length c) ∧ w'.cell? ⟨b', o' + j * 9, none⟩ = some (.int .u8 kd) ∧ w'.cell? ⟨b', o' + j * 9 + 5, none⟩ = some (.string tx)) := ⟨_, Lib.hid rfl⟩
                              have HE0 := Lib.hid (Below.refl wx0.heap.size wx0)
                              have hund : undef = Value.tuple #[] := rfl
                              clear HLJ HNJ HFA HI HT HM HNS HGN HGL HX1 HNXT HPX HBX
                              by_cases h3 : kd = 3
                              · have e3 : (kd == 3) = true := by simpa using h3
                                by_cases hf : fv < 0
                                · have HDD := Lib.hid (decide_eq_true (p := kd = 3 ∧ fv < 0) ⟨h3, hf⟩)
                                  clear h3
                                  as_aux_lemma =>
                                    refine wp_region_held_drew (S := SP) (by kernel_rfl) (by rw [HSD.out]; exact HS3.out _ (by first | exact HE0.out | exact HE0.out.drew)) (fun hHeld => ?_)
                                    try simp only [Act.put, List.setIfInBounds_toArray, List.set_cons_zero, List.set_cons_succ]
                                    (refine wpAnyH_take (i := 0) (oi := { dst := some 111, op := Go.Op.move (Go.Operand.tmp 8), type := 46, pos := "ref.go:65", after := #[], guard := none }) (v := ?_) rfl (by kernel_rfl) (by kernel_rfl) (by kernel_rfl) (fun _ _ _ h => h) (Or.inl ⟨by rfl, ?_⟩) (by assumption) ?_; rotate_left 1; (focus (intro w hSw; rw [HSD.out] at hSw; (try dsimp only at hSw); go_simp; (try with_reducible rfl))); (try simp only [Act.put, List.setIfInBounds_toArray, List.set_cons_zero, List.set_cons_succ]))
                                    (refine wpAnyH_take (i := 1) (oi := { dst := some 112, op := Go.Op.move (Go.Operand.tmp 9), type := 3, pos := "ref.go:65", after := #[], guard := none }) (v := ?_) rfl (by kernel_rfl) (by kernel_rfl) (by kernel_rfl) (fun _ _ _ h => h) (Or.inl ⟨by rfl, ?_⟩) (by assumption) ?_; rotate_left 1; (focus (intro w hSw; rw [HSD.out] at hSw; (try dsimp only at hSw); go_simp; (try with_reducible rfl))); (try simp only [Act.put, List.setIfInBounds_toArray, List.set_cons_zero, List.set_cons_succ]))
                                    (refine wpAnyH_take (i := 2) (oi := { dst := some 113, op := Go.Op.indexAddr 46 (Go.Operand.tmp 111) (Go.Operand.tmp 112), type := 0, pos := "ref.go:65", after := #[{ on := 0, ground := Go.Ground.data }, { on := 1, ground := Go.Ground.data }], guard := none }) (v := ?_) rfl (by kernel_rfl) (by kernel_rfl) (by kernel_rfl) (fun _ _ _ h => h) (Or.inl ⟨by rfl, ?_⟩) (by assumption) ?_; rotate_left 1; (focus (intro w hSw; rw [HSD.out] at hSw; (try dsimp only at hSw); go_simp; (try with_reducible rfl))); (try simp only [Act.put, List.setIfInBounds_toArray, List.set_cons_zero, List.set_cons_succ]))
                                    (refine wpAnyH_take (i := 3) (oi := { dst := some 114, op := Go.Op.fieldAddr 71 (Go.Operand.tmp 113) 0, type := 0, pos := "ref.go:65", after := #[{ on := 2, ground := Go.Ground.data }], guard := none }) (v := ?_) rfl (by kernel_rfl) (by kernel_rfl) (by kernel_rfl) (fun _ _ _ h => h) (Or.inl ⟨by rfl, ?_⟩) (by assumption) ?_; rotate_left 1; (focus (intro w hSw; rw [HSD.out] at hSw; (try dsimp only at hSw); go_simp; (try with_reducible rfl))); (try simp only [Act.put, List.setIfInBounds_toArray, List.set_cons_zero, List.set_cons_succ]))
                                    (refine wpAnyH_take (i := 4) (oi := { dst := some 115, op := Go.Op.load 5 (Go.Operand.tmp 114), type := 5, pos := "ref.go:65", after := #[{ on := 3, ground := Go.Ground.data }], guard := none }) (v := ?_) rfl (by kernel_rfl) (by kernel_rfl) (by kernel_rfl) (fun _ _ _ h => h) (Or.inl ⟨by rfl, ?_⟩) (by assumption) ?_; rotate_left 1; (focus (intro w hSw; rw [HSD.out] at hSw; (try dsimp only at hSw); go_simp; (try with_reducible rfl))); (try simp only [Act.put, List.setIfInBounds_toArray, List.set_cons_zero, List.set_cons_succ]))
                                    (refine wpAnyH_take (i := 5) (oi := { dst := some 116, op := Go.Op.binOp Go.BinOp.eql 5 (Go.Operand.tmp 115) (Go.Operand.const (Go.Value.int Go.IntKind.u8 3)) 5, type := 4, pos := "ref.go:65", after := #[{ on := 4, ground := Go.Ground.data }], guard := none }) (v := ?_) rfl (by kernel_rfl) (by kernel_rfl) (by kernel_rfl) (fun _ _ _ h => h) (Or.inl ⟨by rfl, ?_⟩) (by assumption) ?_; rotate_left 1; (focus (intro w hSw; rw [HSD.out] at hSw; (try dsimp only at hSw); go_simp; (try with_reducible rfl))); (try simp only [Act.put, List.setIfInBounds_toArray, List.set_cons_zero, List.set_cons_succ]))
                                    (refine wpAnyH_take (i := 6) (oi := { dst := some 117, op := Go.Op.move (Go.Operand.tmp 116), type := 4, pos := "ref.go:65", after := #[{ on := 5, ground := Go.Ground.data }], guard := none }) (v := ?_) rfl (by kernel_rfl) (by kernel_rfl) (by kernel_rfl) (fun _ _ _ h => h) (Or.inl ⟨by rfl, ?_⟩) (by assumption) ?_; rotate_left 1; (focus (intro w hSw; rw [HSD.out] at hSw; (try dsimp only at hSw); go_simp; (try with_reducible rfl))); (try simp only [Act.put, List.setIfInBounds_toArray, List.set_cons_zero, List.set_cons_succ]))
                                    (refine wpAnyH_take (i := 7) (oi := { dst := some 118, op := Go.Op.load 24 (Go.Operand.tmp 1), type := 24, pos := "ref.go:65", after := #[{ on := 6, ground := Go.Ground.guard }], guard := some (6, true) }) (v := ?_) rfl (by kernel_rfl) (by kernel_rfl) (by kernel_rfl) (fun _ _ _ h => h) (Or.inl ⟨by rfl, ?_⟩) (by assumption) ?_; rotate_left 1; (focus (intro w hSw; rw [HSD.out] at hSw; (try dsimp only at hSw); go_simp; (try with_reducible rfl))); (try simp only [Act.put, List.setIfInBounds_toArray, List.set_cons_zero, List.set_cons_succ]))
                                    (refine wpAnyH_take (i := 8) (oi := { dst := some 119, op := Go.Op.move (Go.Operand.tmp 8), type := 46, pos := "ref.go:65", after := #[{ on := 6, ground := Go.Ground.guard }], guard := some (6, true) }) (v := ?_) rfl (by kernel_rfl) (by kernel_rfl) (by kernel_rfl) (fun _ _ _ h => h) (Or.inl ⟨by rfl, ?_⟩) (by assumption) ?_; rotate_left 1; (focus (intro w hSw; rw [HSD.out] at hSw; (try dsimp only at hSw); go_simp; (try with_reducible rfl))); (try simp only [Act.put, List.setIfInBounds_toArray, List.set_cons_zero, List.set_cons_succ]))
                                    (refine wpAnyH_take (i := 9) (oi := { dst := some 120, op := Go.Op.move (Go.Operand.tmp 9), type := 3, pos := "ref.go:65", after := #[{ on := 6, ground := Go.Ground.guard }], guard := some (6, true) }) (v := ?_) rfl (by kernel_rfl) (by kernel_rfl) (by kernel_rfl) (fun _ _ _ h => h) (Or.inl ⟨by rfl, ?_⟩) (by assumption) ?_; rotate_left 1; (focus (intro w hSw; rw [HSD.out] at hSw; (try dsimp only at hSw); go_simp; (try with_reducible rfl))); (try simp only [Act.put, List.setIfInBounds_toArray, List.set_cons_zero, List.set_cons_succ]))
                                    (refine wpAnyH_take (i := 10) (oi := { dst := some 121, op := Go.Op.indexAddr 46 (Go.Operand.tmp 119) (Go.Operand.tmp 120), type := 0, pos := "ref.go:65", after := #[{ on := 8, ground := Go.Ground.data }, { on := 9, ground := Go.Ground.data }, { on := 6, ground := Go.Ground.guard }], guard := some (6, true) }) (v := ?_) rfl (by kernel_rfl) (by kernel_rfl) (by kernel_rfl) (fun _ _ _ h => h) (Or.inl ⟨by rfl, ?_⟩) (by assumption) ?_; rotate_left 1; (focus (intro w hSw; rw [HSD.out] at hSw; (try dsimp only at hSw); go_simp; (try with_reducible rfl))); (try simp only [Act.put, List.setIfInBounds_toArray, List.set_cons_zero, List.set_cons_succ]))
                                    (refine wpAnyH_take (i := 11) (oi := { dst := some 122, op := Go.Op.fieldAddr 71 (Go.Operand.tmp 121) 2, type := 0, pos := "ref.go:65", after := #[{ on := 10, ground := Go.Ground.data }, { on := 6, ground := Go.Ground.guard }], guard := some (6, true) }) (v := ?_) rfl (by kernel_rfl) (by kernel_rfl) (by kernel_rfl) (fun _ _ _ h => h) (Or.inl ⟨by rfl, ?_⟩) (by assumption) ?_; rotate_left 1; (focus (intro w hSw; rw [HSD.out] at hSw; (try dsimp only at hSw); go_simp; (try with_reducible rfl))); (try simp only [Act.put, List.setIfInBounds_toArray, List.set_cons_zero, List.set_cons_succ]))
                                    (refine wpAnyH_take (i := 12) (oi := { dst := some 123, op := Go.Op.load 9 (Go.Operand.tmp 122), type := 9, pos := "ref.go:65", after := #[{ on := 11, ground := Go.Ground.data }, { on := 6, ground := Go.Ground.guard }], guard := some (6, true) }) (v := ?_) rfl (by kernel_rfl) (by kernel_rfl) (by kernel_rfl) (fun _ _ _ h => h) (Or.inl ⟨by rfl, ?_⟩) (by assumption) ?_; rotate_left 1; (focus (intro w hSw; rw [HSD.out] at hSw; (try dsimp only at hSw); go_simp; (try with_reducible rfl))); (try simp only [Act.put, List.setIfInBounds_toArray, List.set_cons_zero, List.set_cons_succ]))
                                    (refine wpAnyH_ready (rs := [13]) (by kernel_rfl) (by simp) ?_; refine AllReadyH.cons (o := { dst := some 124, op := Go.Op.call { callee := Go.Callee.value (Go.Operand.func 13), args := #[Go.Operand.tmp 118, Go.Operand.tmp 123], argTypes := #[24, 9] }, type := 3, pos := "ref.go:65", after := #[{ on := 7, ground := Go.Ground.data }, { on := 12, ground := Go.Ground.data }, { on := 6, ground := Go.Ground.chain }, { on := 6, ground := Go.Ground.guard }], guard := some (6, true) }) rfl (fun K hK => ?_) AllReadyH.nil; go_simp; (go_at_call 13; (with_reducible refine (HFC.out _ (by first | exact HE0.out | exact HE0.out.drew)).mono ?_); rintro e wx ⟨rfl, hb⟩; have HE' := Lib.hid (Below.step (by first | exact HE0.out | exact HE0.out.drew) hb); clear HE0; have HE0 := HE'; clear HE' hb); (try go_wp2_with fail); refine hK.out _ _ (by rw [HSD.out]; exact HS3.out _ (by first | exact HE0.out | exact HE0.out.drew)) (fun hHeld => ?_); clear hK K; (try simp only [Act.put, List.setIfInBounds_toArray, List.set_cons_zero, List.set_cons_succ]))
                                    (refine wpAnyH_take (i := 14) (oi := { dst := some 125, op := Go.Op.binOp Go.BinOp.lss 3 (Go.Operand.tmp 124) (Go.Operand.const (Go.Value.int Go.IntKind.i64 0)) 3, type := 4, pos := "ref.go:65", after := #[{ on := 13, ground := Go.Ground.data }, { on := 6, ground := Go.Ground.guard }], guard := some (6, true) }) (v := ?_) rfl (by kernel_rfl) (by kernel_rfl) (by kernel_rfl) (fun _ _ _ h => h) (Or.inl ⟨by rfl, ?_⟩) (by assumption) ?_; rotate_left 1; (focus (intro w hSw; rw [HSD.out] at hSw; (try dsimp only at hSw); go_simp; (try with_reducible rfl))); (try simp only [Act.put, List.setIfInBounds_toArray, List.set_cons_zero, List.set_cons_succ]))
                                    (refine wpAnyH_take (i := 15) (oi := { dst := some 126, op := Go.Op.pick (Go.Operand.tmp 117) (Go.Operand.tmp 125) (Go.Operand.const (Go.Value.bool false)), type := 4, pos := "ref.go:65", after := #[{ on := 6, ground := Go.Ground.data }, { on := 14, ground := Go.Ground.data }], guard := none }) (v := ?_) rfl (by kernel_rfl) (by kernel_rfl) (by kernel_rfl) (fun _ _ _ h => h) (Or.inl ⟨by rfl, ?_⟩) (by assumption) ?_; rotate_left 1; (focus (intro w hSw; rw [HSD.out] at hSw; (try dsimp only at hSw); go_simp; (try with_reducible rfl))); (try simp only [Act.put, List.setIfInBounds_toArray, List.set_cons_zero, List.set_cons_succ]))
                                    refine wpAnyH_done (by kernel_rfl) ?_ _
                                    go_wp2_with fail
                                    go_meet
                                    exact ⟨by rw [HDD.out] <;> first | done | simp [hf], by first | exact HE0 | exact Lib.hid HE0.out.drew⟩
                                · have HDD := Lib.hid (decide_eq_false (p := kd = 3 ∧ fv < 0) (fun h => hf h.2))
                                  clear h3
                                  as_aux_lemma =>
                                    refine wp_region_held_drew (S := SP) (by kernel_rfl) (by rw [HSD.out]; exact HS3.out _ (by first | exact HE0.out | exact HE0.out.drew)) (fun hHeld => ?_)
                                    try simp only [Act.put, List.setIfInBounds_toArray, List.set_cons_zero, List.set_cons_succ]
                                    (refine wpAnyH_take (i := 0) (oi := { dst := some 111, op := Go.Op.move (Go.Operand.tmp 8), type := 46, pos := "ref.go:65", after := #[], guard := none }) (v := ?_) rfl (by kernel_rfl) (by kernel_rfl) (by kernel_rfl) (fun _ _ _ h => h) (Or.inl ⟨by rfl, ?_⟩) (by assumption) ?_; rotate_left 1; (focus (intro w hSw; rw [HSD.out] at hSw; (try dsimp only at hSw); go_simp; (try with_reducible rfl))); (try simp only [Act.put, List.setIfInBounds_toArray, List.set_cons_zero, List.set_cons_succ]))
                                    (refine wpAnyH_take (i := 1) (oi := { dst := some 112, op := Go.Op.move (Go.Operand.tmp 9), type := 3, pos := "ref.go:65", after := #[], guard := none }) (v := ?_) rfl (by kernel_rfl) (by kernel_rfl) (by kernel_rfl) (fun _ _ _ h => h) (Or.inl ⟨by rfl, ?_⟩) (by assumption) ?_; rotate_left 1; (focus (intro w hSw; rw [HSD.out] at hSw; (try dsimp only at hSw); go_simp; (try with_reducible rfl))); (try simp only [Act.put, List.setIfInBounds_toArray, List.set_cons_zero, List.set_cons_succ]))
                                    (refine wpAnyH_take (i := 2) (oi := { dst := some 113, op := Go.Op.indexAddr 46 (Go.Operand.tmp 111) (Go.Operand.tmp 112), type := 0, pos := "ref.go:65", after := #[{ on := 0, ground := Go.Ground.data }, { on := 1, ground := Go.Ground.data }], guard := none }) (v := ?_) rfl (by kernel_rfl) (by kernel_rfl) (by kernel_rfl) (fun _ _ _ h => h) (Or.inl ⟨by rfl, ?_⟩) (by assumption) ?_; rotate_left 1; (focus (intro w hSw; rw [HSD.out] at hSw; (try dsimp only at hSw); go_simp; (try with_reducible rfl))); (try simp only [Act.put, List.setIfInBounds_toArray, List.set_cons_zero, List.set_cons_succ]))
                                    (refine wpAnyH_take (i := 3) (oi := { dst := some 114, op := Go.Op.fieldAddr 71 (Go.Operand.tmp 113) 0, type := 0, pos := "ref.go:65", after := #[{ on := 2, ground := Go.Ground.data }], guard := none }) (v := ?_) rfl (by kernel_rfl) (by kernel_rfl) (by kernel_rfl) (fun _ _ _ h => h) (Or.inl ⟨by rfl, ?_⟩) (by assumption) ?_; rotate_left 1; (focus (intro w hSw; rw [HSD.out] at hSw; (try dsimp only at hSw); go_simp; (try with_reducible rfl))); (try simp only [Act.put, List.setIfInBounds_toArray, List.set_cons_zero, List.set_cons_succ]))
                                    (refine wpAnyH_take (i := 4) (oi := { dst := some 115, op := Go.Op.load 5 (Go.Operand.tmp 114), type := 5, pos := "ref.go:65", after := #[{ on := 3, ground := Go.Ground.data }], guard := none }) (v := ?_) rfl (by kernel_rfl) (by kernel_rfl) (by kernel_rfl) (fun _ _ _ h => h) (Or.inl ⟨by rfl, ?_⟩) (by assumption) ?_; rotate_left 1; (focus (intro w hSw; rw [HSD.out] at hSw; (try dsimp only at hSw); go_simp; (try with_reducible rfl))); (try simp only [Act.put, List.setIfInBounds_toArray, List.set_cons_zero, List.set_cons_succ]))
                                    (refine wpAnyH_take (i := 5) (oi := { dst := some 116, op := Go.Op.binOp Go.BinOp.eql 5 (Go.Operand.tmp 115) (Go.Operand.const (Go.Value.int Go.IntKind.u8 3)) 5, type := 4, pos := "ref.go:65", after := #[{ on := 4, ground := Go.Ground.data }], guard := none }) (v := ?_) rfl (by kernel_rfl) (by kernel_rfl) (by kernel_rfl) (fun _ _ _ h => h) (Or.inl ⟨by rfl, ?_⟩) (by assumption) ?_; rotate_left 1; (focus (intro w hSw; rw [HSD.out] at hSw; (try dsimp only at hSw); go_simp; (try with_reducible rfl))); (try simp only [Act.put, List.setIfInBounds_toArray, List.set_cons_zero, List.set_cons_succ]))
                                    (refine wpAnyH_take (i := 6) (oi := { dst := some 117, op := Go.Op.move (Go.Operand.tmp 116), type := 4, pos := "ref.go:65", after := #[{ on := 5, ground := Go.Ground.data }], guard := none }) (v := ?_) rfl (by kernel_rfl) (by kernel_rfl) (by kernel_rfl) (fun _ _ _ h => h) (Or.inl ⟨by rfl, ?_⟩) (by assumption) ?_; rotate_left 1; (focus (intro w hSw; rw [HSD.out] at hSw; (try dsimp only at hSw); go_simp; (try with_reducible rfl))); (try simp only [Act.put, List.setIfInBounds_toArray, List.set_cons_zero, List.set_cons_succ]))
                                    (refine wpAnyH_take (i := 7) (oi := { dst := some 118, op := Go.Op.load 24 (Go.Operand.tmp 1), type := 24, pos := "ref.go:65", after := #[{ on := 6, ground := Go.Ground.guard }], guard := some (6, true) }) (v := ?_) rfl (by kernel_rfl) (by kernel_rfl) (by kernel_rfl) (fun _ _ _ h => h) (Or.inl ⟨by rfl, ?_⟩) (by assumption) ?_; rotate_left 1; (focus (intro w hSw; rw [HSD.out] at hSw; (try dsimp only at hSw); go_simp; (try with_reducible rfl))); (try simp only [Act.put, List.setIfInBounds_toArray, List.set_cons_zero, List.set_cons_succ]))
                                    (refine wpAnyH_take (i := 8) (oi := { dst := some 119, op := Go.Op.move (Go.Operand.tmp 8), type := 46, pos := "ref.go:65", after := #[{ on := 6, ground := Go.Ground.guard }], guard := some (6, true) }) (v := ?_) rfl (by kernel_rfl) (by kernel_rfl) (by kernel_rfl) (fun _ _ _ h => h) (Or.inl ⟨by rfl, ?_⟩) (by assumption) ?_; rotate_left 1; (focus (intro w hSw; rw [HSD.out] at hSw; (try dsimp only at hSw); go_simp; (try with_reducible rfl))); (try simp only [Act.put, List.setIfInBounds_toArray, List.set_cons_zero, List.set_cons_succ]))
                                    (refine wpAnyH_take (i := 9) (oi := { dst := some 120, op := Go.Op.move (Go.Operand.tmp 9), type := 3, pos := "ref.go:65", after := #[{ on := 6, ground := Go.Ground.guard }], guard := some (6, true) }) (v := ?_) rfl (by kernel_rfl) (by kernel_rfl) (by kernel_rfl) (fun _ _ _ h => h) (Or.inl ⟨by rfl, ?_⟩) (by assumption) ?_; rotate_left 1; (focus (intro w hSw; rw [HSD.out] at hSw; (try dsimp only at hSw); go_simp; (try with_reducible rfl))); (try simp only [Act.put, List.setIfInBounds_toArray, List.set_cons_zero, List.set_cons_succ]))
                                    (refine wpAnyH_take (i := 10) (oi := { dst := some 121, op := Go.Op.indexAddr 46 (Go.Operand.tmp 119) (Go.Operand.tmp 120), type := 0, pos := "ref.go:65", after := #[{ on := 8, ground := Go.Ground.data }, { on := 9, ground := Go.Ground.data }, { on := 6, ground := Go.Ground.guard }], guard := some (6, true) }) (v := ?_) rfl (by kernel_rfl) (by kernel_rfl) (by kernel_rfl) (fun _ _ _ h => h) (Or.inl ⟨by rfl, ?_⟩) (by assumption) ?_; rotate_left 1; (focus (intro w hSw; rw [HSD.out] at hSw; (try dsimp only at hSw); go_simp; (try with_reducible rfl))); (try simp only [Act.put, List.setIfInBounds_toArray, List.set_cons_zero, List.set_cons_succ]))
                                    (refine wpAnyH_take (i := 11) (oi := { dst := some 122, op := Go.Op.fieldAddr 71 (Go.Operand.tmp 121) 2, type := 0, pos := "ref.go:65", after := #[{ on := 10, ground := Go.Ground.data }, { on := 6, ground := Go.Ground.guard }], guard := some (6, true) }) (v := ?_) rfl (by kernel_rfl) (by kernel_rfl) (by kernel_rfl) (fun _ _ _ h => h) (Or.inl ⟨by rfl, ?_⟩) (by assumption) ?_; rotate_left 1; (focus (intro w hSw; rw [HSD.out] at hSw; (try dsimp only at hSw); go_simp; (try with_reducible rfl))); (try simp only [Act.put, List.setIfInBounds_toArray, List.set_cons_zero, List.set_cons_succ]))
                                    (refine wpAnyH_take (i := 12) (oi := { dst := some 123, op := Go.Op.load 9 (Go.Operand.tmp 122), type := 9, pos := "ref.go:65", after := #[{ on := 11, ground := Go.Ground.data }, { on := 6, ground := Go.Ground.guard }], guard := some (6, true) }) (v := ?_) rfl (by kernel_rfl) (by kernel_rfl) (by kernel_rfl) (fun _ _ _ h => h) (Or.inl ⟨by rfl, ?_⟩) (by assumption) ?_; rotate_left 1; (focus (intro w hSw; rw [HSD.out] at hSw; (try dsimp only at hSw); go_simp; (try with_reducible rfl))); (try simp only [Act.put, List.setIfInBounds_toArray, List.set_cons_zero, List.set_cons_succ]))
                                    (refine wpAnyH_ready (rs := [13]) (by kernel_rfl) (by simp) ?_; refine AllReadyH.cons (o := { dst := some 124, op := Go.Op.call { callee := Go.Callee.value (Go.Operand.func 13), args := #[Go.Operand.tmp 118, Go.Operand.tmp 123], argTypes := #[24, 9] }, type := 3, pos := "ref.go:65", after := #[{ on := 7, ground := Go.Ground.data }, { on := 12, ground := Go.Ground.data }, { on := 6, ground := Go.Ground.chain }, { on := 6, ground := Go.Ground.guard }], guard := some (6, true) }) rfl (fun K hK => ?_) AllReadyH.nil; go_simp; (go_at_call 13; (with_reducible refine (HFC.out _ (by first | exact HE0.out | exact HE0.out.drew)).mono ?_); rintro e wx ⟨rfl, hb⟩; have HE' := Lib.hid (Below.step (by first | exact HE0.out | exact HE0.out.drew) hb); clear HE0; have HE0 := HE'; clear HE' hb); (try go_wp2_with fail); refine hK.out _ _ (by rw [HSD.out]; exact HS3.out _ (by first | exact HE0.out | exact HE0.out.drew)) (fun hHeld => ?_); clear hK K; (try simp only [Act.put, List.setIfInBounds_toArray, List.set_cons_zero, List.set_cons_succ]))
                                    (refine wpAnyH_take (i := 14) (oi := { dst := some 125, op := Go.Op.binOp Go.BinOp.lss 3 (Go.Operand.tmp 124) (Go.Operand.const (Go.Value.int Go.IntKind.i64 0)) 3, type := 4, pos := "ref.go:65", after := #[{ on := 13, ground := Go.Ground.data }, { on := 6, ground := Go.Ground.guard }], guard := some (6, true) }) (v := ?_) rfl (by kernel_rfl) (by kernel_rfl) (by kernel_rfl) (fun _ _ _ h => h) (Or.inl ⟨by rfl, ?_⟩) (by assumption) ?_; rotate_left 1; (focus (intro w hSw; rw [HSD.out] at hSw; (try dsimp only at hSw); go_simp; (try with_reducible rfl))); (try simp only [Act.put, List.setIfInBounds_toArray, List.set_cons_zero, List.set_cons_succ]))
                                    (refine wpAnyH_take (i := 15) (oi := { dst := some 126, op := Go.Op.pick (Go.Operand.tmp 117) (Go.Operand.tmp 125) (Go.Operand.const (Go.Value.bool false)), type := 4, pos := "ref.go:65", after := #[{ on := 6, ground := Go.Ground.data }, { on := 14, ground := Go.Ground.data }], guard := none }) (v := ?_) rfl (by kernel_rfl) (by kernel_rfl) (by kernel_rfl) (fun _ _ _ h => h) (Or.inl ⟨by rfl, ?_⟩) (by assumption) ?_; rotate_left 1; (focus (intro w hSw; rw [HSD.out] at hSw; (try dsimp only at hSw); go_simp; (try with_reducible rfl))); (try simp only [Act.put, List.setIfInBounds_toArray, List.set_cons_zero, List.set_cons_succ]))
                                    refine wpAnyH_done (by kernel_rfl) ?_ _
                                    go_wp2_with fail
                                    go_meet
                                    exact ⟨by rw [HDD.out] <;> first | done | simp [hf], by first | exact HE0 | exact Lib.hid HE0.out.drew⟩
                              · have e3 : (kd == 3) = false := by simpa using h3
                                have HDD := Lib.hid (decide_eq_false (p := kd = 3 ∧ fv < 0) (fun h => h3 h.1))
                                clear h3
                                as_aux_lemma =>
                                  refine wp_region_held_drew (S := SP) (by kernel_rfl) (by rw [HSD.out]; exact HS3.out _ (by first | exact HE0.out | exact HE0.out.drew)) (fun hHeld => ?_)
                                  try simp only [Act.put, List.setIfInBounds_toArray, List.set_cons_zero, List.set_cons_succ]
                                  (refine wpAnyH_take (i := 0) (oi := { dst := some 111, op := Go.Op.move (Go.Operand.tmp 8), type := 46, pos := "ref.go:65", after := #[], guard := none }) (v := ?_) rfl (by kernel_rfl) (by kernel_rfl) (by kernel_rfl) (fun _ _ _ h => h) (Or.inl ⟨by rfl, ?_⟩) (by assumption) ?_; rotate_left 1; (focus (intro w hSw; rw [HSD.out] at hSw; (try dsimp only at hSw); go_simp; (try with_reducible rfl))); (try simp only [Act.put, List.setIfInBounds_toArray, List.set_cons_zero, List.set_cons_succ]))
                                  (refine wpAnyH_take (i := 1) (oi := { dst := some 112, op := Go.Op.move (Go.Operand.tmp 9), type := 3, pos := "ref.go:65", after := #[], guard := none }) (v := ?_) rfl (by kernel_rfl) (by kernel_rfl) (by kernel_rfl) (fun _ _ _ h => h) (Or.inl ⟨by rfl, ?_⟩) (by assumption) ?_; rotate_left 1; (focus (intro w hSw; rw [HSD.out] at hSw; (try dsimp only at hSw); go_simp; (try with_reducible rfl))); (try simp only [Act.put, List.setIfInBounds_toArray, List.set_cons_zero, List.set_cons_succ]))
                                  (refine wpAnyH_take (i := 2) (oi := { dst := some 113, op := Go.Op.indexAddr 46 (Go.Operand.tmp 111) (Go.Operand.tmp 112), type := 0, pos := "ref.go:65", after := #[{ on := 0, ground := Go.Ground.data }, { on := 1, ground := Go.Ground.data }], guard := none }) (v := ?_) rfl (by kernel_rfl) (by kernel_rfl) (by kernel_rfl) (fun _ _ _ h => h) (Or.inl ⟨by rfl, ?_⟩) (by assumption) ?_; rotate_left 1; (focus (intro w hSw; rw [HSD.out] at hSw; (try dsimp only at hSw); go_simp; (try with_reducible rfl))); (try simp only [Act.put, List.setIfInBounds_toArray, List.set_cons_zero, List.set_cons_succ]))
                                  (refine wpAnyH_take (i := 3) (oi := { dst := some 114, op := Go.Op.fieldAddr 71 (Go.Operand.tmp 113) 0, type := 0, pos := "ref.go:65", after := #[{ on := 2, ground := Go.Ground.data }], guard := none }) (v := ?_) rfl (by kernel_rfl) (by kernel_rfl) (by kernel_rfl) (fun _ _ _ h => h) (Or.inl ⟨by rfl, ?_⟩) (by assumption) ?_; rotate_left 1; (focus (intro w hSw; rw [HSD.out] at hSw; (try dsimp only at hSw); go_simp; (try with_reducible rfl))); (try simp only [Act.put, List.setIfInBounds_toArray, List.set_cons_zero, List.set_cons_succ]))
                                  (refine wpAnyH_take (i := 4) (oi := { dst := some 115, op := Go.Op.load 5 (Go.Operand.tmp 114), type := 5, pos := "ref.go:65", after := #[{ on := 3, ground := Go.Ground.data }], guard := none }) (v := ?_) rfl (by kernel_rfl) (by kernel_rfl) (by kernel_rfl) (fun _ _ _ h => h) (Or.inl ⟨by rfl, ?_⟩) (by assumption) ?_; rotate_left 1; (focus (intro w hSw; rw [HSD.out] at hSw; (try dsimp only at hSw); go_simp; (try with_reducible rfl))); (try simp only [Act.put, List.setIfInBounds_toArray, List.set_cons_zero, List.set_cons_succ]))
                                  (refine wpAnyH_take (i := 5) (oi := { dst := some 116, op := Go.Op.binOp Go.BinOp.eql 5 (Go.Operand.tmp 115) (Go.Operand.const (Go.Value.int Go.IntKind.u8 3)) 5, type := 4, pos := "ref.go:65", after := #[{ on := 4, ground := Go.Ground.data }], guard := none }) (v := ?_) rfl (by kernel_rfl) (by kernel_rfl) (by kernel_rfl) (fun _ _ _ h => h) (Or.inl ⟨by rfl, ?_⟩) (by assumption) ?_; rotate_left 1; (focus (intro w hSw; rw [HSD.out] at hSw; (try dsimp only at hSw); go_simp; (try with_reducible rfl))); (try simp only [Act.put, List.setIfInBounds_toArray, List.set_cons_zero, List.set_cons_succ]))
                                  (refine wpAnyH_take (i := 6) (oi := { dst := some 117, op := Go.Op.move (Go.Operand.tmp 116), type := 4, pos := "ref.go:65", after := #[{ on := 5, ground := Go.Ground.data }], guard := none }) (v := ?_) rfl (by kernel_rfl) (by kernel_rfl) (by kernel_rfl) (fun _ _ _ h => h) (Or.inl ⟨by rfl, ?_⟩) (by assumption) ?_; rotate_left 1; (focus (intro w hSw; rw [HSD.out] at hSw; (try dsimp only at hSw); go_simp; (try with_reducible rfl))); (try simp only [Act.put, List.setIfInBounds_toArray, List.set_cons_zero, List.set_cons_succ]))
                                  (refine wpAnyH_take (i := 7) (oi := { dst := some 118, op := Go.Op.load 24 (Go.Operand.tmp 1), type := 24, pos := "ref.go:65", after := #[{ on := 6, ground := Go.Ground.guard }], guard := some (6, true) }) (v := undef) rfl (by kernel_rfl) (by kernel_rfl) (by kernel_rfl) (fun _ _ _ h => h) (Or.inr ⟨by rfl, rfl⟩) (by assumption) ?_; (try simp only [Act.put, List.setIfInBounds_toArray, List.set_cons_zero, List.set_cons_succ]))
                                  (refine wpAnyH_take (i := 8) (oi := { dst := some 119, op := Go.Op.move (Go.Operand.tmp 8), type := 46, pos := "ref.go:65", after := #[{ on := 6, ground := Go.Ground.guard }], guard := some (6, true) }) (v := undef) rfl (by kernel_rfl) (by kernel_rfl) (by kernel_rfl) (fun _ _ _ h => h) (Or.inr ⟨by rfl, rfl⟩) (by assumption) ?_; (try simp only [Act.put, List.setIfInBounds_toArray, List.set_cons_zero, List.set_cons_succ]))
                                  (refine wpAnyH_take (i := 9) (oi := { dst := some 120, op := Go.Op.move (Go.Operand.tmp 9), type := 3, pos := "ref.go:65", after := #[{ on := 6, ground := Go.Ground.guard }], guard := some (6, true) }) (v := undef) rfl (by kernel_rfl) (by kernel_rfl) (by kernel_rfl) (fun _ _ _ h => h) (Or.inr ⟨by rfl, rfl⟩) (by assumption) ?_; (try simp only [Act.put, List.setIfInBounds_toArray, List.set_cons_zero, List.set_cons_succ]))
                                  (refine wpAnyH_take (i := 10) (oi := { dst := some 121, op := Go.Op.indexAddr 46 (Go.Operand.tmp 119) (Go.Operand.tmp 120), type := 0, pos := "ref.go:65", after := #[{ on := 8, ground := Go.Ground.data }, { on := 9, ground := Go.Ground.data }, { on := 6, ground := Go.Ground.guard }], guard := some (6, true) }) (v := undef) rfl (by kernel_rfl) (by kernel_rfl) (by kernel_rfl) (fun _ _ _ h => h) (Or.inr ⟨by rfl, rfl⟩) (by assumption) ?_; (try simp only [Act.put, List.setIfInBounds_toArray, List.set_cons_zero, List.set_cons_succ]))
                                  (refine wpAnyH_take (i := 11) (oi := { dst := some 122, op := Go.Op.fieldAddr 71 (Go.Operand.tmp 121) 2, type := 0, pos := "ref.go:65", after := #[{ on := 10, ground := Go.Ground.data }, { on := 6, ground := Go.Ground.guard }], guard := some (6, true) }) (v := undef) rfl (by kernel_rfl) (by kernel_rfl) (by kernel_rfl) (fun _ _ _ h => h) (Or.inr ⟨by rfl, rfl⟩) (by assumption) ?_; (try simp only [Act.put, List.setIfInBounds_toArray, List.set_cons_zero, List.set_cons_succ]))
                                  (refine wpAnyH_take (i := 12) (oi := { dst := some 123, op := Go.Op.load 9 (Go.Operand.tmp 122), type := 9, pos := "ref.go:65", after := #[{ on := 11, ground := Go.Ground.data }, { on := 6, ground := Go.Ground.guard }], guard := some (6, true) }) (v := undef) rfl (by kernel_rfl) (by kernel_rfl) (by kernel_rfl) (fun _ _ _ h => h) (Or.inr ⟨by rfl, rfl⟩) (by assumption) ?_; (try simp only [Act.put, List.setIfInBounds_toArray, List.set_cons_zero, List.set_cons_succ]))
                                  (refine wpAnyH_take (i := 13) (oi := { dst := some 124, op := Go.Op.call { callee := Go.Callee.value (Go.Operand.func 13), args := #[Go.Operand.tmp 118, Go.Operand.tmp 123], argTypes := #[24, 9] }, type := 3, pos := "ref.go:65", after := #[{ on := 7, ground := Go.Ground.data }, { on := 12, ground := Go.Ground.data }, { on := 6, ground := Go.Ground.chain }, { on := 6, ground := Go.Ground.guard }], guard := some (6, true) }) (v := undef) rfl (by kernel_rfl) (by kernel_rfl) (by kernel_rfl) (fun _ _ _ h => h) (Or.inr ⟨by rfl, rfl⟩) (by assumption) ?_; (try simp only [Act.put, List.setIfInBounds_toArray, List.set_cons_zero, List.set_cons_succ]))
                                  (refine wpAnyH_take (i := 14) (oi := { dst := some 125, op := Go.Op.binOp Go.BinOp.lss 3 (Go.Operand.tmp 124) (Go.Operand.const (Go.Value.int Go.IntKind.i64 0)) 3, type := 4, pos := "ref.go:65", after := #[{ on := 13, ground := Go.Ground.data }, { on := 6, ground := Go.Ground.guard }], guard := some (6, true) }) (v := undef) rfl (by kernel_rfl) (by kernel_rfl) (by kernel_rfl) (fun _ _ _ h => h) (Or.inr ⟨by rfl, rfl⟩) (by assumption) ?_; (try simp only [Act.put, List.setIfInBounds_toArray, List.set_cons_zero, List.set_cons_succ]))
                                  (refine wpAnyH_take (i := 15) (oi := { dst := some 126, op := Go.Op.pick (Go.Operand.tmp 117) (Go.Operand.tmp 125) (Go.Operand.const (Go.Value.bool false)), type := 4, pos := "ref.go:65", after := #[{ on := 6, ground := Go.Ground.data }, { on := 14, ground := Go.Ground.data }], guard := none }) (v := ?_) rfl (by kernel_rfl) (by kernel_rfl) (by kernel_rfl) (fun _ _ _ h => h) (Or.inl ⟨by rfl, ?_⟩) (by assumption) ?_; rotate_left 1; (focus (intro w hSw; rw [HSD.out] at hSw; (try dsimp only at hSw); go_simp; (try with_reducible rfl))); (try simp only [Act.put, List.setIfInBounds_toArray, List.set_cons_zero, List.set_cons_succ]))
                                  refine wpAnyH_done (by kernel_rfl) ?_ _
                                  go_wp2_with fail
                                  go_meet
                                  exact ⟨by rw [HDD.out] <;> first | done | simp [hf], by first | exact HE0 | exact Lib.hid HE0.out.drew⟩
                            case rest =>
                              obtain ⟨rfl, HBE⟩ := hcut
                              by_cases hdd : kd = 3 ∧ fv < 0
                              · have HX := Lib.hid (HLJ.out hdd.1 hdd.2)
                                rw [decide_eq_true hdd]
                                as_aux_lemma =>
                                  go_wp2_with fail
                                  go_ret
                                  exact ⟨by rw [HX.out]; rfl, Below.step HBX.out HBE.out⟩
                              · have HX := Lib.hid (HNJ.out hdd)
                                rw [decide_eq_false hdd]
                                as_aux_lemma =>
                                  go_wp2_with fail
                                  exact ⟨⟨j + 1, by omega, by go_num, HX, Lib.hid (bx_kept HBE.out HPX.out), Lib.hid (Below.step HBX.out HBE.out)⟩, by simp only [intOf]; omega⟩
                          · have j1 : ¬ (j : Int) < (ls.length : Int) := by omega
                            have HX := Lib.hid (HNXT.out (fun n hn => HOJ.out n (by rw [List.take_of_length_le (by simp; omega)]; exact hn)))
                            as_aux_lemma =>
                              go_wp2_with fail
                              exact ⟨⟨k + 1, by omega, by go_num, HX, HPX, HBX⟩, by simp only [intOf]; omega⟩
                      · have i1 : ¬ (k : Int) < (ds.length : Int) := by omega
                        have HX := Lib.hid (show mayG (ds.map Ld.df) = 0 from by
                          rw [HX1.out, if_neg]
                          simp only [Bool.not_eq_true]
                          exact lost_none fun j hj => HON.out j hj (by rw [HGL.out] at hj; omega))
                        as_aux_lemma =>
                          go_wp2_with fail
                          go_ret
                          exact ⟨by rw [HX.out]; rfl, HBW.out⟩
          · have HX := Lib.hid (HLG.out (bigG_large hbg))
            clear hbg HLG HRS
            by_cases hlt : k < ds.length
            · have i1 : (k : Int) < (ds.length : Int) := by omega
              as_aux_lemma =>
                go_wp2_with fail
                go_ret
                exact ⟨by rw [HX.out]; rfl, HBW.out⟩
            · have i1 : ¬ (k : Int) < (ds.length : Int) := by omega
              as_aux_lemma =>
                go_wp2_with fail
                go_ret
                exact ⟨by rw [HX.out]; rfl, HBW.out⟩
end Go.Proofs.YtmjkgnknfgoadaaGreatDoor
