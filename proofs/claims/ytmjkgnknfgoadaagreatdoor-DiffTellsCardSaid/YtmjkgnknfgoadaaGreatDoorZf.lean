/- The reference's report. -/
import Derived.Test.YtmjkgnknfgoadaaGreatDoorNr
import Derived.Test.YtmjkgnknfgoadaaGreatDoorZe
import Derived.Test.YtmjkgnknfgoadaaGreatDoorYe
import Derived.Test.YtmjkgnknfgoadaaGreatDoorUk
namespace Go.Proofs.YtmjkgnknfgoadaaGreatDoor
open Go.RowKit
set_option linter.unusedSimpArgs false
set_option linter.unusedVariables false
theorem of_len' (a b : List Df) : (ofL a b).length ≤ a.length + b.length := by
  have := of_counts _ a b (Nat.le_refl _)
  omega
theorem modR_8 {t : Lt} (h : ModR t) : Mod8 t := ⟨h.len, h.kids, h.all⟩
theorem modR_of {t u : Lt} (h : t.tr = u.tr) (hu : ModR u) : ModR t := by
  have hn : t.ls.map Ln.nd = u.ls.map Ln.nd := congrArg Tr.nodes h
  refine ⟨by have := congrArg List.length hn; simp only [List.length_map] at this; have := hu.len; omega, fun l hl => ?_, by rw [hn]; exact hu.all⟩
  have h1 : l.nd ∈ u.ls.map Ln.nd := by rw [← hn]; exact List.mem_map_of_mem hl
  obtain ⟨x, hx, hxe⟩ := List.mem_map.1 h1
  rw [← hxe]; exact hu.kids x hx
theorem defB_bound {l : List Ld} (h : ∀ x ∈ l, x.t.ls.length ≤ 1000000) : ∀ d ∈ l.map Ld.df, (defB d).length ≤ 2400000037 := fun d hd => by
  obtain ⟨x, hx, rfl⟩ := List.mem_map.1 hd
  have h1 := defB_len x.df
  have h2 : x.df.body.nodes.length ≤ 1000000 := by simpa [Ld.df, Lt.tr] using h x hx
  omega
set_option maxRecDepth 100000 in
set_option maxHeartbeats 6400000 in
theorem r30report_any (la lb : List Ld) (A B : Option Addr) (c d : Nat) (S T : Nat → Prop) (w : World) (hA : dfL.row w S A la) (hB : dfL.row w T B lb) (hl : la.length ≤ 10000) (hm : lb.length ≤ 10000)
    (hma : ∀ x ∈ la, ModR x.t) (hmb : ∀ x ∈ lb, ModR x.t) :
    Calls Tryz.prog 31 #[.agg #[.slice A la.length c], .agg #[.slice B lb.length d]] w (TextPost (repG (la.map Ld.df) (lb.map Ld.df)) w) := by
  have HTA := Lib.hid hA; have HTB := Lib.hid hB; have HMA := Lib.hid hma; have HMB := Lib.hid hmb
  have HBA := Lib.hid (defB_bound (fun x hx => (hma x hx).len)); have HBB := Lib.hid (defB_bound (fun x hx => (hmb x hx).len))
  have HN0 := Lib.hid (of_len' (la.map Ld.df) (lb.map Ld.df))
  clear hA hB hma hmb
  unfold TextPost repG
  have HM1 := Lib.hid (show ∀ w', Below w.heap.size w w' → Calls Tryz.prog 15 #[.agg #[.slice A la.length c]] w' fun e w'' => e = .returned (.int .i64 (mayG (la.map Ld.df))) ∧ Below w'.heap.size w' w'' from fun w' hb => r9may_any A c la S w' (HTA.out.below hb) (by omega) HMA.out)
  have HM2 := Lib.hid (show ∀ w', Below w.heap.size w w' → Calls Tryz.prog 15 #[.agg #[.slice B lb.length d]] w' fun e w'' => e = .returned (.int .i64 (mayG (lb.map Ld.df))) ∧ Below w'.heap.size w' w'' from fun w' hb => r9may_any B d lb T w' (HTB.out.below hb) (by omega) HMB.out)
  generalize mayG (la.map Ld.df) = ma at *
  generalize mayG (lb.map Ld.df) = mb at *
  go_enter Tryz.func31, Tryz.ntmps31
  have HB0 := Lib.hid (bx2 w (.cells #[.slice A la.length c] 24) (.cells #[.slice B lb.length d] 24))
  have HKA := Lib.hid (bx_old (p := .cells #[.slice B lb.length d] 24) (bx_new w (.cells #[.slice A la.length c] 24)))
  have HKB := Lib.hid (show ((w.alloc (.cells #[.slice A la.length c] 24)).alloc (.cells #[.slice B lb.length d] 24)).heap[w.heap.size + 1]? = some (.cells #[.slice B lb.length d] 24 (0, 0)) from by
    have h := bx_new (w.alloc (.cells #[.slice A la.length c] 24)) (.cells #[.slice B lb.length d] 24)
    rwa [World.size_alloc] at h)
  by_cases h1 : ma = 0
  · have e1 : (ma != 0) = false := by simp [h1]
    by_cases h2 : mb = 0
    · have e2 : (mb != 0) = false := by simp [h2]
      rw [if_pos ⟨h1, h2⟩]
      clear h1 h2
      go_wp2_with (first
        | (go_at_call 15; (with_reducible refine (HM1.out _ HB0.out).mono ?_); rintro e w1 ⟨rfl, hb⟩; have HB1 := Lib.hid (Below.step HB0.out hb); have HK1 := Lib.hid (bx_kept hb HKA.out); have HK2 := Lib.hid (bx_kept hb HKB.out); clear hb; obtain ⟨p0, _⟩ := blk1 HK1.out; obtain ⟨q0, _⟩ := blk1 HK2.out)
        | (go_at_call 15; (with_reducible refine (HM2.out _ HB1.out).mono ?_); rintro e w2 ⟨rfl, hb⟩; have HB2 := Lib.hid (Below.step HB1.out hb); have HK3 := Lib.hid (bx_kept hb HK1.out); have HK4 := Lib.hid (bx_kept hb HK2.out); clear hb p0 q0; obtain ⟨p0, _⟩ := blk1 HK3.out; obtain ⟨q0, _⟩ := blk1 HK4.out)
        | (go_at_call 23; refine (r30of_any la lb A B c d S T _ (HTA.out.below HB2.out) (HTB.out.below HB2.out) (by omega) (by omega) HMA.out HMB.out).mono ?_; rintro e w3 ⟨V, vc, es, rfl, hes, hrow, hlen, hb⟩; have HES := Lib.hid hes; have HRW := Lib.hid hrow; have HLN := Lib.hid hlen; have HB3 := Lib.hid (Below.step HB2.out hb); have HK5 := Lib.hid (bx_kept hb HK3.out); have HK6 := Lib.hid (bx_kept hb HK4.out); clear hes hrow hlen hb p0 q0)
        | fail)
      have hes := HES.out
      have HEN := Lib.hid (show es.length ≤ 20000 from by
        have h := HN0.out
        rw [← hes] at h
        simp only [List.length_map] at h; omega)
      have HST := Lib.hid (RepSt.start hes)
      clear hes HM1 HM2 HN0
      go_loopw [5, 6, 8] (fun t at_ i wr => ∃ (k p : Nat) (out : List UInt8), k ≤ es.length ∧ i = .int .i64 k ∧ at_ = .int .i64 p ∧ t = .string ⟨out.toArray⟩ ∧ Hid (RepSt (la.map Ld.df) (lb.map Ld.df) (es.map Le.ed) k p out) ∧ Hid (Below w3.heap.size w3 wr)) (fun _ _ i _ => es.length - (intOf i).toNat)
      case atStart => exact ⟨0, 0, [], Nat.zero_le _, rfl, rfl, rfl, HST, Lib.hid (Below.refl _ _)⟩
      case round =>
        clear HST
        obtain ⟨k, p, out, hk, rfl, rfl, rfl, HS, HB⟩ := hrel
        have HBR := Lib.hid (Below.step HB3.out HB.out)
        have HK7 := Lib.hid (bx_kept HB.out HK5.out)
        obtain ⟨p0, _⟩ := blk1 HK7.out
        by_cases hlt : k < es.length
        · have i1 : (k : Int) < (es.length : Int) := by omega
          have i2 : (0 : Int) ≤ (k : Int) := by omega
          obtain ⟨vb, vo, rfl, _, _, x0, x1, x2, x3⟩ := edRow (HRW.out.below HB.out) k hlt
          have HLO := Lib.hid HS.out.len
          have hstep := HS.out.step (by simpa using hlt) HBA.out HBB.out
          simp only [List.getElem_map, List.length_map] at hstep
          rcases hstep with ⟨h1, hp, h2⟩ | ⟨h1, hp, h2⟩ | ⟨h1, h2, h3⟩
          · have h1' : es[k].kind = 0 := h1
            rw [h1'] at x0
            have hp' : p < la.length := by simpa using hp
            have j1 : (p : Int) < (la.length : Int) := by omega
            have j2 : (0 : Int) ≤ (p : Int) := by omega
            have e6 : IntKind.i64.wrap ((p : Int) + 1) = (p : Int) + 1 := IntWalk.i64_in _ (by omega)
            obtain ⟨ab, ao, rfl, _, _, y0, y1, y2⟩ := dfRow (HTA.out.agree (below_all HBR.out)) p hp'
            have HDA := Lib.hid (show ∀ w', Below wr.heap.size wr w' → Calls Tryz.prog 82 #[.agg #[.string la[p].name, .slice la[p].t.A la[p].t.ls.length la[p].t.c, .int .i64 la[p].t.root]] w' (TextPost (defB la[p].df) w') from fun w' hb => rdef_any la[p] S w' (dfSub (HTA.out.agree (below_all (Below.step HBR.out hb))) p hp') (modR_8 (HMA.out _ (List.getElem_mem hp'))) (HTA.out.sub p hp').1)
            have hdl := HBA.out (la[p].df) (List.mem_map_of_mem (List.getElem_mem hp'))
            have H2 := Lib.hid (show RepSt (la.map Ld.df) (lb.map Ld.df) (es.map Le.ed) (k + 1) (p + 1) (out ++ [32, 32] ++ defB la[p].df) from h2)
            clear h1 h1' hp h2
            generalize defB la[p].df = db at *
            generalize la[p] = dp at *
            have hlo := HLO.out; have hen := HEN.out
            have e5 : IntKind.i64.wrap ((k : Int) + 1) = (k : Int) + 1 := IntWalk.i64_in _ (by omega)
            have c1 : ¬ 9223372036854775807 < out.length + 2 := by omega
            have c2 : ¬ 9223372036854775807 < out.length + 2 + db.length := by omega
            clear hlo hen hdl
            as_aux_lemma =>
              go_wp2_with (first
                | (go_at_call 82; (with_reducible refine (HDA.out _ (Below.refl _ _)).mono ?_); rintro e w4 ⟨rfl, hb⟩; have HB4 := Lib.hid (HB.out.trans (hb.mono HB.out.size)); clear hb)
                | fail)
              refine ⟨⟨k + 1, p + 1, out ++ [32, 32] ++ db, by omega, by go_num, by go_num, ?_, H2, HB4⟩, by simp only [intOf]; omega⟩
              refine congrArg Value.string ?_
              apply ByteArray.ext
              apply Array.ext'
              simp
          · have h1' : es[k].kind = 1 := h1
            rw [h1'] at x0
            have hp' : p < la.length := by simpa using hp
            have j1 : (p : Int) < (la.length : Int) := by omega
            have j2 : (0 : Int) ≤ (p : Int) := by omega
            have e6 : IntKind.i64.wrap ((p : Int) + 1) = (p : Int) + 1 := IntWalk.i64_in _ (by omega)
            obtain ⟨ab, ao, rfl, _, _, y0, y1, y2⟩ := dfRow (HTA.out.agree (below_all HBR.out)) p hp'
            have HDA := Lib.hid (show ∀ w', Below wr.heap.size wr w' → Calls Tryz.prog 82 #[.agg #[.string la[p].name, .slice la[p].t.A la[p].t.ls.length la[p].t.c, .int .i64 la[p].t.root]] w' (TextPost (defB la[p].df) w') from fun w' hb => rdef_any la[p] S w' (dfSub (HTA.out.agree (below_all (Below.step HBR.out hb))) p hp') (modR_8 (HMA.out _ (List.getElem_mem hp'))) (HTA.out.sub p hp').1)
            have hdl := HBA.out (la[p].df) (List.mem_map_of_mem (List.getElem_mem hp'))
            have H2 := Lib.hid (show RepSt (la.map Ld.df) (lb.map Ld.df) (es.map Le.ed) (k + 1) (p + 1) (out ++ [45, 32] ++ defB la[p].df) from h2)
            clear h1 h1' hp h2
            generalize defB la[p].df = db at *
            generalize la[p] = dp at *
            have hlo := HLO.out; have hen := HEN.out
            have e5 : IntKind.i64.wrap ((k : Int) + 1) = (k : Int) + 1 := IntWalk.i64_in _ (by omega)
            have c1 : ¬ 9223372036854775807 < out.length + 2 := by omega
            have c2 : ¬ 9223372036854775807 < out.length + 2 + db.length := by omega
            clear hlo hen hdl
            as_aux_lemma =>
              go_wp2_with (first
                | (go_at_call 82; (with_reducible refine (HDA.out _ (Below.refl _ _)).mono ?_); rintro e w4 ⟨rfl, hb⟩; have HB4 := Lib.hid (HB.out.trans (hb.mono HB.out.size)); clear hb)
                | fail)
              refine ⟨⟨k + 1, p + 1, out ++ [45, 32] ++ db, by omega, by go_num, by go_num, ?_, H2, HB4⟩, by simp only [intOf]; omega⟩
              refine congrArg Value.string ?_
              apply ByteArray.ext
              apply Array.ext'
              simp
          · have h1' : es[k].kind = 2 := h1
            have HM8 := Lib.hid (show Mod8 es[k].d.t from by
              obtain ⟨x, hx, hxe⟩ := List.mem_map.1 h3
              exact modR_8 (modR_of (congrArg Df.body hxe).symm (HMB.out x hx)))
            rw [h1'] at x0
            have HDA := Lib.hid (show ∀ w', Below wr.heap.size wr w' → Calls Tryz.prog 82 #[.agg #[.string es[k].d.name, .slice es[k].d.t.A es[k].d.t.ls.length es[k].d.t.c, .int .i64 es[k].d.t.root]] w' (TextPost (defB es[k].d.df) w') from fun w' hb => rdef_any es[k].d _ w' (edSub (HRW.out.below (HB.out.trans (hb.mono HB.out.size))) k hlt) HM8.out (HRW.out.sub k hlt).2.1)
            have hdl : (defB es[k].d.df).length ≤ 2400000037 := HBB.out _ h3
            have H2 := Lib.hid (show RepSt (la.map Ld.df) (lb.map Ld.df) (es.map Le.ed) (k + 1) p (out ++ [43, 32] ++ defB es[k].d.df) from h2)
            clear h1 h1' h2 h3
            generalize defB es[k].d.df = db at *
            generalize es[k].d = dp at *
            have hlo := HLO.out; have hen := HEN.out
            have e5 : IntKind.i64.wrap ((k : Int) + 1) = (k : Int) + 1 := IntWalk.i64_in _ (by omega)
            have c1 : ¬ 9223372036854775807 < out.length + 2 := by omega
            have c2 : ¬ 9223372036854775807 < out.length + 2 + db.length := by omega
            clear hlo hen hdl
            as_aux_lemma =>
              go_wp2_with (first
                | (go_at_call 82; (with_reducible refine (HDA.out _ (Below.refl _ _)).mono ?_); rintro e w4 ⟨rfl, hb⟩; have HB4 := Lib.hid (HB.out.trans (hb.mono HB.out.size)); clear hb)
                | fail)
              refine ⟨⟨k + 1, p, out ++ [43, 32] ++ db, by omega, by go_num, by go_num, ?_, H2, HB4⟩, by simp only [intOf]; omega⟩
              refine congrArg Value.string ?_
              apply ByteArray.ext
              apply Array.ext'
              simp
        · have hke : k = es.length := by omega
          subst hke
          have HE := Lib.hid (RepSt.done (es := es.map Le.ed) (a := la.map Ld.df) (b := lb.map Ld.df) (by rw [List.length_map]; exact HS.out))
          go_wp2_with fail
          go_ret
          exact ⟨by rw [← HES.out, ← HE.out]; rfl, HBR.out⟩
    · have e2 : (mb != 0) = true := by simp [h2]
      rw [if_neg (fun h => h2 h.2)]
      clear h1 h2
      go_wp2_with (first
        | (go_at_call 15; (with_reducible refine (HM1.out _ HB0.out).mono ?_); rintro e w1 ⟨rfl, hb⟩; have HB1 := Lib.hid (Below.step HB0.out hb); have HK1 := Lib.hid (bx_kept hb HKA.out); have HK2 := Lib.hid (bx_kept hb HKB.out); clear hb; obtain ⟨p0, _⟩ := blk1 HK1.out; obtain ⟨q0, _⟩ := blk1 HK2.out)
        | (go_at_call 15; (with_reducible refine (HM2.out _ HB1.out).mono ?_); rintro e w2 ⟨rfl, hb⟩; have HB2 := Lib.hid (Below.step HB1.out hb); clear hb)
        | fail)
      go_ret
      exact ⟨rfl, HB2.out⟩
  · have e1 : (ma != 0) = true := by simp [h1]
    rw [if_neg (fun h => h1 h.1)]
    clear h1
    go_wp2_with (first
      | (go_at_call 15; (with_reducible refine (HM1.out _ HB0.out).mono ?_); rintro e w1 ⟨rfl, hb⟩; have HB1 := Lib.hid (Below.step HB0.out hb); clear hb)
      | fail)
    go_ret
    exact ⟨rfl, HB1.out⟩
end Go.Proofs.YtmjkgnknfgoadaaGreatDoor
