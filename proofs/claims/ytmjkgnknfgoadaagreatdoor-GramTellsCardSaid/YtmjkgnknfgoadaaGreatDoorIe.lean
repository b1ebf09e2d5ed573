/- The contract of gram.Same. -/
import Derived.Test.YtmjkgnknfgoadaaGreatDoorDs
import Derived.Test.YtmjkgnknfgoadaaGreatDoorDq
import Derived.Test.YtmjkgnknfgoadaaGreatDoorDa
namespace Go.Proofs.YtmjkgnknfgoadaaGreatDoor
open Go.RowKit
set_option linter.unusedSimpArgs false
set_option linter.unusedVariables false

theorem sameG_len {a b : List Df} (h : a.length ≠ b.length) : sameG a b = false := by
  cases hs : sameG a b with
  | false => rfl
  | true => exact absurd (sameG_at a b hs).1 h
theorem sameG_bad {a b : List Df} {i : Nat} (ha : i < a.length) (hb : i < b.length) (h : sameD a[i] b[i] = false) : sameG a b = false := by
  cases hs : sameG a b with
  | false => rfl
  | true => have := (sameG_at a b hs).2 i ha hb; rw [h] at this; cases this
theorem sameG_all : ∀ (a b : List Df), a.length = b.length → (∀ i (ha : i < a.length) (hb : i < b.length), sameD a[i] b[i] = true) → sameG a b = true
  | [], [], _, _ => rfl
  | [], _ :: _, h, _ => by simp at h
  | _ :: _, [], h, _ => by simp at h
  | x :: a, y :: b, h, k => by
    simp only [sameG, Bool.and_eq_true]
    refine ⟨k 0 (by simp) (by simp), sameG_all a b (by simpa using h) fun i ha hb => ?_⟩
    have := k (i + 1) (by simpa using ha) (by simpa using hb)
    simpa using this
set_option maxRecDepth 100000 in
set_option maxHeartbeats 1600000 in
theorem gsame1_any (d e : Ld) (S T : Nat → Prop) (w : World) (hA : d.t.inn w S) (hB : e.t.inn w T) (hl : d.t.ls.length ≤ 4294967296) (hm : e.t.ls.length ≤ 4294967296) (ht : CntTab w) :
    Calls Tryz.prog 68 #[d.val, e.val] w fun r w' => r = .returned (.bool (sameD d.df e.df)) ∧ Below w.heap.size w w' := by
  obtain ⟨nm, ⟨A, c, ls, ra⟩⟩ := d
  obtain ⟨nm', ⟨B, c', ms, rb⟩⟩ := e
  simp only at hl hm
  have HA := Lib.hid hA.2; have HB := Lib.hid hB.2; have HN := Lib.hid ht
  clear hA hB ht
  have HS := Lib.hid (show sameD (Ld.df ⟨nm, ⟨A, c, ls, ra⟩⟩) (Ld.df ⟨nm', ⟨B, c', ms, rb⟩⟩) = (decide (nm = nm') && sameT ⟨ls.map Ln.nd, ra⟩ ⟨ms.map Ln.nd, rb⟩) from rfl)
  show Calls _ _ _ _ fun r w' => r = .returned (.bool (sameD (Ld.df ⟨nm, ⟨A, c, ls, ra⟩⟩) (Ld.df ⟨nm', ⟨B, c', ms, rb⟩⟩))) ∧ Below w.heap.size w w'
  rw [HS.out]
  clear HS
  go_enter Tryz.func68, Tryz.ntmps68
  have HB0 := Lib.hid (bx2 w (.cells #[.string nm, .slice A ls.length c, .int .i64 ra] 50) (.cells #[.string nm', .slice B ms.length c', .int .i64 rb] 50))
  by_cases hn : nm = nm'
  · have hnb : (nm.toList == nm'.toList) = true := by simp [hn]
    rw [decide_eq_true hn, Bool.true_and]
    have HTS := Lib.hid (tsame_any A B c c' ls ms ra rb S T _ (HA.out.below HB0.out) (HB.out.below HB0.out) hl hm (HN.out.below HB0.out))
    subst hn
    generalize sameT ⟨ls.map Ln.nd, ra⟩ ⟨ms.map Ln.nd, rb⟩ = st at *
    go_wp2_with (first
      | (go_at_call 69; refine (HTS.out).mono ?_; rintro r w1 ⟨rfl, hb⟩; have HB1 := Lib.hid (Below.step HB0.out hb); clear hb)
      | fail)
    go_ret
    exact ⟨rfl, HB1.out⟩
  · have hnb : (nm.toList == nm'.toList) = false := by
      rw [beq_eq_false_iff_ne]
      intro h
      rw [Lib.toList_data, Lib.toList_data] at h
      exact hn (str_ext h)
    rw [decide_eq_false hn, Bool.false_and]
    go_wp2_with fail
    go_ret
    exact ⟨rfl, HB0.out⟩
set_option maxRecDepth 100000 in
set_option maxHeartbeats 1600000 in
theorem eqdefs_any (ds es : List Ld) (A B : Option Addr) (c d : Nat) (S T : Nat → Prop) (w : World) (hA : dfL.row w S A ds) (hB : dfL.row w T B es) (hl : ds.length ≤ 4294967296) (hm : es.length ≤ 4294967296)
    (hld : ∀ x ∈ ds, x.t.ls.length ≤ 4294967296) (hle : ∀ x ∈ es, x.t.ls.length ≤ 4294967296) (ht : CntTab w) :
    Calls Tryz.prog 67 #[.slice A ds.length c, .slice B es.length d, .func (.func 68) #[] #[]] w fun e w' => e = .returned (.bool (sameG (ds.map Ld.df) (es.map Ld.df))) ∧ Below w.heap.size w w' := by
  have HTA := Lib.hid hA; have HTB := Lib.hid hB; have HN := Lib.hid ht; have HLD := Lib.hid hld; have HLE := Lib.hid hle; clear hA hB ht hld hle
  by_cases hlm : ds.length = es.length
  · have e1 : ((ds.length : Int) != (es.length : Int)) = false := by simp [hlm]
    have HLM := Lib.hid hlm; clear hlm
    go_enter Tryz.func67, Tryz.ntmps67
    go_wp2_with fail
    clear e1
    go_loopw [17] (fun i wr => ∃ k : Nat, k ≤ ds.length ∧ i = .int .i64 k ∧ Hid (∀ i (ha : i < (ds.map Ld.df).length) (hb : i < (es.map Ld.df).length), i < k → sameD (ds.map Ld.df)[i] (es.map Ld.df)[i] = true) ∧ Hid (Below w.heap.size w wr)) (fun i _ => ds.length - (intOf i).toNat)
    case atStart => exact ⟨0, by omega, rfl, Lib.hid (fun i _ _ h => by omega), Lib.hid (Below.refl _ _)⟩
    case round =>
      obtain ⟨k, hk, rfl, HE, HB⟩ := hrel
      by_cases hlt : k < ds.length
      · have hlt2 : k < es.length := by have := HLM.out; omega
        have HIA := Lib.hid (show ∀ w', Below w.heap.size w w' → ds[k].t.inn w' S from fun w' hb => dfSub (HTA.out.agree (below_all hb)) k hlt)
        have HIB := Lib.hid (show ∀ w', Below w.heap.size w w' → es[k].t.inn w' T from fun w' hb => dfSub (HTB.out.agree (below_all hb)) k hlt2)
        obtain ⟨b, o, rfl, _, _, x0, x1, x2⟩ := dfRow (HTA.out.agree (below_all HB.out)) k hlt
        obtain ⟨b', o', rfl, _, hbl, y0, y1, y2⟩ := dfRow (HTB.out.agree (below_all HB.out)) k hlt2
        have i1 : (k : Int) < (ds.length : Int) := by omega
        have i2 : (k : Int) < (es.length : Int) := by omega
        have HX1 := Lib.hid (HLD.out ds[k] (List.getElem_mem hlt)); have HX2 := Lib.hid (HLE.out es[k] (List.getElem_mem hlt2))
        have HMK := Lib.hid (show ∀ (ha : k < (ds.map Ld.df).length) (hb : k < (es.map Ld.df).length), sameD (ds.map Ld.df)[k] (es.map Ld.df)[k] = sameD ds[k].df es[k].df from fun _ _ => by simp)
        have hka : k < (ds.map Ld.df).length := by simpa using hlt
        have hkb : k < (es.map Ld.df).length := by simpa using hlt2
        have HNO := Lib.hid (show sameD ds[k].df es[k].df = false → sameG (ds.map Ld.df) (es.map Ld.df) = false from fun h => sameG_bad hka hkb (by rw [HMK.out]; exact h))
        have HGO := Lib.hid (show sameD ds[k].df es[k].df = true → ∀ i (ha : i < (ds.map Ld.df).length) (hb : i < (es.map Ld.df).length), i < k + 1 → sameD (ds.map Ld.df)[i] (es.map Ld.df)[i] = true from fun h i ha hb hi => by
          by_cases e : i = k
          · subst e; rw [HMK.out]; exact h
          · exact HE.out i ha hb (by omega))
        clear hka hkb HMK
        have HSC := Lib.hid (show ∀ w', Below w.heap.size w w' → Calls Tryz.prog 68 #[.agg #[.string ds[k].name, .slice ds[k].t.A ds[k].t.ls.length ds[k].t.c, .int .i64 ds[k].t.root], .agg #[.string es[k].name, .slice es[k].t.A es[k].t.ls.length es[k].t.c, .int .i64 es[k].t.root]] w' fun r w'' => r = .returned (.bool (sameD ds[k].df es[k].df)) ∧ Below w'.heap.size w' w'' from fun w' hb => gsame1_any ds[k] es[k] S T w' (HIA.out w' hb) (HIB.out w' hb) HX1.out HX2.out (HN.out.below hb))
        clear HX1 HX2 HIA HIB
        generalize sameD ds[k].df es[k].df = sd at *
        cases sd
        · have HX := Lib.hid (HNO.out rfl)
          go_wp2_with (first
            | (go_at_call 68; refine (HSC.out _ (Below.step HB.out (bx2 _ _ _))).mono ?_; rintro r w1 ⟨rfl, hb⟩; have HB1 := Lib.hid (Below.step (Below.step HB.out (bx2 wr _ _)) hb); clear hb)
            | fail)
          go_ret
          exact ⟨ret_bool HX.out.symm, HB1.out⟩
        · have HX := Lib.hid (HGO.out rfl)
          go_wp2_with (first
            | (go_at_call 68; refine (HSC.out _ (Below.step HB.out (bx2 _ _ _))).mono ?_; rintro r w1 ⟨rfl, hb⟩; have HB1 := Lib.hid (Below.step (Below.step HB.out (bx2 wr _ _)) hb); clear hb)
            | fail)
          exact ⟨⟨k + 1, by omega, by go_num, HX, HB1⟩, by simp only [intOf]; omega⟩
      · have HX := Lib.hid (sameG_all (ds.map Ld.df) (es.map Ld.df) (by simp [HLM.out]) fun i ha hb => HE.out i ha hb (by simp at ha; omega))
        go_wp2_with fail
        go_ret
        exact ⟨ret_bool HX.out.symm, HB.out⟩
  · have e1 : ((ds.length : Int) != (es.length : Int)) = true := by simp; omega
    have HX := Lib.hid (sameG_len (a := ds.map Ld.df) (b := es.map Ld.df) (by simpa using hlm)); clear hlm
    go_enter Tryz.func67, Tryz.ntmps67
    go_wp2_with fail
    go_ret
    exact ⟨ret_bool HX.out.symm, Below.refl _ _⟩
set_option maxRecDepth 100000 in
set_option maxHeartbeats 1600000 in
theorem gsame_any (ds es : List Ld) (A B : Option Addr) (c d : Nat) (S T : Nat → Prop) (w : World) (hA : dfL.row w S A ds) (hB : dfL.row w T B es) (hl : ds.length ≤ 4294967296) (hm : es.length ≤ 4294967296)
    (hld : ∀ x ∈ ds, x.t.ls.length ≤ 4294967296) (hle : ∀ x ∈ es, x.t.ls.length ≤ 4294967296) (ht : CntTab w) :
    Calls Tryz.prog 18 #[.agg #[.slice A ds.length c], .agg #[.slice B es.length d]] w fun e w' => e = .returned (.bool (sameG (ds.map Ld.df) (es.map Ld.df))) ∧ Below w.heap.size w w' := by
  have HB0 := Lib.hid (bx2 w (.cells #[.slice A ds.length c] 24) (.cells #[.slice B es.length d] 24))
  have HC := Lib.hid (eqdefs_any ds es A B c d S T _ (hA.below HB0.out) (hB.below HB0.out) hl hm hld hle (ht.below HB0.out))
  clear hA hB hld hle ht
  go_enter Tryz.func18, Tryz.ntmps18
  go_wp2_with (first
    | (go_at_call 67; refine (HC.out).mono ?_; rintro r w1 ⟨rfl, hb⟩; have HB1 := Lib.hid (Below.step HB0.out hb); clear hb)
    | fail)
  go_ret
  exact ⟨rfl, HB1.out⟩
end Go.Proofs.YtmjkgnknfgoadaaGreatDoor
