/- The walk of DiffFewest: it returns true. -/
import Derived.Test.YtbfjanfhgpgmdaaDoorEa
import Derived.Test.YtbfjanfhgpgmdaaDoorEd
namespace Go.Proofs.YtbfjanfhgpgmdaaDoor
open Go.RowKit
set_option linter.unusedSimpArgs false
set_option linter.unusedVariables false

/-! ### plain laws -/
theorem applyL_all (P : Df → Prop) : ∀ (l : List Ed) (left : List Df), (∀ x ∈ left, P x) → (∀ e ∈ l, P e.d) → ∀ x ∈ (applyL left l).1, P x
  | [], left, hl, he, x, hx => by
    unfold applyL at hx; split at hx <;> simp at hx
  | e :: l, left, hl, he, x, hx => by
    have he' : ∀ e ∈ l, P e.d := fun e h => he e (List.mem_cons_of_mem _ h)
    unfold applyL at hx
    split at hx
    · simp at hx
    · split at hx
      · unfold joinA at hx
        split at hx
        · simp only [List.cons_append, List.nil_append, List.mem_cons] at hx
          rcases hx with rfl | hx
          · exact he e List.mem_cons_self
          · exact applyL_all P l left hl he' x hx
        · simp at hx
      · cases left with
        | nil => simp at hx
        | cons y r =>
          have hr : ∀ x ∈ r, P x := fun x h => hl x (List.mem_cons_of_mem _ h)
          simp only at hx
          split at hx
          · unfold joinA at hx
            split at hx
            · simp only [List.cons_append, List.nil_append, List.mem_cons] at hx
              rcases hx with rfl | hx
              · exact hl _ List.mem_cons_self
              · exact applyL_all P l r hr he' x hx
            · simp at hx
          · exact applyL_all P l r hr he' x hx
theorem applyL_len : ∀ (l : List Ed) (left : List Df), (applyL left l).1.length ≤ left.length + l.length
  | [], left => by unfold applyL; split <;> simp
  | e :: l, left => by
    unfold applyL
    split
    · simp
    · split
      · unfold joinA
        split
        · have := applyL_len l left; simp; omega
        · simp
      · cases left with
        | nil => simp
        | cons y r =>
          have := applyL_len l r
          simp only
          split
          · unfold joinA
            split
            · simp; omega
            · simp
          · simp; omega
def DfSmall (d : Df) : Prop := d.body.nodes.length ≤ 500 ∧ ∀ n ∈ d.body.nodes, n.kids.length ≤ 500
theorem SmallD.df {d : Ld} (h : SmallD d) : DfSmall d.df := ⟨by show (d.t.ls.map Ln.nd).length ≤ 500; rw [List.length_map]; exact h.1, fun n hn => by
  obtain ⟨l, hl, rfl⟩ := List.mem_map.1 (show n ∈ d.t.ls.map Ln.nd from hn)
  exact h.2 l hl⟩
theorem DfSmall.ld {d : Ld} (h : DfSmall d.df) : SmallD d := ⟨by have h1 : (d.t.ls.map Ln.nd).length ≤ 500 := h.1; rwa [List.length_map] at h1, fun l hl => h.2 l.nd (List.mem_map.2 ⟨l, hl, rfl⟩)⟩
theorem apply_small {ds ds' : List Ld} {es : List Le} (h1 : ∀ d ∈ ds, SmallD d) (h2 : ∀ e ∈ es, SmallD e.d) (h : ds'.map Ld.df = (applyL (ds.map Ld.df) (es.map Le.ed)).1) : (∀ d ∈ ds', SmallD d) ∧ ds'.length ≤ ds.length + es.length := by
  refine ⟨fun d hd => DfSmall.ld (applyL_all DfSmall _ _ (fun x hx => ?_) (fun e he => ?_) d.df (by rw [← h]; exact List.mem_map.2 ⟨d, hd, rfl⟩)), ?_⟩
  · obtain ⟨y, hy, rfl⟩ := List.mem_map.1 hx; exact (h1 y hy).df
  · obtain ⟨y, hy, rfl⟩ := List.mem_map.1 he; exact (h2 y hy).df
  · have h3 := applyL_len (es.map Le.ed) (ds.map Ld.df)
    rw [← h] at h3
    simpa using h3
def FewRel (w w4 : World) (H Hb : Nat) (A V : Option Addr) (c vc m : Nat) (ds : List Ld) (i : Value) (wr : World) : Prop :=
  ∃ k : Nat, k ≤ ds.length ∧ i = .int .i64 k ∧ Hid (∀ d ∈ ds.take k, rightT d.df.body = true) ∧ Hid (wr.heap[H]? = some (.cells #[.slice A ds.length c] 24 (0, 0))) ∧ Hid (wr.heap[Hb]? = some (.cells #[.slice V m vc] 24 (0, 0))) ∧ Hid (Below w.heap.size w wr) ∧ Hid (Below w4.heap.size w4 wr)

set_option maxRecDepth 100000 in
set_option maxHeartbeats 12800000 in
theorem fewest_walk (A L : Option Addr) (c lc : Nat) (ds : List Ld) (es : List Le) (S T : Nat → Prop) (w : World) (hA : dfL.row w S A ds) (hL : edL.row w T L es) (hl : ds.length ≤ 281474976710656) (hel : es.length ≤ 281474976710656) (hc : ds.length ≤ c ∧ c ≤ 9223372036854775807) (ht : CntTab w) :
    Calls Tryd.prog 5 #[.agg #[.slice A ds.length c], .slice L es.length lc] w fun e w' => e = .returned (.bool true) ∧ Below w.heap.size w w' := by
  have HA := Lib.hid hA; have HL := Lib.hid hL; have HT := Lib.hid ht; have HC := Lib.hid hc
  clear hA hL ht hc
  have HGR := Lib.hid (show grL.row ((w.alloc (.cells #[.slice A ds.length c] 24)).alloc (.cells #[.slice A ds.length c] 24)) (fun _ => True) (some ⟨w.heap.size + 1, 0, none⟩) [⟨A, c, ds⟩] from by
    refine ⟨⟨?_, fun _ _ _ => trivial⟩, fun g hg => ?_⟩
    · have h := bx_new (w.alloc (.cells #[.slice A ds.length c] 24)) (.cells #[.slice A ds.length c] 24)
      rw [World.size_alloc] at h
      have h2 := row_blk (cs := [.slice A ds.length c]) h
      have e : grL.all [⟨A, c, ds⟩] = [.slice A ds.length c] := by rw [grL.all_one]; rfl
      rw [e]; exact h2
    · simp only [List.mem_singleton] at hg
      subst hg
      exact ⟨hl, (HA.out.below (bx2 w _ _)).mono (fun _ _ _ => trivial)⟩)
  go_enter Tryd.func5, Tryd.ntmps5
  go_wp2_with fail
  refine (large_any [⟨A, c, ds⟩] (some ⟨w.heap.size + 1, 0, none⟩) 1 (fun _ => True) _ HGR.out (by simp)).mono ?_
  rintro e w1 ⟨r, rfl, hr1, hb1⟩
  have HB1 := Lib.hid (Below.step (bx2 w _ _) hb1)
  have HK1 := Lib.hid (show w1.heap[w.heap.size]? = some (.cells #[.slice A ds.length c] 24 (0, 0)) from bx_kept hb1 (bx_old (bx_new w _)))
  clear hb1 HGR
  cases r
  · have HS1 := Lib.hid (show SmallG ds from hr1 rfl ⟨A, c, ds⟩ (by simp))
    clear hr1
    go_wp2_with fail
    refine (wide_any es L lc T w1 (HL.out.below HB1.out) hel).mono ?_
    rintro e w2 ⟨r, rfl, hr2, hb2⟩
    have HK2 := Lib.hid (bx_kept hb2 HK1.out)
    have HB2 := Lib.hid (Below.step HB1.out hb2)
    clear hb2 HK1 HB1
    cases r
    · have HS2 := Lib.hid (hr2 rfl)
      clear hr2
      go_wp2_with (go_at_call 10; refine (awake_any _ (HT.out.below HB2.out)).mono ?_; rintro e w3 ⟨rfl, hb3⟩; have HK3 := Lib.hid (bx_kept hb3 HK2.out); have HB3 := Lib.hid (Below.step HB2.out hb3); obtain ⟨p1, p2⟩ := blk1 HK3.out; clear hb3)
      have hds := HS1.out.1
      have hes := HS2.out.1
      refine (apply_any A L c lc ds es S T w3 (HA.out.below HB3.out) (HL.out.below HB3.out) (by omega) HC.out (by omega) (fun d hd => (HS1.out.2 d hd).mod) (fun e he => (HS2.out.2 e he).mod)).mono ?_
      rintro e w4 ⟨V, vc, d4, rfl, hd4, hgo, hb4⟩
      have HSM := Lib.hid (apply_small HS1.out.2 HS2.out.2 hd4)
      have HD4 := Lib.hid hd4; have HR4 := Lib.hid hgo.inn; have HK4 := Lib.hid (bx_kept hb4 HK3.out); have HB4 := Lib.hid (Below.step HB3.out hb4)
      have hd4l := HSM.out.2
      clear hd4 hgo hb4 HK3 HB3 p1 p2 HK2 HB2
      by_cases hok : (applyL (ds.map Ld.df) (es.map Le.ed)).2 = 0
      · have HAP := Lib.hid (show applyL (ds.map Ld.df) (es.map Le.ed) = (d4.map Ld.df, 0) from by rw [HD4.out, ← hok])
        rw [hok]
        clear hok HD4
        have HKA := Lib.hid (bx_old (p := .cells #[.slice V d4.length vc] 24) HK4.out)
        have HKB := Lib.hid (bx_new w4 (.cells #[.slice V d4.length vc] 24))
        have HBA := Lib.hid (Below.step HB4.out (bx1 w4 (.cells #[.slice V d4.length vc] 24)))
        go_wp2_with fail
        go_loopw [7] (fun i wr => FewRel w w4 w.heap.size w4.heap.size A V c vc d4.length ds i wr) (fun i _ => ds.length - (intOf i).toNat)
        case atStart => exact ⟨0, Nat.zero_le _, rfl, Lib.hid (by simp), HKA, HKB, HBA, Lib.hid (bx1 w4 _)⟩
        case round =>
          clear HKA HKB HBA
          obtain ⟨k, hk, rfl, HRT, HKA, HKB, HB, HB4w⟩ := hrel
          obtain ⟨p1, p2⟩ := blk1 HKA.out
          by_cases hlt : k < ds.length
          · have i1 : (k : Int) < (ds.length : Int) := by omega
            have i2 : (0 : Int) ≤ (k : Int) := by omega
            obtain ⟨b, o, rfl, _, _, x0, x1, x2⟩ := dfRow (HA.out.below HB.out) k hlt
            have HTK := Lib.hid (show ds.take (k + 1) = ds.take k ++ [ds[k]] from List.take_succ_eq_append_getElem hlt)
            have HDT := Lib.hid (dfSub (HA.out.below HB.out) k hlt)
            have HMM := Lib.hid (List.getElem_mem hlt)
            generalize ds[k] = d at *
            as_aux_lemma =>
              go_wp2_with fail
              refine (right_any d.t.A d.t.c d.t.ls d.t.root S _ HDT.out.2 HDT.out.1 (HT.out.below HB.out)).mono ?_
              rintro e w5 ⟨rfl, hb5⟩
              have HR5 := Lib.hid (show rightT d.df.body = rightT ⟨d.t.ls.map Ln.nd, d.t.root⟩ from rfl)
              cases hrr : rightT ⟨d.t.ls.map Ln.nd, d.t.root⟩
              · go_wp2_with fail
                go_ret
                exact ⟨rfl, Below.step HB.out hb5⟩
              · go_wp2_with fail
                exact ⟨⟨k + 1, by omega, by go_num, Lib.hid (fun y hy => by
                  rw [HTK.out] at hy
                  rcases List.mem_append.1 hy with hy | hy
                  · exact HRT.out y hy
                  · simp only [List.mem_singleton] at hy; subst hy; rw [HR5.out, hrr]), Lib.hid (bx_kept hb5 HKA.out), Lib.hid (bx_kept hb5 HKB.out), Lib.hid (Below.step HB.out hb5), Lib.hid (Below.step HB4w.out hb5)⟩, by simp only [intOf]; omega⟩
          · obtain rfl : k = ds.length := by omega
            obtain ⟨s1, s2⟩ := blk1 HKB.out
            have HFW := Lib.hid (show needL (ds.map Ld.df) (d4.map Ld.df) ≤ countK 1 (es.map Le.ed) + countK 2 (es.map Le.ed) from fewest _ _ _ (fun x hx => by
              obtain ⟨y, hy, rfl⟩ := List.mem_map.1 hx
              exact HRT.out y (by rw [List.take_length]; exact hy)) HAP.out)
            as_aux_lemma =>
              go_wp2_with fail
              refine (ecount_any es L lc T _ (HL.out.below HB.out) (by omega)).mono ?_
              rintro e w5 ⟨rfl, hb5⟩
              have HB5 := Lib.hid (Below.step HB.out hb5); have HK5 := Lib.hid (bx_kept hb5 HKA.out); have HK5' := Lib.hid (bx_kept hb5 HKB.out)
              have HR5 := Lib.hid ((HR4.out.below HB4w.out).below hb5)
              clear hb5 s1 s2 p1 p2
              obtain ⟨t1, t2⟩ := blk1 HK5.out
              obtain ⟨t3, t4⟩ := blk1 HK5'.out
              have hc0 : ∀ (k : Int) (l : List Ed), countK k l ≤ l.length := fun k l => List.countP_le_length
              have HC1 := Lib.hid (show countK 1 (es.map Le.ed) ≤ 500 ∧ countK 2 (es.map Le.ed) ≤ 500 from by
                have h1 := hc0 1 (es.map Le.ed); have h2 := hc0 2 (es.map Le.ed)
                simp only [List.length_map] at h1 h2; omega)
              generalize countK 1 (es.map Le.ed) = n1 at *
              generalize countK 2 (es.map Le.ed) = n2 at *
              go_wp2_with fail
              refine (of_any ds d4 A V c vc S _ w5 (HA.out.below HB5.out) HR5.out (by omega) (by omega) (fun d hd => ((HS1.out.2 d hd).mod).1) (fun d hd => (HSM.out.1 d hd).mod) (HT.out.below HB5.out)).mono ?_
              rintro e w6 ⟨V6, c6, fs, rfl, hfs, heo, hb6⟩
              have HB6 := Lib.hid (Below.step HB5.out hb6); have HEO := Lib.hid heo.inn
              have HFC := Lib.hid (show countK 1 (fs.map Le.ed) + countK 2 (fs.map Le.ed) ≤ n1 + n2 ∧ fs.length ≤ 5000 from by
                have h1 := of_counts _ (ds.map Ld.df) (d4.map Ld.df) (Nat.le_refl _)
                rw [← hfs] at h1
                have h2 := HFW.out
                simp only [List.length_map] at h1
                omega)
              clear hfs heo hb6 t1 t2 t3 t4
              go_wp2_with fail
              refine (ecount_any fs V6 c6 _ w6 HEO.out (by have := HFC.out.2; omega)).mono ?_
              rintro e w7 ⟨rfl, hb7⟩
              have HB7 := Lib.hid (Below.step HB6.out hb7)
              clear hb7
              have hf := HFC.out
              have hc1 := HC1.out
              generalize countK 1 (fs.map Le.ed) = m1 at *
              generalize countK 2 (fs.map Le.ed) = m2 at *
              have i9 : (m1 : Int) + (m2 : Int) ≤ (n1 : Int) + (n2 : Int) := by omega
              go_wp2_with fail
              go_ret
              exact ⟨rfl, HB7.out⟩
      · have HBD := Lib.hid (show d4.length = 0 from by
          have h := applyL_bad _ _ hok
          rw [← HD4.out] at h
          have := congrArg List.length h
          simpa using this)
        have e1 : ((applyL (ds.map Ld.df) (es.map Le.ed)).2 == 0) = false := by simpa using hok
        generalize (applyL (ds.map Ld.df) (es.map Le.ed)).2 = er at *
        clear hok HD4 HSM
        have hd0 := HBD.out
        as_aux_lemma =>
          rw [hd0]
          go_wp2_with fail
          go_ret
          exact ⟨rfl, Below.step HB4.out (bx1 w4 _)⟩
    · as_aux_lemma =>
        go_wp2_with (go_at_call 10; refine (awake_any _ (HT.out.below HB2.out)).mono ?_; rintro e w3 ⟨rfl, hb3⟩; have HB3 := Lib.hid (Below.step HB2.out hb3); clear hb3)
        go_ret
        exact ⟨rfl, HB3.out⟩
  · as_aux_lemma =>
      go_wp2_with (go_at_call 10; refine (awake_any _ (HT.out.below HB1.out)).mono ?_; rintro e w3 ⟨rfl, hb3⟩; have HB3 := Lib.hid (Below.step HB1.out hb3); clear hb3)
      go_ret
      exact ⟨rfl, HB3.out⟩
end Go.Proofs.YtbfjanfhgpgmdaaDoor
