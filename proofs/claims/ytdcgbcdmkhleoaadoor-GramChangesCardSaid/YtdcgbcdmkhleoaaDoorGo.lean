/- The contracts of print.Def, print.Grammar, print.Size. -/
import Derived.Test.YtdcgbcdmkhleoaaDoorGm
import Derived.Test.YtdcgbcdmkhleoaaDoorHe
namespace Go.Proofs.YtdcgbcdmkhleoaaDoor
open Go.RowKit
set_option linter.unusedSimpArgs false
set_option linter.unusedVariables false

/-- The tables that package print reads. -/
structure PTabs (w : World) : Prop where
  cn : CntTab w
  sg : SgTab w
  db : DbTab w
  co : CoTab w
  ta : Tab w
  pw : 4 < w.heap.size
theorem PTabs.below {w w' : World} (h : PTabs w) (hb : Below w.heap.size w w') : PTabs w' :=
  ⟨h.cn.below hb, h.sg.below hb, h.db.below hb, h.co.below hb, by have := h.ta; have hp := h.pw; unfold Tab Lib.TabIs at *; exact var_below hb (by kernel_rfl) hp this, Nat.lt_of_lt_of_le h.pw hb.size⟩
theorem ptree_t (t : Lt) (S : Nat → Prop) (w : World) (hT : t.inn w S) (hl : t.ls.length ≤ 1000000) (hp : PTabs w) : Calls Tryd.prog 11 #[t.val] w (TextPost (treeB t.tr) w) :=
  ptree_any t.A t.c t.ls t.root S w hT.2 hl hp.cn hp.sg hp.db hp.co hp.ta hp.pw
theorem size_mk (l : List UInt8) : (⟨l.toArray⟩ : ByteArray).size = l.length := rfl
theorem str_nil (l : List UInt8) (h : l = []) : (⟨l.toArray⟩ : ByteArray) = ⟨#[]⟩ := by subst h; rfl
theorem defB_cases (d : Df) : (treeB d.body = [] ∧ defB d = []) ∨ (treeB d.body ≠ [] ∧ mayL d.name.data.toList = false ∧ defB d = []) ∨ (treeB d.body ≠ [] ∧ mayL d.name.data.toList = true ∧ defB d = d.name.data.toList ++ [32, 60, 45, 32] ++ treeB d.body ++ [10]) := by
  unfold defB
  by_cases h : treeB d.body = []
  · exact .inl ⟨h, by rw [if_pos (.inl h)]⟩
  · cases hm : mayL d.name.data.toList with
    | false => exact .inr (.inl ⟨h, rfl, by rw [if_pos (.inr (by simp))]⟩)
    | true => exact .inr (.inr ⟨h, rfl, by rw [if_neg (fun k => k.elim h (fun k => k rfl))]⟩)
theorem defB_len (d : Df) : (defB d).length ≤ 37 + 2400 * d.body.nodes.length := by
  rcases defB_cases d with ⟨_, h⟩ | ⟨_, _, h⟩ | ⟨_, hm, h⟩
  · rw [h]; simp
  · rw [h]; simp
  · rw [h]
    simp only [mayL, decide_eq_true_eq] at hm
    have h1 := hm.2.1
    have h2 := treeB_len d.body
    simp only [List.length_append, List.length_cons, List.length_nil]
    omega

set_option maxRecDepth 100000 in
set_option maxHeartbeats 3200000 in
theorem def_any (d : Ld) (S : Nat → Prop) (w : World) (hT : d.t.inn w S) (hl : d.t.ls.length ≤ 1000000) (hs : d.name.size ≤ 281474976710656) (hp : PTabs w) :
    Calls Tryd.prog 23 #[d.val] w (TextPost (defB d.df) w) := by
  obtain ⟨nm, ⟨A, c, ls, root⟩⟩ := d
  simp only at hl hs
  unfold TextPost
  have HT := Lib.hid hT; have HP := Lib.hid hp; clear hT hp
  have HD := defB_cases (Ld.df ⟨nm, ⟨A, c, ls, root⟩⟩)
  have hlen := treeB_len (Lt.tr ⟨A, c, ls, root⟩)
  have HTR := Lib.hid (show ∀ w', Below w.heap.size w w' → Calls Tryd.prog 11 #[.agg #[.slice A ls.length c, .int .i64 root]] w' (TextPost (treeB (Lt.tr ⟨A, c, ls, root⟩)) w') from fun w' hb => ptree_t ⟨A, c, ls, root⟩ S w' (HT.out.below hb) hl (HP.out.below hb))
  simp only [Ld.df] at HD
  have hln : (Lt.tr ⟨A, c, ls, root⟩).nodes.length = ls.length := by simp [Lt.tr]
  rw [hln] at hlen
  show Calls _ _ _ _ fun e w' => e = .returned (.string ⟨(defB ⟨nm, Lt.tr ⟨A, c, ls, root⟩⟩).toArray⟩) ∧ Below w.heap.size w w'
  generalize defB ⟨nm, Lt.tr ⟨A, c, ls, root⟩⟩ = db at *
  generalize treeB (Lt.tr ⟨A, c, ls, root⟩) = tb at *
  clear hln
  have HDD := Lib.hid HD; clear HD
  have hbs : tb.length ≤ 2400000000 := by omega
  clear hlen
  go_enter Tryd.func23, Tryd.ntmps23
  have HB0 := Lib.hid (bx1 w (.cells #[.string nm, .slice A ls.length c, .int .i64 root] 47))
  have HK0 := Lib.hid (bx_new w (.cells #[.string nm, .slice A ls.length c, .int .i64 root] 47))
  obtain ⟨k0, k1, k2⟩ := blk3' HK0.out
  rcases HDD.out with ⟨h1, h2⟩ | ⟨h1, hm, h2⟩ | ⟨h1, hm, h2⟩
  · subst h1 h2
    go_wp2_with (first
      | (go_at_call 11; refine (HTR.out _ HB0.out).mono ?_; rintro e w1 ⟨rfl, hb⟩; have HB1 := Lib.hid (Below.step HB0.out hb); have HK1 := Lib.hid (bx_kept hb HK0.out); clear hb; obtain ⟨q0, q1, q2⟩ := blk3' HK1.out)
      | fail)
    go_ret
    exact ⟨rfl, HB1.out⟩
  · have he : tb.isEmpty = false := by simpa using h1
    have HM := Lib.hid hm; clear h1 hm
    subst h2
    go_wp2_with (first
      | (go_at_call 11; refine (HTR.out _ HB0.out).mono ?_; rintro e w1 ⟨rfl, hb⟩; have HB1 := Lib.hid (Below.step HB0.out hb); have HK1 := Lib.hid (bx_kept hb HK0.out); clear hb; obtain ⟨q0, q1, q2⟩ := blk3' HK1.out)
      | (go_at_call 62; refine (may_any nm _ hs).mono ?_; rintro e w2 ⟨rfl, hb⟩; rw [HM.out]; have HB2 := Lib.hid (Below.step HB1.out hb); clear hb)
      | fail)
    go_ret
    exact ⟨rfl, HB2.out⟩
  · have he : tb.isEmpty = false := by simpa using h1
    have HM := Lib.hid hm; have H2 := Lib.hid h2; clear h1 hm h2
    have c1 : ¬ 9223372036854775807 < nm.size + 4 := by omega
    have c2 : ¬ 9223372036854775807 < nm.size + 4 + tb.length := by omega
    have c3 : ¬ 9223372036854775807 < nm.size + 4 + tb.length + 1 := by omega
    go_wp2_with (first
      | (go_at_call 11; refine (HTR.out _ HB0.out).mono ?_; rintro e w1 ⟨rfl, hb⟩; have HB1 := Lib.hid (Below.step HB0.out hb); have HK1 := Lib.hid (bx_kept hb HK0.out); clear hb; obtain ⟨q0, q1, q2⟩ := blk3' HK1.out)
      | (go_at_call 62; refine (may_any nm _ hs).mono ?_; rintro e w2 ⟨rfl, hb⟩; rw [HM.out]; have HB2 := Lib.hid (Below.step HB1.out hb); have HK2 := Lib.hid (bx_kept hb HK1.out); clear hb; obtain ⟨r0, r1, r2⟩ := blk3' HK2.out)
      | fail)
    go_ret
    refine ⟨?_, HB2.out⟩
    rw [H2.out]
    refine congrArg (fun t => Ending.returned (Value.string t)) ?_
    apply ByteArray.ext
    apply Array.ext'
    simp
end Go.Proofs.YtdcgbcdmkhleoaaDoor

/- The contracts of print.Grammar and print.Size. -/
namespace Go.Proofs.YtdcgbcdmkhleoaaDoor
open Go.RowKit
set_option linter.unusedSimpArgs false
set_option linter.unusedVariables false

theorem gram_len (g : List Df) (h : ∀ d ∈ g, d.body.nodes.length ≤ 1000000) : (g.flatMap defB).length ≤ g.length * 2400000037 := by
  refine flat_len defB 2400000037 g fun d hd => ?_
  have h1 := defB_len d; have h2 := h d hd
  omega
theorem gramT_ok {g : List Df} (h : ∀ d ∈ g, okD d) : gramT g = g.flatMap defB := by unfold gramT; rw [gramB_ok g h]; rfl
theorem gramT_no {g : List Df} {d : Df} (hd : d ∈ g) (h : ¬ okD d) : gramT g = [] := by unfold gramT; rw [gramB_no g (fun k => h (k d hd))]; rfl
theorem gramT_len (g : List Df) (h : ∀ d ∈ g, d.body.nodes.length ≤ 1000000) : (gramT g).length ≤ g.length * 2400000037 := by
  by_cases hk : ∀ d ∈ g, okD d
  · rw [gramT_ok hk]; exact gram_len g h
  · unfold gramT; rw [gramB_no g hk]; simp
set_option maxRecDepth 100000 in
set_option maxHeartbeats 3200000 in
theorem pgram_any (A : Option Addr) (c : Nat) (ds : List Ld) (S : Nat → Prop) (w : World) (hT : dfL.row w S A ds) (hl : ds.length ≤ 50000) (hm : ∀ d ∈ ds, d.t.ls.length ≤ 1000000) (hp : PTabs w) :
    Calls Tryd.prog 21 #[.agg #[.slice A ds.length c]] w (TextPost (gramT (ds.map Ld.df)) w) := by
  unfold TextPost
  have HT := Lib.hid hT; have HP := Lib.hid hp; have HM := Lib.hid hm
  have HML := Lib.hid (show ∀ d ∈ ds.map Ld.df, d.body.nodes.length ≤ 1000000 from fun d hd => by
    obtain ⟨x, hx, rfl⟩ := List.mem_map.1 hd
    simpa [Ld.df, Lt.tr] using hm x hx)
  clear hT hp hm
  go_enter Tryd.func21, Tryd.ntmps21
  have HB0 := Lib.hid (bx1 w (.cells #[.slice A ds.length c] 50))
  have HK0 := Lib.hid (bx_new w (.cells #[.slice A ds.length c] 50))
  have HB1 := Lib.hid (bx2 w (.cells #[.slice A ds.length c] 50) (.cells #[.pointer none, .slice none 0 0] 77))
  have HI1 := Lib.hid (show IsB (w.heap.size + 1) (w.heap.size + 1) [] ((w.alloc (.cells #[.slice A ds.length c] 50)).alloc (.cells #[.pointer none, .slice none 0 0] 77)) from by
    have h := IsB.new (w.alloc (.cells #[.slice A ds.length c] 50)) (B := w.heap.size + 1) (by simp)
    rwa [World.size_alloc] at h)
  go_wp2_with fail
  go_loopw [10] (fun i wr => ∃ k : Nat, k ≤ ds.length ∧ i = .int .i64 k ∧ Hid (∀ d ∈ (ds.map Ld.df).take k, okD d) ∧ Hid (IsB (w.heap.size + 1) (w.heap.size + 1) (((ds.map Ld.df).take k).flatMap defB) wr) ∧ Hid (Below w.heap.size w wr) ∧ Hid (w.heap.size + 1 ≤ wr.heap.size)) (fun i _ => ds.length - (intOf i).toNat)
  case atStart => exact ⟨0, by omega, rfl, Lib.hid (by simp), HI1, HB1, Lib.hid (by simp)⟩
  case round =>
    obtain ⟨k, hk, rfl, HOK, HI, HB, HZ⟩ := hrel
    by_cases hlt : k < ds.length
    · obtain ⟨b, o, rfl, _, _, x0, x1, x2⟩ := dfRow (HT.out.agree (below_all HB.out)) k hlt
      have i1 : (k : Int) < (ds.length : Int) := by omega
      have HIN := Lib.hid (show ∀ w', Below w.heap.size w w' → ds[k].t.inn w' S from fun w' hb => dfSub (HT.out.agree (below_all hb)) k hlt)
      have HMK := Lib.hid (HM.out ds[k] (List.getElem_mem hlt))
      have HNM := Lib.hid (HT.out.sub k hlt).1
      have HLN := Lib.hid (show (((ds.map Ld.df).take k).flatMap defB).length ≤ 50000 * 2400000037 from by
        refine Nat.le_trans (gram_len _ fun d hd => HML.out d (List.mem_of_mem_take hd)) ?_
        simp only [List.length_take, List.length_map]; exact Nat.mul_le_mul_right _ (by omega))
      have HMEM := Lib.hid (show ds[k].df ∈ ds.map Ld.df from List.mem_map_of_mem (List.getElem_mem hlt))
      have HTK := Lib.hid (show (ds.map Ld.df).take (k + 1) = (ds.map Ld.df).take k ++ [ds[k].df] from by
        rw [List.take_succ_eq_append_getElem (by simpa using hlt)]; simp)
      have HDL := Lib.hid (defB_len ds[k].df)
      have HDI := Lib.hid (defB_iff ds[k].df)
      have HDA := Lib.hid (show ∀ w', Below w.heap.size w w' → Calls Tryd.prog 23 #[.agg #[.string ds[k].name, .slice ds[k].t.A ds[k].t.ls.length ds[k].t.c, .int .i64 ds[k].t.root]] w' (TextPost (defB ds[k].df) w') from fun w' hb => def_any ds[k] S w' (HIN.out w' hb) HMK.out HNM.out (HP.out.below hb))
      have hdl2 : ds[k].df.body.nodes.length ≤ 1000000 := by have := HMK.out; simpa [Ld.df, Lt.tr] using this
      have HDB := Lib.hid (show (defB ds[k].df).length ≤ 2400000037 from by have := HDL.out; omega)
      clear HDL HMK HNM HIN hdl2
      generalize hdf : ds[k].df = df at *
      generalize hdb : defB df = db at *
      generalize ds[k] = d at *
      clear hdf
      by_cases hz : db = []
      · have HNO := Lib.hid (gramT_no HMEM.out (fun h => HDI.out.2 h hz))
        subst hz
        go_wp2_with (first
          | (go_at_call 23; refine (HDA.out _ (Below.step HB.out (bx1 _ _))).mono ?_; rintro e w1 ⟨rfl, hb⟩; have HB1 := Lib.hid (Below.step (Below.step HB.out (bx1 wr _)) hb); clear hb)
          | fail)
        go_ret
        exact ⟨by rw [HNO.out]; rfl, HB1.out⟩
      · have he : db.isEmpty = false := by simpa using hz
        have HYES := Lib.hid (HDI.out.1 hz); clear hz
        go_wp2_with (first
          | (go_at_call 23; refine (HDA.out _ (Below.step HB.out (bx1 _ _))).mono ?_; rintro e w1 ⟨rfl, hb⟩; have HB2 := Lib.hid (Below.step (Below.step HB.out (bx1 wr _)) hb); have HI2 := Lib.hid (HI.out.below (Below.step (bx1 wr _) hb)); have HZ2 := Lib.hid (show w.heap.size + 1 ≤ w1.heap.size from Nat.le_trans HZ.out (Below.step (bx1 wr _) hb).size); clear hb)
          | (go_at_call 50; refine (write_any (w.heap.size + 1) (w.heap.size + 1) _ ⟨db.toArray⟩ _ HI2.out (by have h1 := HLN.out; have h2 := HDB.out; rw [size_mk]; omega) HZ2.out).mono ?_; rintro e w2 ⟨rfl, h1, h2, h3⟩; have HI3 := Lib.hid h1; have HB3 := Lib.hid (HB2.out.trans (h2.mono (Nat.le_succ _))); have HZ3 := Lib.hid (Nat.le_trans HZ2.out h2.size); clear h1 h2 h3)
          | fail)
        refine ⟨⟨k + 1, by omega, by go_num, Lib.hid ?_, Lib.hid ?_, HB3, HZ3⟩, by simp only [intOf]; omega⟩
        · intro x hx
          rw [HTK.out] at hx
          rcases List.mem_append.1 hx with hx | hx
          · exact HOK.out x hx
          · simp only [List.mem_singleton] at hx; subst hx; exact HYES.out
        · rw [HTK.out, List.flatMap_append]
          simp only [List.flatMap_cons, List.flatMap_nil, List.append_nil, hdb]
          exact HI3.out
    · have HE := Lib.hid (show (ds.map Ld.df).take k = ds.map Ld.df from List.take_of_length_le (by simp; omega))
      go_wp2_with (first
        | (go_at_call 54; refine (Tryd.Builder_String_any (w.heap.size + 1) (w.heap.size + 1) _ _ HI.out HZ.out).mono ?_; rintro e w3 ⟨rfl, hb3⟩; have HB3 := Lib.hid (HB.out.trans (hb3.mono (Nat.le_succ _))); clear hb3)
        | fail)
      go_ret
      refine ⟨?_, HB3.out⟩
      have h1 := HOK.out
      rw [HE.out] at h1 ⊢
      rw [gramT_ok h1]
      rfl
set_option maxRecDepth 100000 in
set_option maxHeartbeats 1600000 in
theorem psize_any (A : Option Addr) (c : Nat) (ds : List Ld) (S : Nat → Prop) (w : World) (hT : dfL.row w S A ds) (hl : ds.length ≤ 50000) (hm : ∀ d ∈ ds, d.t.ls.length ≤ 1000000) (hp : PTabs w) :
    Calls Tryd.prog 22 #[.agg #[.slice A ds.length c]] w fun e w' => e = .returned (.int .i64 ((gramT (ds.map Ld.df)).length : Nat)) ∧ Below w.heap.size w w' := by
  have HC := Lib.hid (show ∀ w', Below w.heap.size w w' → Calls Tryd.prog 21 #[.agg #[.slice A ds.length c]] w' (TextPost (gramT (ds.map Ld.df)) w') from fun w' hb => pgram_any A c ds S w' (hT.below hb) hl hm (hp.below hb))
  have HB0 := Lib.hid (bx1 w (.cells #[.slice A ds.length c] 50))
  clear hT hm hp
  generalize gramT (ds.map Ld.df) = t at *
  go_enter Tryd.func22, Tryd.ntmps22
  go_wp2_with (first
    | (go_at_call 21; refine (HC.out _ HB0.out).mono ?_; rintro e w1 ⟨rfl, hb⟩; have HB1 := Lib.hid (Below.step HB0.out hb); clear hb)
    | fail)
  go_ret
  exact ⟨rfl, HB1.out⟩
end Go.Proofs.YtdcgbcdmkhleoaaDoor
