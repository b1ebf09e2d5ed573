/- The contracts of diff.doings and diff.Apply. -/
import Derived.Test.YtbfjanfhgpgmdaaDoorDw
namespace Go.Proofs.YtbfjanfhgpgmdaaDoor
open Go.RowKit
set_option linter.unusedSimpArgs false
set_option linter.unusedVariables false

section
variable {P : Program} {w : World} {a : Addr} {m : Mode}
/-- The store of a function. -/
theorem run_store_func (f : Fn) (ts cs : Array Value) : (store a (.func f ts cs) m).run P w = stored P w a (.func f ts cs) m := run_store P w a _ m rfl
end
attribute [local go_sem] run_store_func
set_option maxRecDepth 100000 in
set_option maxHeartbeats 800000 in
theorem doings_any (w : World) :
    Calls Tryd.prog 45 #[] w fun en w' => en = .returned (.agg #[.func (.func 68) #[] #[], .func (.func 69) #[] #[], .func (.func 70) #[] #[]]) ∧ Below w.heap.size w w' := by
  go_enter Tryd.func45, Tryd.ntmps45
  go_wp2_with fail
  refine bodyPost_ret (v := .agg #[.func (.func 68) #[] #[], .func (.func 69) #[] #[], .func (.func 70) #[] #[]]) (by simp [results, Tryd.results45, go_sem]) rfl ⟨rfl, bx1 w _⟩

theorem ap_bad {e : Ed} (left : List Df) (l : List Ed) (h : mayE e = false) : applyL left (e :: l) = ([], 4) := by unfold applyL; rw [if_pos h]
theorem ap_ins {e : Ed} (left : List Df) (l : List Ed) (h : mayE e = true) (hk : e.kind = 2) : applyL left (e :: l) = joinA [e.d] (applyL left l) := by
  cases left <;> rw [applyL] <;> rw [if_neg (by simp [h]), if_pos hk]
theorem ap_none {e : Ed} (l : List Ed) (h : mayE e = true) (hk : e.kind ≠ 2) : applyL [] (e :: l) = ([], 5) := by rw [applyL, if_neg (by simp [h]), if_neg hk]
theorem ap_keep {e : Ed} (x : Df) (r : List Df) (l : List Ed) (h : mayE e = true) (hk : e.kind = 0) : applyL (x :: r) (e :: l) = joinA [x] (applyL r l) := by
  rw [applyL, if_neg (by simp [h]), if_neg (by rw [hk]; decide), if_pos hk]
theorem ap_del {e : Ed} (x : Df) (r : List Df) (l : List Ed) (h : mayE e = true) (hk : e.kind = 1) : applyL (x :: r) (e :: l) = applyL r l := by
  rw [applyL, if_neg (by simp [h]), if_neg (by rw [hk]; decide), if_neg (by rw [hk]; decide)]
theorem mayE_kind {e : Ed} (h : mayE e = true) : e.kind = 0 ∨ e.kind = 1 ∨ e.kind = 2 := by
  simp only [mayE, Bool.or_eq_true, decide_eq_true_eq] at h
  rcases h with h | ⟨h | h, _⟩ <;> simp [h]
theorem worked_agree {w w' : World} {Bw B n : Nat} {V : Option Addr} {L : Value} {xs : List Value} {x1 x2 : Nat} (h : Worked w.drew Bw B V L n xs w') (h1 : Bw < x2) (h2 : Bw < x1) (hx : x2 < x1 ∧ x1 < w.heap.size) (hV : ∀ x, blkOf V = some x → x2 + 1 ≤ x ∧ x < x1) : Agree (fun x => x = x1 ∨ x = x2) w w' := by
  obtain ⟨V', vc', _, _, _, h4⟩ := h
  intro x hxx hlt
  exact h4 x hlt (by rcases hxx with rfl | rfl <;> omega) (fun e => by have := hV x e; rcases hxx with rfl | rfl <;> omega)
theorem made_add {w : World} {S T : Nat → Prop} {made : List Ld} {x : Ld} (h : ∀ d ∈ made, DMod d ∧ (dfL.inn w S d ∨ dfL.inn w T d)) (h1 : DMod x) (h2 : dfL.inn w S x ∨ dfL.inn w T x) : ∀ d ∈ made ++ [x], DMod d ∧ (dfL.inn w S d ∨ dfL.inn w T d) := fun d hd => by
  rcases List.mem_append.1 hd with hd | hd
  · exact h d hd
  · simp only [List.mem_singleton] at hd; subst hd; exact ⟨h1, h2⟩
theorem tail_row {w : World} {S : Nat → Prop} {b o : Nat} {A' : Option Addr} {x : Ld} {r : List Ld} (h : dfL.row w S (some ⟨b, o, none⟩) (x :: r)) (hA : A' = some ⟨b, o + 3, none⟩ ∨ r.length = 0) : dfL.row w S A' r := by
  rcases hA with rfl | hr
  · exact df_tail h
  · obtain rfl := List.eq_nil_of_length_eq_zero hr
    exact Lay.row.nil _ _ _
theorem gram_nil (w : World) (S : Nat → Prop) : GramOwn w S none 0 [] := ⟨by simp, OwnS.nil _ _ _ _, fun _ _ => False, fun i h => by simp at h, fun _ _ h => h.elim, fun _ _ _ _ h => h.elim⟩
/-- What the call makes. -/
def ApplyPost (r : List Df × Int) (w : World) (e : Ending) (w' : World) : Prop := ∃ (V : Option Addr) (vc : Nat) (ds : List Ld), e = .returned (.tuple #[.agg #[.slice V ds.length vc], .int .i64 r.2]) ∧ ds.map Ld.df = r.1 ∧ GramOwn w' (w.heap.size ≤ ·) V vc ds ∧ Below w.heap.size w w'
/-- Where the work stands. -/
def ApplyRel (w : World) (H HA HD : Nat) (S T : Nat → Prop) (ds : List Ld) (es : List Le) (i : Value) (wr : World) : Prop :=
  ∃ (k : Nat) (left made : List Ld) (A V : Option Addr) (c vc : Nat), k ≤ es.length ∧ i = .int .i64 k ∧ left.length ≤ ds.length ∧ made.length ≤ ds.length + k ∧ Hid (left.length ≤ c ∧ c ≤ 9223372036854775807) ∧
    Hid (applyL (ds.map Ld.df) (es.map Le.ed) = joinA (made.map Ld.df) (applyL (left.map Ld.df) ((es.map Le.ed).drop k))) ∧
    Hid (dfL.row w S A left) ∧ Hid (∀ d ∈ left, DMod d) ∧ Hid (∀ d ∈ made, DMod d ∧ (dfL.inn w S d ∨ dfL.inn w T d)) ∧
    Hid (wr.heap[H + 1 + 1]? = some (.cells #[.slice A left.length c, .slice V made.length vc] 87 (0, 0))) ∧ Hid (wr.ownsRow HD 36 3 (.slice V made.length vc) made.length (dfL.all made)) ∧
    Hid (wr.heap[H + 1]? = some (.cells #[.slice none 0 0] 24 (0, 0))) ∧ Hid (wr.heap[HA]? = some (.cells #[.func (.func 68) #[] #[], .func (.func 69) #[] #[], .func (.func 70) #[] #[]] 89 (0, 0))) ∧
    Hid (Below H w wr) ∧ Hid (HD ≤ wr.heap.size)

set_option maxRecDepth 100000 in
set_option maxHeartbeats 12800000 in
theorem apply_any (A L : Option Addr) (c lc : Nat) (ds : List Ld) (es : List Le) (S T : Nat → Prop) (w : World) (hA : dfL.row w S A ds) (hL : edL.row w T L es) (hl : ds.length ≤ 100000) (hc : ds.length ≤ c ∧ c ≤ 9223372036854775807) (hel : es.length ≤ 100000)
    (hm : ∀ d ∈ ds, DMod d) (hme : ∀ e ∈ es, DMod e.d) :
    Calls Tryd.prog 12 #[.agg #[.slice A ds.length c], .slice L es.length lc] w (ApplyPost (applyL (ds.map Ld.df) (es.map Le.ed)) w) := by
  have HTA := Lib.hid hA; have HTL := Lib.hid hL; have HM := Lib.hid hm; have HME := Lib.hid hme; have HCC := Lib.hid hc
  clear hA hL hm hme hc
  unfold ApplyPost
  go_enter Tryd.func12, Tryd.ntmps12
  go_wp2_with (go_at_call 45; refine (doings_any _).mono ?_; rintro e w1 ⟨rfl, hb⟩; have HB1 := Lib.hid hb; clear hb)
  have HK1 := Lib.hid (show w1.heap[w.heap.size + 1]? = some (.cells #[.slice none 0 0] 24 (0, 0)) from bx_kept HB1.out (bx_old (by have h := bx_new (w.alloc (.cells #[.slice A ds.length c] 24)) (.cells #[.slice none 0 0] 24); simpa using h)))
  have HK2 := Lib.hid (show w1.heap[w.heap.size + 1 + 1]? = some (.cells #[.slice A ds.length c, .slice none 0 0] 87 (0, 0)) from bx_kept HB1.out (by have h := bx_new ((w.alloc (.cells #[.slice A ds.length c] 24)).alloc (.cells #[.slice none 0 0] 24)) (.cells #[.slice A ds.length c, .slice none 0 0] 87); simpa using h))
  have HBW := Lib.hid (show Below w.heap.size w w1 from Below.step (bx3 w _ _ _) HB1.out)
  have HW1 := Lib.hid (show w.heap.size + 3 ≤ w1.heap.size from by have h := HB1.out.size; simpa using h)
  clear HB1
  have hw1 := HW1.out
  go_loopw [17] (fun i wr => ApplyRel w w.heap.size w1.heap.size (w1.heap.size + 1) S T ds es i wr) (fun i _ => es.length - (intOf i).toNat)
  case atStart =>
    exact ⟨0, ds, [], A, none, c, 0, Nat.zero_le _, rfl, Nat.le_refl _, Nat.zero_le _, HCC, Lib.hid (by simp [joinA_nil _ (applyL_bad _ _)]), HTA, HM, Lib.hid (by simp), Lib.hid (bx_old HK2.out), Lib.hid (World.ownsRow_nil _ _ _ _), Lib.hid (bx_old HK1.out), Lib.hid (bx_new w1 _), Lib.hid (HBW.out.trans ((bx1 w1 _).mono (by omega))), Lib.hid (by simp)⟩
  case round =>
    clear HK1 HK2
    obtain ⟨k, left, made, LA, V, lc2, vc, hk, rfl, hll, hml, HLC, HAP, HLR, HLM, HMD, HK2, HOW, HK1, HKA, HB, HDS⟩ := hrel
    have hds := HDS.out
    by_cases hlt : k < es.length
    · have i1 : (k : Int) < (es.length : Int) := by omega
      have i2 : (0 : Int) ≤ (k : Int) := by omega
      obtain ⟨eb, eo, rfl, _, _, x0, x1, x2, x3⟩ := edRow (HTL.out.agree (below_all HB.out)) k hlt
      have HIN := Lib.hid (HTL.out.sub k hlt)
      have HEM := Lib.hid (HME.out es[k] (List.getElem_mem hlt))
      have HST := Lib.hid (show (es.map Le.ed).drop k = es[k].ed :: (es.map Le.ed).drop (k + 1) from by rw [List.drop_eq_getElem_cons (by simpa using hlt)]; simp)
      generalize es[k] = e at *
      obtain ⟨kd, dd⟩ := e
      simp only at x0 x1 x2 x3
      cases hmay : mayE (Le.ed ⟨kd, dd⟩)
      · have HR := Lib.hid (show applyL (ds.map Ld.df) (es.map Le.ed) = ([], 4) from by rw [HAP.out, HST.out, ap_bad _ _ hmay]; rfl)
        as_aux_lemma =>
          go_wp2_with (go_at_call 16; refine (emay_any ⟨kd, dd⟩ _ HIN.out.1).mono ?_; rintro e w2 ⟨rfl, hb⟩; rw [hmay]; have HB2 := Lib.hid (show Below w.heap.size w w2 from (HB.out.trans ((bx1 wr _).mono HB.out.size)).trans (hb.mono (by have := HB.out.size; simp; omega))); obtain ⟨s1, s2⟩ := blk1 (bx_kept hb (bx_old HK1.out)); clear hb)
          refine bodyPost_ret (v := .tuple #[.agg #[.slice none 0 0], .int .i64 4]) (by simp [results, Tryd.results12, go_sem, s1]) rfl ?_
          rw [HR.out]
          exact ⟨none, 0, [], rfl, rfl, gram_nil _ _, HB2.out.setCell (p := ⟨w.heap.size + 1, 0, none⟩) (by simp) _⟩
      · have HMY := Lib.hid hmay
        have hkk := mayE_kind hmay
        go_wp2_with (go_at_call 16; go_loud (refine (emay_any ⟨kd, dd⟩ _ HIN.out.1).mono ?_; rintro e w2 ⟨rfl, hb⟩; rw [hmay]; have HBw := Lib.hid (show Below w.heap.size w w2 from (HB.out.trans ((bx1 wr _).mono HB.out.size)).trans (hb.mono (by have := HB.out.size; simp; omega))); have HBX := Lib.hid (bx_kept hb (bx_new wr _)); have HK2w := Lib.hid (bx_kept hb (bx_old HK2.out)); have HK1w := Lib.hid (bx_kept hb (bx_old HK1.out)); have HKAw := Lib.hid (bx_kept hb (bx_old HKA.out)); have HOWw := Lib.hid (own_agree HOW.out (fun x hx => (Below.step (bx1 wr _) hb).block x (own_blk HOW.out x hx).2)); have HZ := Lib.hid (show wr.heap.size < w2.heap.size from by have := hb.size; simp at this; omega); have HBR := Lib.hid (show Below wr.heap.size wr w2 from Below.step (bx1 wr _) hb); clear hb))
        have HVL := Lib.hid (show ∀ x, blkOf V = some x → w1.heap.size + 1 ≤ x ∧ x < wr.heap.size from fun x hx => own_blk HOW.out x hx)
        have HWR := Lib.hid (show w.heap.size + 1 + 1 < w1.heap.size ∧ w1.heap.size < wr.heap.size ∧ wr.heap.size < w2.heap.size from ⟨by omega, by omega, HZ.out⟩)
        have HOD := Lib.hid (show w2.drew.ownsRow (w1.heap.size + 1) 36 3 (.slice V made.length vc) made.length (dfL.all made) from own_agree HOWw.out (fun _ _ => rfl))
        have HZD := Lib.hid (show w1.heap.size + 1 ≤ w2.drew.heap.size ∧ made.length ≤ 4294967296 ∧ w.heap.size + 1 + 1 < w1.heap.size + 1 from ⟨by have := HZ.out; show _ ≤ w2.heap.size; omega, by omega, by omega⟩)
        rcases hkk with hk0 | hk0 | hk0
        · obtain rfl : kd = 0 := hk0
          cases left with
          | nil =>
            have HR := Lib.hid (show applyL (ds.map Ld.df) (es.map Le.ed) = ([], 5) from by rw [HAP.out, HST.out]; show joinA _ (applyL [] _) = _; rw [ap_none _ hmay (by simp [Le.ed])]; rfl)
            as_aux_lemma =>
              have HSB := Lib.hid (show ∀ w', Agree (fun x => x = wr.heap.size ∨ x = w1.heap.size) w2 w' → w'.cell? ⟨wr.heap.size, 0, none⟩ = some (.int .u8 0) ∧ w'.cell? ⟨wr.heap.size, 1, none⟩ = some (.string dd.name) ∧ w'.cell? ⟨wr.heap.size, 2, none⟩ = some (.slice dd.t.A dd.t.ls.length dd.t.c) ∧ w'.cell? ⟨wr.heap.size, 3, none⟩ = some (.int .i64 dd.t.root) ∧ w'.cell? ⟨w1.heap.size, 0, none⟩ = some (.func (.func 68) #[] #[]) from fun w' ha => by
                have h1 := (ha wr.heap.size (Or.inl rfl) (heap_lt' HBX.out)).trans HBX.out
                have h2 := (ha w1.heap.size (Or.inr rfl) (heap_lt' HKAw.out)).trans HKAw.out
                refine ⟨?_, ?_, ?_, ?_, ?_⟩ <;> simp [World.cell?, h1, h2])
              have HKD := Lib.hid (show w2.drew.heap[w.heap.size + 1 + 1]? = some (.cells #[.slice LA 0 lc2, .slice V made.length vc] 87 (0, 0)) from HK2w.out)
              go_region_held3 (fun w' => w'.cell? ⟨wr.heap.size, 0, none⟩ = some (.int .u8 0) ∧ w'.cell? ⟨wr.heap.size, 1, none⟩ = some (.string dd.name) ∧ w'.cell? ⟨wr.heap.size, 2, none⟩ = some (.slice dd.t.A dd.t.ls.length dd.t.c) ∧ w'.cell? ⟨wr.heap.size, 3, none⟩ = some (.int .i64 dd.t.root) ∧ w'.cell? ⟨w1.heap.size, 0, none⟩ = some (.func (.func 68) #[] #[]))
                (first | exact HSB.out _ (drew_agree _ _) | exact HSB.out _ HA5.out)
                (((go_at_call 68; (with_reducible refine (does1_none (w.heap.size + 1 + 1) LA lc2 (.slice V made.length vc) w2.drew HKD.out _ _ _ _).mono ?_)); rintro e w5 ⟨rfl, hwk⟩; have HWK := Lib.hid hwk; have HA5 := Lib.hid (show Agree (fun x => x = wr.heap.size ∨ x = w1.heap.size) w2 w5 from fun x _ hx => hwk.block x hx); clear hwk))
              have HB5 := Lib.hid (show Below w2.heap.size w2 w5 from (Below.refl _ w2).drew.trans HWK.out)
              have HK5 := Lib.hid (bx_kept HB5.out HK1w.out)
              obtain ⟨s1, s2⟩ := blk1 HK5.out
              go_wp2_with fail
              refine bodyPost_ret (v := .tuple #[.agg #[.slice none 0 0], .int .i64 5]) (by simp [results, Tryd.results12, go_sem, s1]) rfl ?_
              rw [HR.out]
              exact ⟨none, 0, [], rfl, rfl, gram_nil _ _, (Below.step HBw.out HB5.out).setCell (p := ⟨w.heap.size + 1, 0, none⟩) (by simp) _⟩
          | cons x r =>
            have HLC2 := Lib.hid (show r.length + 1 ≤ lc2 ∧ lc2 ≤ 9223372036854775807 from HLC.out)
            obtain ⟨lb, lo, rfl, _, _, y0, y1, y2⟩ := dfRow (HLR.out.agree (below_all HBw.out)) 0 (by simp)
            simp only [Nat.zero_mul, Nat.add_zero, List.getElem_cons_zero] at y0 y1 y2
            have HY := Lib.hid (show w2.drew.cell? ⟨lb, lo, none⟩ = some (.string x.name) ∧ w2.drew.cell? ⟨lb, lo + 1, none⟩ = some (.slice x.t.A x.t.ls.length x.t.c) ∧ w2.drew.cell? ⟨lb, lo + 2, none⟩ = some (.int .i64 x.t.root) from ⟨y0, y1, y2⟩)
            clear y0 y1 y2
            as_aux_lemma =>
              have HSB := Lib.hid (show ∀ w', Agree (fun x => x = wr.heap.size ∨ x = w1.heap.size) w2 w' → w'.cell? ⟨wr.heap.size, 0, none⟩ = some (.int .u8 0) ∧ w'.cell? ⟨wr.heap.size, 1, none⟩ = some (.string dd.name) ∧ w'.cell? ⟨wr.heap.size, 2, none⟩ = some (.slice dd.t.A dd.t.ls.length dd.t.c) ∧ w'.cell? ⟨wr.heap.size, 3, none⟩ = some (.int .i64 dd.t.root) ∧ w'.cell? ⟨w1.heap.size, 0, none⟩ = some (.func (.func 68) #[] #[]) from fun w' ha => by
                have h1 := (ha wr.heap.size (Or.inl rfl) (heap_lt' HBX.out)).trans HBX.out
                have h2 := (ha w1.heap.size (Or.inr rfl) (heap_lt' HKAw.out)).trans HKAw.out
                refine ⟨?_, ?_, ?_, ?_, ?_⟩ <;> simp [World.cell?, h1, h2])
              have HKD := Lib.hid (show w2.drew.heap[w.heap.size + 1 + 1]? = some (.cells #[.slice (some ⟨lb, lo, none⟩) (r.length + 1) lc2, .slice V made.length vc] 87 (0, 0)) from HK2w.out)
              go_region_held3 (fun w' => w'.cell? ⟨wr.heap.size, 0, none⟩ = some (.int .u8 0) ∧ w'.cell? ⟨wr.heap.size, 1, none⟩ = some (.string dd.name) ∧ w'.cell? ⟨wr.heap.size, 2, none⟩ = some (.slice dd.t.A dd.t.ls.length dd.t.c) ∧ w'.cell? ⟨wr.heap.size, 3, none⟩ = some (.int .i64 dd.t.root) ∧ w'.cell? ⟨w1.heap.size, 0, none⟩ = some (.func (.func 68) #[] #[]))
                (first | exact HSB.out _ (drew_agree _ _) | exact HSB.out _ HA5.out)
                (((go_at_call 68; (with_reducible refine (does1_some (w.heap.size + 1 + 1) made.length vc (w1.heap.size + 1) lb lo r.length lc2 V made x undef w2.drew HKD.out HOD.out HZD.out.1 HZD.out.2.1 HZD.out.2.2 HLC2.out.1 HLC2.out.2 HY.out.1 HY.out.2.1 HY.out.2.2 _ _ _ _).mono ?_)); rintro e w5 ⟨rfl, hwk⟩; have HWK := Lib.hid hwk; have HA5 := Lib.hid (show Agree (fun x => x = wr.heap.size ∨ x = w1.heap.size) w2 w5 from worked_agree hwk.choose_spec.choose_spec.1 HWR.out.1 (by have := HWR.out.2; omega) HWR.out.2 HVL.out); clear hwk))
              obtain ⟨A', c', ⟨V', vc', h1, h2, h3, h4⟩, hA', hc1, hc2⟩ := HWK.out
              have h5 : ∀ x, x < w2.heap.size → x ≠ w.heap.size + 1 + 1 → blkOf V ≠ some x → w5.heap[x]? = w2.heap[x]? := h4
              have H1 := Lib.hid h1; have H2 := Lib.hid h2; have H3 := Lib.hid h3; have H5 := Lib.hid h5; have HAA := Lib.hid hA'; have HC' := Lib.hid (And.intro hc1 hc2)
              clear h1 h2 h3 h4 h5 hA' hc1 hc2
              go_wp2_with fail
              have hvl := HVL.out
              have hwr := HWR.out
              exact ⟨⟨k + 1, r, made ++ [x], A', V', c', vc', by omega, by go_num, by simp at hll; omega, by simp at hll ⊢; omega, HC', Lib.hid (by
                rw [HAP.out, HST.out]; show joinA _ (applyL (x.df :: r.map Ld.df) _) = _; rw [ap_keep _ _ _ HMY.out rfl, joinA_join]; simp), Lib.hid (tail_row HLR.out HAA.out), Lib.hid (fun d hd => HLM.out d (List.mem_cons_of_mem _ hd)), Lib.hid (made_add HMD.out (HLM.out x List.mem_cons_self) (Or.inl (HLR.out.2 x List.mem_cons_self))), Lib.hid (by simpa using H1.out), Lib.hid (by simpa using H2.out), Lib.hid ((H5.out _ (by omega) (by omega) (fun e => by have := hvl _ e; omega)).trans HK1w.out), Lib.hid ((H5.out _ (by omega) (by omega) (fun e => by have := hvl _ e; omega)).trans HKAw.out), Lib.hid (HBw.out.trans ((Below.drew (Below.refl _ w2)).trans (H3.out.mono (by omega)))), Lib.hid (by have := H3.out.size; have : w2.heap.size ≤ w5.heap.size := this; omega)⟩, by simp only [intOf]; omega⟩
        · obtain rfl : kd = 1 := hk0
          cases left with
          | nil =>
            have HR := Lib.hid (show applyL (ds.map Ld.df) (es.map Le.ed) = ([], 5) from by rw [HAP.out, HST.out]; show joinA _ (applyL [] _) = _; rw [ap_none _ hmay (by simp [Le.ed])]; rfl)
            as_aux_lemma =>
              have HSB := Lib.hid (show ∀ w', Agree (fun x => x = wr.heap.size ∨ x = w1.heap.size) w2 w' → w'.cell? ⟨wr.heap.size, 0, none⟩ = some (.int .u8 1) ∧ w'.cell? ⟨wr.heap.size, 1, none⟩ = some (.string dd.name) ∧ w'.cell? ⟨wr.heap.size, 2, none⟩ = some (.slice dd.t.A dd.t.ls.length dd.t.c) ∧ w'.cell? ⟨wr.heap.size, 3, none⟩ = some (.int .i64 dd.t.root) ∧ w'.cell? ⟨w1.heap.size, 1, none⟩ = some (.func (.func 69) #[] #[]) from fun w' ha => by
                have h1 := (ha wr.heap.size (Or.inl rfl) (heap_lt' HBX.out)).trans HBX.out
                have h2 := (ha w1.heap.size (Or.inr rfl) (heap_lt' HKAw.out)).trans HKAw.out
                refine ⟨?_, ?_, ?_, ?_, ?_⟩ <;> simp [World.cell?, h1, h2])
              have HKD := Lib.hid (show w2.drew.heap[w.heap.size + 1 + 1]? = some (.cells #[.slice LA 0 lc2, .slice V made.length vc] 87 (0, 0)) from HK2w.out)
              go_region_held3 (fun w' => w'.cell? ⟨wr.heap.size, 0, none⟩ = some (.int .u8 1) ∧ w'.cell? ⟨wr.heap.size, 1, none⟩ = some (.string dd.name) ∧ w'.cell? ⟨wr.heap.size, 2, none⟩ = some (.slice dd.t.A dd.t.ls.length dd.t.c) ∧ w'.cell? ⟨wr.heap.size, 3, none⟩ = some (.int .i64 dd.t.root) ∧ w'.cell? ⟨w1.heap.size, 1, none⟩ = some (.func (.func 69) #[] #[]))
                (first | exact HSB.out _ (drew_agree _ _) | exact HSB.out _ HA5.out)
                (((go_at_call 69; (with_reducible refine (does2_none (w.heap.size + 1 + 1) LA lc2 (.slice V made.length vc) undef w2.drew HKD.out _ _ _ _).mono ?_)); rintro e w5 ⟨rfl, hwk⟩; have HWK := Lib.hid hwk; have HA5 := Lib.hid (show Agree (fun x => x = wr.heap.size ∨ x = w1.heap.size) w2 w5 from fun x _ hx => hwk.block x hx); clear hwk))
              have HB5 := Lib.hid (show Below w2.heap.size w2 w5 from (Below.refl _ w2).drew.trans HWK.out)
              have HK5 := Lib.hid (bx_kept HB5.out HK1w.out)
              obtain ⟨s1, s2⟩ := blk1 HK5.out
              go_wp2_with fail
              refine bodyPost_ret (v := .tuple #[.agg #[.slice none 0 0], .int .i64 5]) (by simp [results, Tryd.results12, go_sem, s1]) rfl ?_
              rw [HR.out]
              exact ⟨none, 0, [], rfl, rfl, gram_nil _ _, (Below.step HBw.out HB5.out).setCell (p := ⟨w.heap.size + 1, 0, none⟩) (by simp) _⟩
          | cons x r =>
            have HLC2 := Lib.hid (show r.length + 1 ≤ lc2 ∧ lc2 ≤ 9223372036854775807 from HLC.out)
            obtain ⟨lb, lo, rfl, _, _, _, _, _⟩ := dfRow (HLR.out.agree (below_all HBw.out)) 0 (by simp)
            as_aux_lemma =>
              have HSB := Lib.hid (show ∀ w', Agree (fun x => x = wr.heap.size ∨ x = w1.heap.size) w2 w' → w'.cell? ⟨wr.heap.size, 0, none⟩ = some (.int .u8 1) ∧ w'.cell? ⟨wr.heap.size, 1, none⟩ = some (.string dd.name) ∧ w'.cell? ⟨wr.heap.size, 2, none⟩ = some (.slice dd.t.A dd.t.ls.length dd.t.c) ∧ w'.cell? ⟨wr.heap.size, 3, none⟩ = some (.int .i64 dd.t.root) ∧ w'.cell? ⟨w1.heap.size, 1, none⟩ = some (.func (.func 69) #[] #[]) from fun w' ha => by
                have h1 := (ha wr.heap.size (Or.inl rfl) (heap_lt' HBX.out)).trans HBX.out
                have h2 := (ha w1.heap.size (Or.inr rfl) (heap_lt' HKAw.out)).trans HKAw.out
                refine ⟨?_, ?_, ?_, ?_, ?_⟩ <;> simp [World.cell?, h1, h2])
              have HKD := Lib.hid (show w2.drew.heap[w.heap.size + 1 + 1]? = some (.cells #[.slice (some ⟨lb, lo, none⟩) (r.length + 1) lc2, .slice V made.length vc] 87 (0, 0)) from HK2w.out)
              go_region_held3 (fun w' => w'.cell? ⟨wr.heap.size, 0, none⟩ = some (.int .u8 1) ∧ w'.cell? ⟨wr.heap.size, 1, none⟩ = some (.string dd.name) ∧ w'.cell? ⟨wr.heap.size, 2, none⟩ = some (.slice dd.t.A dd.t.ls.length dd.t.c) ∧ w'.cell? ⟨wr.heap.size, 3, none⟩ = some (.int .i64 dd.t.root) ∧ w'.cell? ⟨w1.heap.size, 1, none⟩ = some (.func (.func 69) #[] #[]))
                (first | exact HSB.out _ (drew_agree _ _) | exact HSB.out _ HA5.out)
                (((go_at_call 69; (with_reducible refine (does2_some (w.heap.size + 1 + 1) lb lo r.length lc2 (.slice V made.length vc) w2.drew HKD.out HLC2.out.1 HLC2.out.2 _ _ _ _).mono ?_)); rintro e w5 ⟨rfl, hwk⟩; have HWK := Lib.hid hwk; have HA5 := Lib.hid (show Agree (fun x => x = wr.heap.size ∨ x = w1.heap.size) w2 w5 from fun x hx hxl => hwk.choose_spec.choose_spec.2.2.2.block x hxl (fun e => by have := HWR.out; injection e with e; rcases hx with hx | hx <;> omega)); clear hwk))
              obtain ⟨A', c', h1, hA', ⟨hc1, hc2⟩, h3⟩ := HWK.out
              have h5 : ∀ x, x < w2.heap.size → x ≠ w.heap.size + 1 + 1 → w5.heap[x]? = w2.heap[x]? := fun x hx hne => h3.block x hx (fun e => hne (by injection e))
              have H1 := Lib.hid h1; have H3 := Lib.hid h3; have H5 := Lib.hid h5; have HAA := Lib.hid hA'; have HC' := Lib.hid (And.intro hc1 hc2)
              clear h1 h3 h5 hA' hc1 hc2
              go_wp2_with fail
              have hvl := HVL.out
              have hwr := HWR.out
              exact ⟨⟨k + 1, r, made, A', V, c', vc, by omega, by go_num, by simp at hll; omega, by simp at hll ⊢; omega, HC', Lib.hid (by
                rw [HAP.out, HST.out]; show joinA _ (applyL (x.df :: r.map Ld.df) _) = _; rw [ap_del _ _ _ HMY.out rfl]), Lib.hid (tail_row HLR.out HAA.out), Lib.hid (fun d hd => HLM.out d (List.mem_cons_of_mem _ hd)), HMD, H1, Lib.hid (own_agree HOWw.out (fun x hx => H5.out x (own_blk HOWw.out x hx).2 (by have := hvl x hx; omega))), Lib.hid ((H5.out _ (by omega) (by omega)).trans HK1w.out), Lib.hid ((H5.out _ (by omega) (by omega)).trans HKAw.out), Lib.hid ((Below.drew HBw.out).grown H3.out (by show _ ≤ w2.heap.size; omega) (fun k hk => by injection hk with hk; omega)), Lib.hid (by have := H3.out.size; have : w2.heap.size ≤ w5.heap.size := this; omega)⟩, by simp only [intOf]; omega⟩
        · obtain rfl : kd = 2 := hk0
          as_aux_lemma =>
            have HSB := Lib.hid (show ∀ w', Agree (fun x => x = wr.heap.size ∨ x = w1.heap.size) w2 w' → w'.cell? ⟨wr.heap.size, 0, none⟩ = some (.int .u8 2) ∧ w'.cell? ⟨wr.heap.size, 1, none⟩ = some (.string dd.name) ∧ w'.cell? ⟨wr.heap.size, 2, none⟩ = some (.slice dd.t.A dd.t.ls.length dd.t.c) ∧ w'.cell? ⟨wr.heap.size, 3, none⟩ = some (.int .i64 dd.t.root) ∧ w'.cell? ⟨w1.heap.size, 2, none⟩ = some (.func (.func 70) #[] #[]) from fun w' ha => by
              have h1 := (ha wr.heap.size (Or.inl rfl) (heap_lt' HBX.out)).trans HBX.out
              have h2 := (ha w1.heap.size (Or.inr rfl) (heap_lt' HKAw.out)).trans HKAw.out
              refine ⟨?_, ?_, ?_, ?_, ?_⟩ <;> simp [World.cell?, h1, h2])
            have HKD := Lib.hid (show w2.drew.heap[w.heap.size + 1 + 1]? = some (.cells #[.slice LA left.length lc2, .slice V made.length vc] 87 (0, 0)) from HK2w.out)
            go_region_held3 (fun w' => w'.cell? ⟨wr.heap.size, 0, none⟩ = some (.int .u8 2) ∧ w'.cell? ⟨wr.heap.size, 1, none⟩ = some (.string dd.name) ∧ w'.cell? ⟨wr.heap.size, 2, none⟩ = some (.slice dd.t.A dd.t.ls.length dd.t.c) ∧ w'.cell? ⟨wr.heap.size, 3, none⟩ = some (.int .i64 dd.t.root) ∧ w'.cell? ⟨w1.heap.size, 2, none⟩ = some (.func (.func 70) #[] #[]))
              (first | exact HSB.out _ (drew_agree _ _) | exact HSB.out _ HA5.out)
              (((go_at_call 70; (with_reducible refine (does3_any (w.heap.size + 1 + 1) made.length vc (w1.heap.size + 1) V (.slice LA left.length lc2) made ⟨2, dd⟩ w2.drew HKD.out HOD.out HZD.out.1 HZD.out.2.1 HZD.out.2.2).mono ?_)); rintro e w5 ⟨rfl, hwk⟩; have HWK := Lib.hid hwk; have HA5 := Lib.hid (show Agree (fun x => x = wr.heap.size ∨ x = w1.heap.size) w2 w5 from worked_agree hwk HWR.out.1 (by have := HWR.out.2; omega) HWR.out.2 HVL.out); clear hwk))
            obtain ⟨V', vc', h1, h2, h3, h4⟩ := HWK.out
            have h5 : ∀ x, x < w2.heap.size → x ≠ w.heap.size + 1 + 1 → blkOf V ≠ some x → w5.heap[x]? = w2.heap[x]? := h4
            have H1 := Lib.hid h1; have H2 := Lib.hid h2; have H3 := Lib.hid h3; have H5 := Lib.hid h5
            clear h1 h2 h3 h4 h5
            go_wp2_with fail
            have hvl := HVL.out
            have hwr := HWR.out
            exact ⟨⟨k + 1, left, made ++ [dd], LA, V', lc2, vc', by omega, by go_num, hll, by simp; omega, HLC, Lib.hid (by
              rw [HAP.out, HST.out, ap_ins _ _ HMY.out rfl, joinA_join]; simp; rfl), HLR, HLM, Lib.hid (made_add HMD.out HEM.out (Or.inr HIN.out.2)), Lib.hid (by simpa using H1.out), Lib.hid (by simpa using H2.out), Lib.hid ((H5.out _ (by omega) (by omega) (fun e => by have := hvl _ e; omega)).trans HK1w.out), Lib.hid ((H5.out _ (by omega) (by omega) (fun e => by have := hvl _ e; omega)).trans HKAw.out), Lib.hid (HBw.out.trans ((Below.drew (Below.refl _ w2)).trans (H3.out.mono (by omega)))), Lib.hid (by have := H3.out.size; have : w2.heap.size ≤ w5.heap.size := this; omega)⟩, by simp only [intOf]; omega⟩
    · obtain rfl : k = es.length := by omega
      have HE := Lib.hid (show applyL (ds.map Ld.df) (es.map Le.ed) = joinA (made.map Ld.df) (applyL (left.map Ld.df) []) from by
        have h := HAP.out
        rw [List.drop_of_length_le (by simp)] at h
        exact h)
      obtain ⟨p1, p2, _, _⟩ := blk2 HK2.out
      cases left with
      | cons x r =>
        have HR := Lib.hid (show applyL (ds.map Ld.df) (es.map Le.ed) = ([], 8) from HE.out.trans (by simp [applyL, joinA]))
        obtain ⟨s1, s2⟩ := blk1 HK1.out
        have hn0 : (0 : Int) < ((x :: r).length : Int) := by simp
        as_aux_lemma =>
          go_wp2_with fail
          refine bodyPost_ret (v := .tuple #[.agg #[.slice none 0 0], .int .i64 8]) (by simp [results, Tryd.results12, go_sem, s1]) rfl ?_
          rw [HR.out]
          exact ⟨none, 0, [], rfl, rfl, gram_nil _ _, HB.out.setCell (p := ⟨w.heap.size + 1, 0, none⟩) (by simp) _⟩
      | nil =>
        have HR := Lib.hid (show applyL (ds.map Ld.df) (es.map Le.ed) = (made.map Ld.df, 0) from HE.out.trans (by simp [applyL, joinA]))
        have HMR := Lib.hid (show dfL.row wr (fun _ => True) V made from ⟨own_rowIn HOW.out (fun _ _ => trivial), fun d hd => by
          rcases (HMD.out d hd).2 with h | h
          · exact dfL.mono (dfL.agree h (below_all HB.out)) (fun _ _ _ => trivial)
          · exact dfL.mono (dfL.agree h (below_all HB.out)) (fun _ _ _ => trivial)⟩)
        have hz := HB.out.size
        as_aux_lemma =>
          simp only [List.length_nil] at p1
          go_wp2_with (go_at_call 46; refine (gcopy_any V vc made (fun _ => True) _ HMR.out (by omega) (fun d hd => (HMD.out d hd).1)).mono ?_; rintro e w5 ⟨V5, vc5, ds5, rfl, hdf, hgo, hb5⟩; have HDF := Lib.hid hdf; have HGO := Lib.hid hgo; have HB5 := Lib.hid hb5; obtain ⟨s1, s2⟩ := blk1 (bx_kept hb5 HK1.out); clear hdf hgo hb5)
          refine bodyPost_ret (v := .tuple #[.agg #[.slice V5 ds5.length vc5], .int .i64 0]) (by simp [results, Tryd.results12, go_sem, s1]) rfl ?_
          rw [HR.out]
          have hk1 := heap_lt' HK1.out
          refine ⟨V5, vc5, ds5, rfl, HDF.out, ((HGO.out.agree (fun x hx _ => Below.heap_setCell _ _ _ _ (by have hx : wr.heap.size ≤ x := hx; show x ≠ w.heap.size + 1; omega))).mono (fun x hx => by have hx : wr.heap.size ≤ x := hx; show w.heap.size ≤ x; omega)), ?_⟩
          exact (Below.step HB.out HB5.out).setCell (p := ⟨w.heap.size + 1, 0, none⟩) (by simp) _
end Go.Proofs.YtbfjanfhgpgmdaaDoor
