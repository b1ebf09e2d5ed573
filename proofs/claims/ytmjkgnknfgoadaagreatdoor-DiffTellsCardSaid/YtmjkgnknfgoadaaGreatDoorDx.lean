/- The contract of diff.Of. -/
import Derived.Test.YtmjkgnknfgoadaaGreatDoorDv
import Derived.Test.YtmjkgnknfgoadaaGreatDoorDw
import Derived.BigQuiet
namespace Go.Proofs.YtmjkgnknfgoadaaGreatDoor
open Go.RowKit
set_option linter.unusedSimpArgs false
set_option linter.unusedVariables false
theorem infoEdit : (Tryz.prog.info? 52).map (fun i => (i.zero, i.size, i.bytes)) = some (some (.agg #[.int .u8 0, .string ByteArray.empty, .slice none 0 0, .int .i64 0]), 4, 56) := by kernel_rfl
section
variable {a b : List Df} {p q : Nat}
theorem of_end (hp : p = a.length) (hq : q = b.length) : ofL (a.drop p) (b.drop q) = [] := by
  rw [List.drop_of_length_le (by omega), List.drop_of_length_le (by omega), ofL]
theorem of_keep (hp : p < a.length) (hq : q < b.length) (h : sameD a[p] b[q] = true) : ofL (a.drop p) (b.drop q) = ⟨0, ⟨⟨#[]⟩, ⟨[], 0⟩⟩⟩ :: ofL (a.drop (p + 1)) (b.drop (q + 1)) := by
  rw [List.drop_eq_getElem_cons hp, List.drop_eq_getElem_cons hq, ofL, if_pos h]
theorem of_del0 (hp : p < a.length) (hq : q = b.length) : ofL (a.drop p) (b.drop q) = ⟨1, ⟨⟨#[]⟩, ⟨[], 0⟩⟩⟩ :: ofL (a.drop (p + 1)) (b.drop q) := by
  rw [List.drop_eq_getElem_cons hp, List.drop_of_length_le (l := b) (by omega), ofL]
theorem of_ins0 (hp : p = a.length) (hq : q < b.length) : ofL (a.drop p) (b.drop q) = ⟨2, b[q]⟩ :: ofL (a.drop p) (b.drop (q + 1)) := by
  rw [List.drop_of_length_le (l := a) (by omega), List.drop_eq_getElem_cons hq, ofL]
theorem of_del (hp : p < a.length) (hq : q < b.length) (h : sameD a[p] b[q] = false) (hn : needL (a.drop (p + 1)) (b.drop q) ≤ needL (a.drop p) (b.drop (q + 1))) : ofL (a.drop p) (b.drop q) = ⟨1, ⟨⟨#[]⟩, ⟨[], 0⟩⟩⟩ :: ofL (a.drop (p + 1)) (b.drop q) := by
  have e1 := List.drop_eq_getElem_cons hp
  have e2 := List.drop_eq_getElem_cons hq
  rw [e1, e2] at hn
  rw [e1, e2, ofL, if_neg (by simp [h]), if_pos hn]
theorem of_ins (hp : p < a.length) (hq : q < b.length) (h : sameD a[p] b[q] = false) (hn : ¬ needL (a.drop (p + 1)) (b.drop q) ≤ needL (a.drop p) (b.drop (q + 1))) : ofL (a.drop p) (b.drop q) = ⟨2, b[q]⟩ :: ofL (a.drop p) (b.drop (q + 1)) := by
  have e1 := List.drop_eq_getElem_cons hp
  have e2 := List.drop_eq_getElem_cons hq
  rw [e1, e2] at hn
  rw [e1, e2, ofL, if_neg (by simp [h]), if_neg hn]
end
structure EdsOwn (w : World) (S : Nat → Prop) (A : Option Addr) (c : Nat) (es : List Le) : Prop where
  len : es.length ≤ 281474976710656
  row : OwnS w S 52 4 A es.length c (edL.all es)
  kids : ∃ Q : Nat → Nat → Prop, (∀ i (h : i < es.length), (0 ≤ es[i].kind ∧ es[i].kind ≤ 255) ∧ es[i].d.name.size ≤ 281474976710656 ∧ TreeOwn w (Q i) es[i].d.t) ∧ (∀ i x, Q i x → S x) ∧ ∀ i j x, i ≠ j → Q i x → ¬ Q j x
theorem EdsOwn.inn {w : World} {S : Nat → Prop} {A : Option Addr} {c : Nat} {es : List Le} (h : EdsOwn w S A c es) : edL.row w S A es := by
  obtain ⟨Q, h1, h2, _⟩ := h.kids
  refine ⟨h.row.row, fun d hd => ?_⟩
  obtain ⟨i, hi, rfl⟩ := List.mem_iff_getElem.1 hd
  exact ⟨(h1 i hi).1, (h1 i hi).2.1, ((h1 i hi).2.2.mono (fun x _ hx => h2 i x hx)).inn⟩
def EdKids (w : World) (H : Nat) (V : Option Addr) (es : List Le) : Prop :=
  ∃ Q : Nat → Nat → Prop, (∀ i (h : i < es.length), (0 ≤ es[i].kind ∧ es[i].kind ≤ 255) ∧ es[i].d.name.size ≤ 281474976710656 ∧ TreeOwn w (Q i) es[i].d.t) ∧ (∀ i x, Q i x → H ≤ x ∧ x < w.heap.size ∧ blkOf V ≠ some x) ∧ (∀ i j x, i ≠ j → Q i x → ¬ Q j x) ∧ ∀ j x, es.length ≤ j → ¬ Q j x
theorem EdKids.nil (w : World) (H : Nat) (V : Option Addr) : EdKids w H V [] := ⟨fun _ _ => False, fun i h => by simp at h, fun _ _ h => h.elim, fun _ _ _ _ h => h.elim, fun _ _ _ h => h⟩
theorem EdKids.add {w w2 w3 : World} {H : Nat} {V V' : Option Addr} {es : List Le} (h : EdKids w H V es) (hb : Below w.heap.size w w2) (hg : w2.grownBy w3 (blkOf V)) (hv : blkOf V' = blkOf V ∨ blkOf V' = some w2.heap.size) (hl : ∀ k, blkOf V = some k → k < w.heap.size) (hH : H ≤ w.heap.size)
    (e : Le) (hk : 0 ≤ e.kind ∧ e.kind ≤ 255) (hn : e.d.name.size ≤ 281474976710656) (ht : TreeOwn w2 (fun x => w.heap.size ≤ x ∧ x < w2.heap.size) e.d.t) : EdKids w3 H V' (es ++ [e]) := by
  obtain ⟨Q, hQ1, hQ2, hQ3, hQ4⟩ := h
  have hs2 := hb.size; have hs3 := hg.size
  have hV' : ∀ x, x < w2.heap.size → blkOf V ≠ some x → blkOf V' ≠ some x := fun x h1 h2 h3 => by
    rcases hv with hv | hv
    · exact h2 (hv ▸ h3)
    · rw [hv] at h3; cases h3; omega
  have hVn : ∀ x, w.heap.size ≤ x → blkOf V ≠ some x := fun x h1 h2 => by have := hl x h2; omega
  refine ⟨fun j x => if j = es.length then w.heap.size ≤ x ∧ x < w2.heap.size else Q j x, fun j hj => ?_, fun j x hx => ?_, fun i j x hij hi hj => ?_, fun j x hj hx => ?_⟩
  · rw [List.length_append, List.length_singleton] at hj
    by_cases e1 : j = es.length
    · subst e1
      rw [List.getElem_append_right (Nat.le_refl _)]
      simp only [Nat.sub_self, List.getElem_singleton, if_true]
      exact ⟨hk, hn, ht.agree (fun x hx hxl => hg.block x hxl (fun e => hVn x hx.1 e.symm))⟩
    · rw [List.getElem_append_left (by omega)]
      simp only [if_neg e1]
      have := hQ1 j (by omega)
      exact ⟨this.1, this.2.1, this.2.2.agree (fun x hx hxl => (hg.block x (by omega) (fun e => (hQ2 j x hx).2.2 e.symm)).trans (hb.block x hxl))⟩
  · by_cases e1 : j = es.length
    · simp only [if_pos e1] at hx
      exact ⟨by omega, by omega, hV' x hx.2 (hVn x hx.1)⟩
    · simp only [if_neg e1] at hx
      have := hQ2 j x hx
      exact ⟨this.1, by omega, hV' x (by omega) this.2.2⟩
  · by_cases e1 : i = es.length
    · have e2 : ¬ j = es.length := fun h => hij (e1.trans h.symm)
      simp only [if_pos e1] at hi
      simp only [if_neg e2] at hj
      have := hQ2 j x hj
      omega
    · simp only [if_neg e1] at hi
      by_cases e2 : j = es.length
      · simp only [if_pos e2] at hj
        have := hQ2 i x hi
        omega
      · simp only [if_neg e2] at hj
        exact hQ3 i j x hij hi hj
  · rw [List.length_append, List.length_singleton] at hj
    have e1 : ¬ j = es.length := by omega
    simp only [if_neg e1] at hx
    exact hQ4 j x (by omega) hx
theorem ed_one (k : Int) (n : ByteArray) (A : Option Addr) (m c : Nat) (r : Int) : ∀ u ∈ [Value.int .u8 k, .string n, .slice A m c, .int .i64 r], u.oneCell' = true := fun u hu => by
  simp only [List.mem_cons, List.not_mem_nil, or_false] at hu; rcases hu with rfl | rfl | rfl | rfl <;> rfl
theorem of_step {w1 wr w2 w4 : World} {o : Obj} {H : Nat} {a b : List Df} {p q p' q' n : Nat} {V V' : Option Addr} {vc vc' : Nat} {es : List Le} (hB : Below H w1 wr) (hn : es.length = n) (hof : es.map Le.ed ++ ofL (a.drop p) (b.drop q) = ofL a b) (hk : EdKids wr H V es) (hown : wr.ownsRow H 52 4 (.slice V n vc) n (edL.all es))
    (e : Le) (hstep : ofL (a.drop p) (b.drop q) = e.ed :: ofL (a.drop p') (b.drop q')) (hb : Below wr.heap.size wr w2) (hg : (w2.alloc o).grownBy w4 (blkOf V)) (hv : blkOf V' = blkOf V ∨ blkOf V' = some (w2.alloc o).heap.size) (hH : H ≤ wr.heap.size)
    (ho4 : w4.ownsRow H 52 4 (.slice V' (n + 1) vc') (n + 1) (edL.all es ++ edL.cells e)) (hkd : 0 ≤ e.kind ∧ e.kind ≤ 255) (hnm : e.d.name.size ≤ 281474976710656) (ht : TreeOwn w2 (fun x => wr.heap.size ≤ x ∧ x < w2.heap.size) e.d.t) :
    Hid (∃ es : List Le, es.length = n + 1 ∧ es.map Le.ed ++ ofL (a.drop p') (b.drop q') = ofL a b ∧ w4.ownsRow H 52 4 (.slice V' (n + 1) vc') (n + 1) (edL.all es) ∧ EdKids w4 H V' es) ∧ Hid (Below H w1 w4) := by
  have hs := hb.size
  refine ⟨Lib.hid ⟨es ++ [e], by simp [hn], ?_, ?_, ?_⟩, Lib.hid ?_⟩
  · rw [← hof, hstep]; simp
  · rw [edL.all_append, edL.all_one]; exact ho4
  · refine hk.add (hb.trans ((bx1 w2 o).mono hs)) hg hv (fun k hk => (own_blk hown k hk).2) hH e hkd hnm ?_
    exact (ht.below (bx1 w2 o)).mono (fun x _ h => ⟨h.1, by have := h.2; simp; omega⟩)
  · have h1 : Below H w1 (w2.alloc o) := (hB.trans (hb.mono hH)).trans ((bx1 w2 o).mono (by omega))
    exact h1.grown hg (by simp; omega) (fun k hk => (own_blk hown k hk).1)
def OfPost (l : List Ed) (w : World) (e : Ending) (w' : World) : Prop := ∃ (V : Option Addr) (vc : Nat) (es : List Le), e = .returned (.slice V es.length vc) ∧ es.map Le.ed = l ∧ EdsOwn w' (w.heap.size ≤ ·) V vc es ∧ Below w.heap.size w w'
def OfRel (w1 : World) (H : Nat) (a b : List Df) (i j l : Value) (wr : World) : Prop :=
  ∃ (p q n : Nat) (V : Option Addr) (vc : Nat), p ≤ a.length ∧ q ≤ b.length ∧ n ≤ p + q ∧ i = .int .i64 p ∧ j = .int .i64 q ∧ l = .slice V n vc ∧
    Hid (∃ es : List Le, es.length = n ∧ es.map Le.ed ++ ofL (a.drop p) (b.drop q) = ofL a b ∧ wr.ownsRow H 52 4 (.slice V n vc) n (edL.all es) ∧ EdKids wr H V es) ∧ Hid (Below H w1 wr)
set_option maxRecDepth 100000 in
set_option maxHeartbeats 25600000 in
theorem of_any (la lb : List Ld) (A B : Option Addr) (c d : Nat) (S T : Nat → Prop) (w : World) (hA : dfL.row w S A la) (hB : dfL.row w T B lb) (hl : la.length ≤ 100000) (hm : lb.length ≤ 100000)
    (hma : ∀ x ∈ la, x.t.ls.length ≤ 4294967296) (hmb : ∀ x ∈ lb, DMod x) (ht : CntTab w) :
    Calls Tryz.prog 24 #[.agg #[.slice A la.length c], .agg #[.slice B lb.length d]] w (OfPost (ofL (la.map Ld.df) (lb.map Ld.df)) w) := by
  obtain ⟨j0, hj, hy0, hy1, hy2⟩ := info_parts infoEdit
  have hzc : (Value.agg #[.int .u8 0, .string ByteArray.empty, .slice none 0 0, .int .i64 0]).cells.size = 4 := rfl
  have HTA := Lib.hid hA; have HTB := Lib.hid hB; have HMA := Lib.hid hma; have HMB := Lib.hid hmb; have HC := Lib.hid ht
  clear hA hB hma hmb ht
  unfold OfPost
  go_enter Tryz.func24, Tryz.ntmps24
  go_wp2_with fail
  go_quiet (fail)
  have hWB := drewN_below (bx2 w (.cells #[.slice A la.length c] 24) (.cells #[.slice B lb.length d] 24)) nq
  generalize ((w.alloc (.cells #[.slice A la.length c] 24)).alloc (.cells #[.slice B lb.length d] 24)).drewN nq = W at *
  have HWB := Lib.hid hWB; clear hWB
  go_wp2_with (go_at_call 76; go_loud (refine (needed_any la lb A B c d S T _ (HTA.out.below HWB.out) (HTB.out.below HWB.out) hl hm HMA.out (fun x hx => (HMB.out x hx).1) (HC.out.below HWB.out)).mono ?_; rintro e w1 ⟨g, N, Bc, Bw, rfl, hbc, hbw, hcs, hN, hN2, hb⟩; have HBC := Lib.hid hbc; have HBW := Lib.hid hbw; have HCS := Lib.hid hcs; have HNN := Lib.hid hN; have HB1 := Lib.hid hb; clear hbc hbw hcs hN hb))
  go_loopw [9, 10, 8] (fun i j l wr => OfRel w1 w1.heap.size (la.map Ld.df) (lb.map Ld.df) i j l wr) (fun i j _ _ => la.length + lb.length - (intOf i).toNat - (intOf j).toNat)
  case atStart => exact ⟨0, 0, 0, none, 0, Nat.zero_le _, Nat.zero_le _, Nat.zero_le _, rfl, rfl, rfl, Lib.hid ⟨[], rfl, by simp, World.ownsRow_nil _ _ _ _, EdKids.nil _ _ _⟩, Lib.hid (Below.refl _ _)⟩
  case round =>
    obtain ⟨p, q, n, V, vc, hp, hq, hn, rfl, rfl, rfl, HES, HB⟩ := hrel
    simp only [List.length_map] at hp hq
    obtain ⟨es, rfl, hof, hown, hkids⟩ := HES.out
    have HOF := Lib.hid hof; have HOW := Lib.hid hown; have HKD := Lib.hid hkids
    clear hof hown hkids HES
    have F := Lib.hid (show es.length + 1 ≤ maxLen ∧ (es.length + 1) * 56 ≤ 140737488355328 ∧ w1.heap.size ≤ wr.heap.size from ⟨by unfold maxLen; omega, by omega, HB.out.size⟩)
    have HASK := Lib.hid (show ∀ (i j : Nat) w', Below w1.heap.size w1 w' → i ≤ la.length → j ≤ lb.length → Calls Tryz.prog 117 #[.int .i64 (i : Int), .int .i64 (j : Int), .pointer (some ⟨Bc, 0, none⟩), .pointer (some ⟨Bw, 0, none⟩)] w' fun e w2 => e = .returned (.int .i64 (needL ((la.map Ld.df).drop i) ((lb.map Ld.df).drop j) : Nat)) ∧ w' = w2 from fun i j w' hb hi hj2 => by
      have hlt : i * (lb.length + 1) + j < N := by
        have h1 : i * (lb.length + 1) ≤ la.length * (lb.length + 1) := Nat.mul_le_mul_right _ hi
        have h2 := HNN.out
        simp only [List.length_map] at h2
        rw [Nat.add_mul] at h2; omega
      have hcell := HCS.out i j (by simpa using hi) (by simpa using hj2)
      have hw := bx_kept hb HBW.out
      simp only [List.length_map] at hcell hw
      exact ask_any i j (lb.length + 1) N g Bc Bw _ w' (bx_kept hb HBC.out) hw ((hb.cell (cellLt hcell)).trans hcell) hlt hN2)
    have HB0 := Lib.hid (show Below w.heap.size w wr from (HWB.out.trans (HB1.out.mono HWB.out.size)).trans (HB.out.mono (by have := HWB.out.size; have := HB1.out.size; omega)))
    have HBZ := Lib.hid (show w.heap.size ≤ wr.heap.size from HB0.out.size)
    have HB0 := Lib.hid (show Below w.heap.size w wr from (HWB.out.trans (HB1.out.mono HWB.out.size)).trans (HB.out.mono (by have := HWB.out.size; have := HB1.out.size; omega)))
    have HBZ := Lib.hid (show w.heap.size ≤ wr.heap.size from HB0.out.size)
    have HB0 := Lib.hid (show Below w.heap.size w wr from (HWB.out.trans (HB1.out.mono HWB.out.size)).trans (HB.out.mono (by have := HWB.out.size; have := HB1.out.size; omega)))
    have HBZ := Lib.hid (show w.heap.size ≤ wr.heap.size from HB0.out.size)
    have HB0 := Lib.hid (show Below w.heap.size w wr from (HWB.out.trans (HB1.out.mono HWB.out.size)).trans (HB.out.mono (by have := HWB.out.size; have := HB1.out.size; omega)))
    have HBZ := Lib.hid (show w.heap.size ≤ wr.heap.size from HB0.out.size)
    have HB0 := Lib.hid (show Below w.heap.size w wr from (HWB.out.trans (HB1.out.mono HWB.out.size)).trans (HB.out.mono (by have := HWB.out.size; have := HB1.out.size; omega)))
    have HBZ := Lib.hid (show w.heap.size ≤ wr.heap.size from HB0.out.size)
    by_cases hp1 : p < la.length
    · have i1 : (p : Int) < (la.length : Int) := by omega
      have i0 : (0 : Int) ≤ (p : Int) := by omega
      by_cases hq1 : q < lb.length
      · have i2 : (q : Int) < (lb.length : Int) := by omega
        have i3 : (0 : Int) ≤ (q : Int) := by omega
        as_aux_lemma =>
          obtain ⟨ab, ao, rfl, _, _, x0, x1, x2⟩ := dfRow (HTA.out.agree (below_all HB0.out)) p hp1
          obtain ⟨bb, bo, rfl, _, _, y0, y1, y2⟩ := dfRow (HTB.out.agree (below_all HB0.out)) q hq1
          have HIA := Lib.hid ((HTA.out.agree (below_all HB0.out)).sub p hp1)
          have HIB := Lib.hid ((HTB.out.agree (below_all HB0.out)).sub q hq1)
          have HCW := Lib.hid (HC.out.below HB0.out)
          have HM1 := Lib.hid (HMA.out la[p] (List.getElem_mem hp1)); have HM2 := Lib.hid (show lb[q].t.ls.length ≤ 4294967296 from (HMB.out lb[q] (List.getElem_mem hq1)).1)
          have HSB := Lib.hid (show ∀ w', Below wr.heap.size wr w' → (w'.cell? ⟨ab, ao + p * 3, none⟩ = some (.string la[p].name) ∧ w'.cell? ⟨ab, ao + p * 3 + 1, none⟩ = some (.slice la[p].t.A la[p].t.ls.length la[p].t.c) ∧ w'.cell? ⟨ab, ao + p * 3 + 2, none⟩ = some (.int .i64 la[p].t.root)) ∧ w'.cell? ⟨bb, bo + q * 3, none⟩ = some (.string lb[q].name) ∧ w'.cell? ⟨bb, bo + q * 3 + 1, none⟩ = some (.slice lb[q].t.A lb[q].t.ls.length lb[q].t.c) ∧ w'.cell? ⟨bb, bo + q * 3 + 2, none⟩ = some (.int .i64 lb[q].t.root) from fun w' hb =>
            ⟨⟨(hb.cell (cellLt x0)).trans x0, (hb.cell (cellLt x1)).trans x1, (hb.cell (cellLt x2)).trans x2⟩, (hb.cell (cellLt y0)).trans y0, (hb.cell (cellLt y1)).trans y1, (hb.cell (cellLt y2)).trans y2⟩)
          clear x0 x1 x2 y0 y1 y2
          go_wp2_with fail
          go_region_held3 (fun w' => (w'.cell? ⟨ab, ao + p * 3, none⟩ = some (.string la[p].name) ∧ w'.cell? ⟨ab, ao + p * 3 + 1, none⟩ = some (.slice la[p].t.A la[p].t.ls.length la[p].t.c) ∧ w'.cell? ⟨ab, ao + p * 3 + 2, none⟩ = some (.int .i64 la[p].t.root)) ∧ w'.cell? ⟨bb, bo + q * 3, none⟩ = some (.string lb[q].name) ∧ w'.cell? ⟨bb, bo + q * 3 + 1, none⟩ = some (.slice lb[q].t.A lb[q].t.ls.length lb[q].t.c) ∧ w'.cell? ⟨bb, bo + q * 3 + 2, none⟩ = some (.int .i64 lb[q].t.root))
            (first | exact HSB.out _ (Below.refl _ _).drew | exact HSB.out _ HW2.out)
            (((go_at_call 77; (with_reducible refine (dsame_any la[p] lb[q] S T _ (dfL.agree HIA.out (drew_agree _ _)) (dfL.agree HIB.out (drew_agree _ _)) HM1.out HM2.out (HCW.out.below (Below.refl _ _).drew)).mono ?_)); rintro e w2 ⟨rfl, hb3⟩; have HW2 := Lib.hid (show Below wr.heap.size wr w2 from (Below.refl _ wr).drew.trans hb3); clear hb3))
          have HO2 := Lib.hid (own_belowA HOW.out HW2.out)
          have HS2 := Lib.hid (show w1.heap.size ≤ w2.heap.size from by have := HW2.out.size; have := F.out.2.2; omega)
          clear HIB HM2
          cases hsd : sameD la[p].df lb[q].df
          · have HA1 := Lib.hid (HASK.out (p + 1) q w2 (HB.out.trans (HW2.out.mono F.out.2.2)) (by omega) (by omega))
            have HA2 := Lib.hid (HASK.out p (q + 1) w2 (HB.out.trans (HW2.out.mono F.out.2.2)) (by omega) (by omega))
            have HDL := Lib.hid (fun hn => of_del (a := la.map Ld.df) (b := lb.map Ld.df) (p := p) (q := q) (by simpa using hp1) (by simpa using hq1) (by simpa using hsd) hn)
            have HIN := Lib.hid (fun hn => of_ins (a := la.map Ld.df) (b := lb.map Ld.df) (p := p) (q := q) (by simpa using hp1) (by simpa using hq1) (by simpa using hsd) hn)
            generalize hz1 : needL ((la.map Ld.df).drop (p + 1)) ((lb.map Ld.df).drop q) = z1 at *
            generalize hz2 : needL ((la.map Ld.df).drop p) ((lb.map Ld.df).drop (q + 1)) = z2 at *
            clear hz1 hz2 hsd HASK
            simp only [Int.natCast_add, Int.natCast_one] at HA1 HA2
            have e2 : ((q : Int) == (lb.length : Int)) = false := by rw [beq_eq_false_iff_ne]; omega
            by_cases hzz : z1 ≤ z2
            · have HST := Lib.hid (HDL.out hzz)
              have i5 : (z1 : Int) ≤ (z2 : Int) := by omega
              as_aux_lemma =>
                go_wp2_with (first | (go_at_call 117; (first | (with_reducible refine (HA1.out).mono ?_) | (with_reducible refine (HA2.out).mono ?_)); rintro e w' ⟨rfl, rfl⟩) | (at_builtin; refine wpList_append_at _ rfl (.tmp 93) (.tmp 95) 38 rfl w1.heap.size 52 j0 (.agg #[.int .u8 0, .string ByteArray.empty, .slice none 0 0, .int .i64 0]) 4 56 Tryz.underlying38 hj hy0 hy1 hy2 hzc (by decide) V vc es.length (edL.all es) rfl (World.ownsRow.alloc HO2.out _) (some ⟨w2.heap.size, 0, none⟩) 1 1 [.int .u8 1, .string ByteArray.empty, .slice none 0 0, .int .i64 0] rfl rfl (row_blk (bx_new _ _)) (ed_one _ _ _ _ _ _) F.out.1 F.out.2.1 (by have := HS2.out; simp; omega) ?_; intro V4 vc4 w4 HO4 HG4 HA4))
                have h4 := of_step HB.out rfl HOF.out HKD.out HOW.out ⟨1, ⟨ByteArray.empty, ⟨none, 0, [], 0⟩⟩⟩ HST.out HW2.out HG4.out HA4.out F.out.2.2 HO4.out (by simp) (by simp) (tree_none _ _ _)
                exact ⟨⟨p + 1, q, es.length + 1, V4, vc4, by simp; omega, by simp; try omega, by omega, by go_num, by first | rfl | go_num, rfl, h4.1, h4.2⟩, by simp only [intOf]; omega⟩
            · have HST := Lib.hid (HIN.out hzz)
              have i5 : ¬ (z1 : Int) ≤ (z2 : Int) := by omega
              as_aux_lemma =>
                obtain ⟨bb, bo, hbb, _, _, y0, y1, y2⟩ := dfRow (HTB.out.agree (below_all (HB0.out.trans (HW2.out.mono HBZ.out)))) q hq1
                cases hbb
                have HIB := Lib.hid ((HTB.out.agree (below_all (HB0.out.trans (HW2.out.mono HBZ.out)))).sub q hq1)
                have HMQ := Lib.hid (HMB.out lb[q] (List.getElem_mem hq1))
                go_wp2_with (first | (go_at_call 117; (first | (with_reducible refine (HA1.out).mono ?_) | (with_reducible refine (HA2.out).mono ?_)); rintro e w' ⟨rfl, rfl⟩) | (go_at_call 78; refine (down_any lb[q] T _ HIB.out HMQ.out).mono ?_; rintro e w3 ⟨n', A', c', ls', r', rfl, hdf, hto, hb3⟩; have HDF := Lib.hid hdf; have HTO := Lib.hid hto; have HB3 := Lib.hid hb3; have HO3 := Lib.hid (own_belowA HO2.out hb3); have HW3 := Lib.hid (Below.step HW2.out hb3); have HS3 := HS2; clear HS2; have HS2 := Lib.hid (show w1.heap.size ≤ w3.heap.size from Nat.le_trans HS3.out hb3.size); clear hdf hto hb3) | (at_builtin; refine wpList_append_at _ rfl (.tmp 28) (.tmp 35) 38 rfl w1.heap.size 52 j0 (.agg #[.int .u8 0, .string ByteArray.empty, .slice none 0 0, .int .i64 0]) 4 56 Tryz.underlying38 hj hy0 hy1 hy2 hzc (by decide) V vc es.length (edL.all es) rfl (World.ownsRow.alloc HO3.out _) (some ⟨w3.heap.size, 0, none⟩) 1 1 [.int .u8 2, .string n', .slice A' ls'.length c', .int .i64 r'] rfl rfl (row_blk (bx_new _ _)) (ed_one _ _ _ _ _ _) F.out.1 F.out.2.1 (by have := HS2.out; simp; omega) ?_; intro V4 vc4 w4 HO4 HG4 HA4))
                have h4 := of_step HB.out rfl HOF.out HKD.out HOW.out ⟨2, ⟨n', ⟨A', c', ls', r'⟩⟩⟩ (HST.out.trans (by rw [List.getElem_map]; show _ = Ed.mk 2 (Ld.df _) :: _; rw [HDF.out])) HW3.out HG4.out HA4.out F.out.2.2 HO4.out (by simp) (by have h1 := congrArg Df.name HDF.out; have h2 := HIB.out.1; have h1 : n' = lb[q].name := h1; show n'.size ≤ _; rw [h1]; exact h2) ((HTO.out.mono (T := fun x => wr.heap.size ≤ x ∧ x < w3.heap.size) (fun x h1 h2 => ⟨Nat.le_trans HW2.out.size h2, h1⟩)))
                exact ⟨⟨p, q + 1, es.length + 1, V4, vc4, by simp; try omega, by simp; omega, by omega, by first | rfl | go_num, by go_num, rfl, h4.1, h4.2⟩, by simp only [intOf]; omega⟩
          · have HST := Lib.hid (of_keep (a := la.map Ld.df) (b := lb.map Ld.df) (p := p) (q := q) (by simpa using hp1) (by simpa using hq1) (by simpa using hsd))
            clear hsd
            as_aux_lemma =>
              go_wp2_with (at_builtin; refine wpList_append_at _ rfl (.tmp 61) (.tmp 63) 38 rfl w1.heap.size 52 j0 (.agg #[.int .u8 0, .string ByteArray.empty, .slice none 0 0, .int .i64 0]) 4 56 Tryz.underlying38 hj hy0 hy1 hy2 hzc (by decide) V vc es.length (edL.all es) rfl (World.ownsRow.alloc HO2.out _) (some ⟨w2.heap.size, 0, none⟩) 1 1 [.int .u8 0, .string ByteArray.empty, .slice none 0 0, .int .i64 0] rfl rfl (row_blk (bx_new _ _)) (ed_one _ _ _ _ _ _) F.out.1 F.out.2.1 (by have := HS2.out; simp; omega) ?_; intro V4 vc4 w4 HO4 HG4 HA4)
              have h4 := of_step HB.out rfl HOF.out HKD.out HOW.out ⟨0, ⟨ByteArray.empty, ⟨none, 0, [], 0⟩⟩⟩ HST.out HW2.out HG4.out HA4.out F.out.2.2 HO4.out (by simp) (by simp) (tree_none _ _ _)
              exact ⟨⟨p + 1, q + 1, es.length + 1, V4, vc4, by simp; omega, by simp; try omega, by omega, by go_num, by first | rfl | go_num, rfl, h4.1, h4.2⟩, by simp only [intOf]; omega⟩
      · obtain rfl : q = lb.length := by omega
        as_aux_lemma =>
          have HST := Lib.hid (of_del0 (a := la.map Ld.df) (b := lb.map Ld.df) (p := p) (q := lb.length) (by simpa using hp1) (by simp))
          go_wp2_with fail
          go_quiet (fail)
          have hWR := drewN_below (Below.refl wr.heap.size wr) nq
          generalize hwd : wr.drewN nq = w2 at *
          clear hwd
          have HW2 := Lib.hid hWR; clear hWR
          have HO2 := Lib.hid (own_belowA HOW.out HW2.out)
          have HS2 := Lib.hid (show w1.heap.size ≤ w2.heap.size from by have := HW2.out.size; have := F.out.2.2; omega)
          go_wp2_with (at_builtin; refine wpList_append_at _ rfl (.tmp 93) (.tmp 95) 38 rfl w1.heap.size 52 j0 (.agg #[.int .u8 0, .string ByteArray.empty, .slice none 0 0, .int .i64 0]) 4 56 Tryz.underlying38 hj hy0 hy1 hy2 hzc (by decide) V vc es.length (edL.all es) rfl (World.ownsRow.alloc HO2.out _) (some ⟨w2.heap.size, 0, none⟩) 1 1 [.int .u8 1, .string ByteArray.empty, .slice none 0 0, .int .i64 0] rfl rfl (row_blk (bx_new _ _)) (ed_one _ _ _ _ _ _) F.out.1 F.out.2.1 (by have := HS2.out; simp; omega) ?_; intro V4 vc4 w4 HO4 HG4 HA4)
          have h4 := of_step HB.out rfl HOF.out HKD.out HOW.out ⟨1, ⟨ByteArray.empty, ⟨none, 0, [], 0⟩⟩⟩ HST.out HW2.out HG4.out HA4.out F.out.2.2 HO4.out (by simp) (by simp) (tree_none _ _ _)
          exact ⟨⟨p + 1, lb.length, es.length + 1, V4, vc4, by simp; omega, by simp; try omega, by omega, by go_num, by first | rfl | go_num, rfl, h4.1, h4.2⟩, by simp only [intOf]; omega⟩
    · obtain rfl : p = la.length := by omega
      have i0 : (0 : Int) ≤ (la.length : Int) := by omega
      by_cases hq1 : q < lb.length
      · have i2 : (q : Int) < (lb.length : Int) := by omega
        have i3 : (0 : Int) ≤ (q : Int) := by omega
        have e2 : ((q : Int) == (lb.length : Int)) = false := by rw [beq_eq_false_iff_ne]; omega
        as_aux_lemma =>
          have HST := Lib.hid (of_ins0 (a := la.map Ld.df) (b := lb.map Ld.df) (p := la.length) (q := q) (by simp) (by simpa using hq1))
          go_wp2_with fail
          go_quiet (fail)
          have hWR := drewN_below (Below.refl wr.heap.size wr) nq
          generalize hwd : wr.drewN nq = w2 at *
          clear hwd
          have HW2 := Lib.hid hWR; clear hWR
          have HO2 := Lib.hid (own_belowA HOW.out HW2.out)
          have HS2 := Lib.hid (show w1.heap.size ≤ w2.heap.size from by have := HW2.out.size; have := F.out.2.2; omega)
          obtain ⟨bb, bo, hbb, _, _, y0, y1, y2⟩ := dfRow (HTB.out.agree (below_all (HB0.out.trans (HW2.out.mono HBZ.out)))) q hq1
          cases hbb
          have HIB := Lib.hid ((HTB.out.agree (below_all (HB0.out.trans (HW2.out.mono HBZ.out)))).sub q hq1)
          have HMQ := Lib.hid (HMB.out lb[q] (List.getElem_mem hq1))
          go_wp2_with (first | (go_at_call 78; refine (down_any lb[q] T _ HIB.out HMQ.out).mono ?_; rintro e w3 ⟨n', A', c', ls', r', rfl, hdf, hto, hb3⟩; have HDF := Lib.hid hdf; have HTO := Lib.hid hto; have HB3 := Lib.hid hb3; have HO3 := Lib.hid (own_belowA HO2.out hb3); have HW3 := Lib.hid (Below.step HW2.out hb3); have HS3 := HS2; clear HS2; have HS2 := Lib.hid (show w1.heap.size ≤ w3.heap.size from Nat.le_trans HS3.out hb3.size); clear hdf hto hb3) | (at_builtin; refine wpList_append_at _ rfl (.tmp 28) (.tmp 35) 38 rfl w1.heap.size 52 j0 (.agg #[.int .u8 0, .string ByteArray.empty, .slice none 0 0, .int .i64 0]) 4 56 Tryz.underlying38 hj hy0 hy1 hy2 hzc (by decide) V vc es.length (edL.all es) rfl (World.ownsRow.alloc HO3.out _) (some ⟨w3.heap.size, 0, none⟩) 1 1 [.int .u8 2, .string n', .slice A' ls'.length c', .int .i64 r'] rfl rfl (row_blk (bx_new _ _)) (ed_one _ _ _ _ _ _) F.out.1 F.out.2.1 (by have := HS2.out; simp; omega) ?_; intro V4 vc4 w4 HO4 HG4 HA4))
          have h4 := of_step HB.out rfl HOF.out HKD.out HOW.out ⟨2, ⟨n', ⟨A', c', ls', r'⟩⟩⟩ (HST.out.trans (by rw [List.getElem_map]; show _ = Ed.mk 2 (Ld.df _) :: _; rw [HDF.out])) HW3.out HG4.out HA4.out F.out.2.2 HO4.out (by simp) (by have h1 := congrArg Df.name HDF.out; have h2 := HIB.out.1; have h1 : n' = lb[q].name := h1; show n'.size ≤ _; rw [h1]; exact h2) ((HTO.out.mono (T := fun x => wr.heap.size ≤ x ∧ x < w3.heap.size) (fun x h1 h2 => ⟨Nat.le_trans HW2.out.size h2, h1⟩)))
          exact ⟨⟨la.length, q + 1, es.length + 1, V4, vc4, by simp; try omega, by simp; omega, by omega, by first | rfl | go_num, by go_num, rfl, h4.1, h4.2⟩, by simp only [intOf]; omega⟩
      · obtain rfl : q = lb.length := by omega
        as_aux_lemma =>
          have HE := Lib.hid (show es.map Le.ed = ofL (la.map Ld.df) (lb.map Ld.df) by
            have h := HOF.out
            rw [of_end (by simp) (by simp)] at h
            simpa using h)
          go_wp2_with fail
          go_ret
          refine ⟨V, vc, es, rfl, HE.out, ⟨by omega, (own_ownS HOW.out).mono (fun x _ h => by have h : w1.heap.size ≤ x := h; have := HWB.out.size; have := HB1.out.size; show w.heap.size ≤ x; omega), ?_⟩, (HWB.out.trans (HB1.out.mono HWB.out.size)).trans (HB.out.mono (by have := HWB.out.size; have := HB1.out.size; omega))⟩
          obtain ⟨Q, h1, h2, h3, _⟩ := HKD.out
          exact ⟨Q, h1, fun i x hx => by have := (h2 i x hx).1; have := HWB.out.size; have := HB1.out.size; show w.heap.size ≤ x; omega, h3⟩
end Go.Proofs.YtmjkgnknfgoadaaGreatDoor
