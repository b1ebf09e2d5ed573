/- The spoiling of a result: what hangs on a rule is its own; its name is written over. The contracts of bonsairef30.Count and Same (the last one where both read alike), and of the law's told. A region that draws its order, by an invariant over what has come up: each operation is walked once. Facts for invariants of drawn regions: flags, slots, steps. -/
import Derived.Test.YtmjkgnknfgoadaaGreatDoorEl
import Derived.Test.YtmjkgnknfgoadaaGreatDoorEm
import Derived.Test.YtmjkgnknfgoadaaGreatDoorEh
import Derived.Test.YtmjkgnknfgoadaaGreatDoorDv
import Derived.Test.YtmjkgnknfgoadaaGreatDoorDx
import Derived.Deep.RegionHeld3
import Derived.Deep.Cut
import Derived.Test.YtmjkgnknfgoadaaGreatDoorPn
namespace Go.Proofs.YtmjkgnknfgoadaaGreatDoor
open Go.RowKit
set_option linter.unusedSimpArgs false
set_option linter.unusedVariables false
theorem own_cells {w : World} {base : Nat} {e : TypeId} {size n c : Nat} {V : Option Addr} {xs : List Value} (h : w.ownsRow base e size (.slice V n c) n xs) {k : Nat} (hk : blkOf V = some k) : ∃ cur, w.heap[k]? = some (.cells cur e (0, 0)) := by
  rcases h.2 with ⟨hv, _⟩ | ⟨g, cap, cur, hv, hb, hh, _⟩
  · cases hv; cases hk
  · cases hv; cases hk; exact ⟨cur, hh⟩
def Hangs (t : Lt) (x : Nat) : Prop := blkOf t.A = some x ∨ ∃ l ∈ t.ls, blkOf l.A = some x
theorem TreeOwn.tight {w : World} {S : Nat → Prop} {t : Lt} (h : TreeOwn w S t) : TreeOwn w (fun x => S x ∧ Hangs t x) t :=
  ⟨h.len, ⟨h.row.1, fun k hk => ⟨h.row.2 k hk, .inl hk⟩⟩, fun l hl => ⟨(h.kids l hl).1, (h.kids l hl).2.1, fun k hk => ⟨(h.kids l hl).2.2 k hk, .inr ⟨l, hl, hk⟩⟩⟩⟩
theorem TreeOwn.hangs {w : World} {S : Nat → Prop} {t : Lt} (h : TreeOwn w S t) {x : Nat} (hx : Hangs t x) : x < w.heap.size ∧ ∀ cur, w.heap[x]? ≠ some (.cells cur 50 (0, 0)) := by
  rcases hx with hx | ⟨l, hl, hx⟩
  · obtain ⟨cur, hc⟩ := own_cells h.row.1 hx
    exact ⟨(own_blk h.row.1 x hx).2, fun cur' h' => by rw [hc] at h'; cases h'⟩
  · obtain ⟨cur, hc⟩ := own_cells (h.kids l hl).2.1 hx
    exact ⟨(own_blk (h.kids l hl).2.1 x hx).2, fun cur' h' => by rw [hc] at h'; cases h'⟩
theorem GramOwn.tight {w : World} {B : Nat} {V : Option Addr} {c : Nat} {ds : List Ld} (h : GramOwn w (B ≤ ·) V c ds) :
    ∃ Q : Nat → Nat → Prop, (∀ i (h : i < ds.length), TreeOwn w (Q i) ds[i].t) ∧ (∀ i x, Q i x → B ≤ x ∧ x < w.heap.size ∧ blkOf V ≠ some x) ∧ ∀ i j x, i ≠ j → Q i x → ¬ Q j x := by
  obtain ⟨Q, h1, h2, h3⟩ := h.kids
  refine ⟨fun i x => Q i x ∧ ∃ h : i < ds.length, Hangs ds[i].t x, fun i hi => (h1 i hi).2.tight.mono (fun x _ hx => ⟨hx.1, hi, hx.2⟩), fun i x hx => ?_, fun i j x hij hi hj => h3 i j x hij hi.1 hj.1⟩
  obtain ⟨hq, hi, hh⟩ := hx
  have h4 := (h1 i hi).2.hangs hh
  refine ⟨h2 i x hq, h4.1, fun e => ?_⟩
  obtain ⟨cur, hc⟩ := own_cells h.row.1 e
  exact h4.2 cur hc
theorem all_set0 (l : List Ld) (k : Nat) (hk : k < l.length) (nm : ByteArray) : (dfL.all l).set (k * 3) (.string nm) = dfL.all (l.set k ⟨nm, l[k].t⟩) := by
  have hlen : ∀ m : List Ld, (dfL.all m).length = m.length * 3 := fun m => dfL.all_length m
  apply List.ext_getElem?
  intro i
  by_cases hi : i < l.length * 3
  · have hq : i / 3 < l.length := by omega
    have h1 := dfL.all_at (l.set k ⟨nm, l[k].t⟩) (i / 3) (i % 3) (by simpa using hq) (show i % 3 < 3 by omega)
    have h2 := dfL.all_at l (i / 3) (i % 3) hq (show i % 3 < 3 by omega)
    rw [show i / 3 * dfL.size + i % 3 = i by show i / 3 * 3 + i % 3 = i; omega] at h1 h2
    rw [h1, List.getElem?_set]
    by_cases e3 : k * 3 = i
    · have e1 : i / 3 = k := by omega
      have e2 : i % 3 = 0 := by omega
      rw [if_pos e3, if_pos (by rw [hlen]; omega)]
      simp only [e1, e2, List.getElem_set_self]
      rfl
    · rw [if_neg e3, h2]
      by_cases e1 : i / 3 = k
      · simp only [e1, List.getElem_set_self]
        have : i % 3 = 1 ∨ i % 3 = 2 := by omega
        rcases this with this | this <;> rw [this] <;> rfl
      · rw [List.getElem_set_ne (fun h => e1 h.symm)]
  · rw [List.getElem?_eq_none (by rw [List.length_set, hlen]; omega), List.getElem?_eq_none (by rw [hlen, List.length_set]; omega)]
def SpRel (wb : World) (Q : Nat → Nat → Prop) (H : Nat) (V : Option Addr) (vc : Nat) (ds : List Ld) (i : Value) (wr : World) : Prop :=
  ∃ (k : Nat) (ds' : List Ld), k ≤ ds.length ∧ i = .int .i64 k ∧ Hid (ds'.length = ds.length) ∧ Hid (∀ j (h : j < ds'.length) (h2 : j < ds.length), ds'[j].t = ds[j].t) ∧ Hid (wr.ownsRow wb.heap.size 50 3 (.slice V ds.length vc) ds.length (dfL.all ds')) ∧
    Hid (∀ j (h : j < ds.length), k ≤ j → TreeOwn wr (Q j) ds[j].t) ∧ Hid (wr.heap[H]? = some (.cells #[.slice V ds.length vc] 24 (0, 0))) ∧ Hid (Below wb.heap.size wb wr)
theorem SpRel.start {wb wa : World} {Q : Nat → Nat → Prop} {H : Nat} {V : Option Addr} {vc : Nat} {ds : List Ld} (hg : GramOwn wa (wb.heap.size ≤ ·) V vc ds) (hQ : ∀ i (h : i < ds.length), TreeOwn wa (Q i) ds[i].t) (hb : Below wb.heap.size wb wa) {w2 : World} (h2 : Below wa.heap.size wa w2) (hH : w2.heap[H]? = some (.cells #[.slice V ds.length vc] 24 (0, 0))) : SpRel wb Q H V vc ds (.int .i64 0) w2 :=
  ⟨0, ds, Nat.zero_le _, rfl, Lib.hid rfl, Lib.hid (fun _ _ _ => rfl), Lib.hid (own_belowA2 hg.row.own h2), Lib.hid (fun j h _ => (hQ j h).below h2), Lib.hid hH, Lib.hid (Below.step hb h2)⟩
theorem SpRel.step {wb wr w5 : World} {Q : Nat → Nat → Prop} {H : Nat} {g : Nat} {vc : Nat} {ds ds' : List Ld} {k : Nat} (hk : k < ds.length) (hln : ds'.length = ds.length) (hts : ∀ j (h : j < ds'.length) (h2 : j < ds.length), ds'[j].t = ds[j].t) (hown : wr.ownsRow wb.heap.size 50 3 (.slice (some ⟨g, 0, none⟩) ds.length vc) ds.length (dfL.all ds'))
    (hT : ∀ j (h : j < ds.length), k ≤ j → TreeOwn wr (Q j) ds[j].t) (hH : wr.heap[H]? = some (.cells #[.slice (some ⟨g, 0, none⟩) ds.length vc] 24 (0, 0))) (hB : Below wb.heap.size wb wr) (hs : Spoilt (Q k) wr w5)
    (hQ2 : ∀ i x, Q i x → wb.heap.size ≤ x ∧ x ≠ H ∧ g ≠ x) (hQ3 : ∀ i j x, i ≠ j → Q i x → ¬ Q j x) (hgH : g ≠ H) (nm : ByteArray) :
    SpRel wb Q H (some ⟨g, 0, none⟩) vc ds (.int .i64 ((k : Int) + 1)) (w5.setCell ⟨g, k * 3, none⟩ (.string nm)) := by
  have hgl := (own_blk hown g rfl)
  have hown5 : w5.ownsRow wb.heap.size 50 3 (.slice (some ⟨g, 0, none⟩) ds.length vc) ds.length (dfL.all ds') := own_agree hown (fun x hx => by cases hx; exact hs.block g hgl.2 (fun hq => (hQ2 k g hq).2.2 rfl))
  have hk' : k < ds'.length := by omega
  refine ⟨k + 1, ds'.set k ⟨nm, ds'[k].t⟩, by omega, by go_num, Lib.hid (by rw [List.length_set]; exact hln), Lib.hid ?_, Lib.hid ?_, Lib.hid ?_, Lib.hid ?_, Lib.hid ?_⟩
  · intro j h h2
    by_cases e : k = j
    · subst e; rw [List.getElem_set_self]; exact hts k hk' hk
    · rw [List.getElem_set_ne e]; exact hts j (by simpa using h) h2
  · have h1 := (World.ownsRow.stored hown5 (k * 3) (.string nm)).1
    rw [all_set0 ds' k hk' nm] at h1
    exact h1
  · intro j hj hjk
    refine (hT j hj (by omega)).agree (fun x hx hxl => ?_)
    exact (Below.heap_setCell _ _ _ _ (fun e => (hQ2 j x hx).2.2 (by have e : x = g := e; exact e.symm))).trans (hs.block x hxl (hQ3 j k x (by omega) hx))
  · exact (Below.heap_setCell _ _ _ _ (fun e => hgH (by have e : H = g := e; exact e.symm))).trans ((hs.block H (heap_lt' hH) (fun hq => (hQ2 k H hq).2.1 rfl)).trans hH)
  · refine Below.setCell (p := ⟨g, k * 3, none⟩) ⟨hs.os.trans hB.os, hs.tape.trans hB.tape, hs.output.trans hB.output, Nat.le_trans hB.size hs.size, fun x hx => ?_⟩ hgl.1 _
    exact (hs.block x (by have := hB.size; omega) (fun hq => by have := (hQ2 k x hq).1; omega)).trans (hB.block x hx)
end Go.Proofs.YtmjkgnknfgoadaaGreatDoor
namespace Go.Proofs.YtmjkgnknfgoadaaGreatDoor
open Go.RowKit
set_option linter.unusedSimpArgs false
set_option linter.unusedVariables false
set_option maxRecDepth 100000 in
set_option maxHeartbeats 1600000 in
theorem redcount_any (es : List Le) (A : Option Addr) (c : Nat) (kd : Int) (S : Nat → Prop) (w : World) (hA : edL.row w S A es) (hl : es.length ≤ 4294967296) :
    Calls Tryz.prog 28 #[.slice A es.length c, .int .u8 kd] w fun e w' => e = .returned (.int .i64 (countK kd (es.map Le.ed) : Nat)) ∧ w = w' := by
  have HA := Lib.hid hA; clear hA
  have HCB := Lib.hid (show ∀ l : List Ed, countK kd l ≤ l.length from fun l => List.countP_le_length)
  have HCS := Lib.hid (show ∀ (i : Nat) (hi : i < es.length), countK kd ((es.map Le.ed).take (i + 1)) = countK kd ((es.map Le.ed).take i) + if es[i].kind = kd then 1 else 0 from fun i hi => by
    rw [List.take_succ_eq_append_getElem (by simpa using hi)]
    simp [countK, List.countP_append, List.countP_cons, Le.ed])
  go_enter Tryz.func28, Tryz.ntmps28
  go_wp2_with fail
  go_loopw [6, 5] (fun i x wr => ∃ k : Nat, k ≤ es.length ∧ i = .int .i64 k ∧ x = .int .i64 (countK kd ((es.map Le.ed).take k) : Nat) ∧ wr = w) (fun i _ _ => es.length - (intOf i).toNat)
  case atStart => exact ⟨0, by omega, rfl, rfl, rfl⟩
  case round =>
    obtain ⟨k, hk, rfl, rfl, rfl⟩ := hrel
    have b0 := HCB.out ((es.map Le.ed).take k)
    simp only [List.length_take, List.length_map] at b0
    by_cases hlt : k < es.length
    · obtain ⟨b, o, rfl, _, _, x0, x1, x2, x3⟩ := edRow HA.out k hlt
      have i1 : (k : Int) < (es.length : Int) := by omega
      have i2 : (0 : Int) ≤ (k : Int) := by omega
      have HN := Lib.hid (HCS.out k hlt)
      generalize countK kd ((es.map Le.ed).take k) = n0 at *
      have hn : n0 ≤ 4294967296 := by omega
      generalize es[k].kind = kk at *
      by_cases h0 : kk = kd
      · subst h0
        go_wp2_with fail
        exact ⟨⟨k + 1, by omega, by go_num, by rw [HN.out, if_pos rfl]; go_num, by trivial⟩, by simp only [intOf]; omega⟩
      · have e0 : (kk == kd) = false := by simpa using h0
        go_wp2_with fail
        exact ⟨⟨k + 1, by omega, by go_num, by rw [HN.out, if_neg h0]; rfl, by trivial⟩, by simp only [intOf]; omega⟩
    · have HE := Lib.hid (show (es.map Le.ed).take k = es.map Le.ed from List.take_of_length_le (by simp; omega))
      go_wp2_with fail
      go_ret
      exact ⟨by rw [HE.out]; rfl, rfl⟩
set_option maxRecDepth 100000 in
set_option maxHeartbeats 12800000 in
theorem redsame_any (A B : Option Addr) (c d : Nat) (es fs : List Le) (S T : Nat → Prop) (w : World) (hA : edL.row w S A es) (hB : edL.row w T B fs) (he : es.map Le.ed = fs.map Le.ed) (hl : es.length ≤ 281474976710656) :
    Calls Tryz.prog 26 #[.slice A es.length c, .slice B fs.length d] w fun e w' => e = .returned (.bool true) ∧ Below w.heap.size w w' := by
  have hlen : fs.length = es.length := by have := congrArg List.length he; simpa using this.symm
  have HA := Lib.hid hA; have HB := Lib.hid hB; have HE := Lib.hid he
  clear hA hB he
  rw [hlen]
  go_enter Tryz.func26, Tryz.ntmps26
  go_wp2_with fail
  go_loopw [5] (fun i wr => ∃ k : Nat, k ≤ es.length ∧ i = .int .i64 k ∧ Hid (Below w.heap.size w wr)) (fun i _ => es.length - (intOf i).toNat)
  case atStart => exact ⟨0, Nat.zero_le _, rfl, Lib.hid (Below.refl _ _)⟩
  case round =>
    obtain ⟨k, hk, rfl, HBW⟩ := hrel
    by_cases hlt : k < es.length
    · have i1 : (k : Int) < (es.length : Int) := by omega
      have i2 : (0 : Int) ≤ (k : Int) := by omega
      obtain ⟨ab, ao, rfl, _, hal, x0, x1, x2, x3⟩ := edRow (HA.out.below HBW.out) k hlt
      obtain ⟨bb, bo, rfl, _, hbl, y0, y1, y2, y3⟩ := edRow (HB.out.below HBW.out) k (by omega)
      have HND := Lib.hid (show es[k].ed = (fs[k]'(by omega)).ed from by
        have h1 := congrArg (·[k]?) HE.out
        simp only [List.getElem?_map] at h1
        rw [List.getElem?_eq_getElem hlt, List.getElem?_eq_getElem (show k < fs.length by omega)] at h1
        simpa using h1)
      have HSA := Lib.hid (edSub (HA.out.below HBW.out) k hlt)
      have HSB := Lib.hid (edSub (HB.out.below HBW.out) k (by omega))
      generalize es[k] = la at *
      generalize fs[k]'(by omega) = lb at *
      obtain ⟨kd, ⟨an, ⟨aA, ac, al, ar⟩⟩⟩ := la
      obtain ⟨kd', ⟨bn, ⟨bA, bc, bl, br⟩⟩⟩ := lb
      obtain ⟨rfl, rfl, hnl, rfl⟩ : kd = kd' ∧ an = bn ∧ al.map Ln.nd = bl.map Ln.nd ∧ ar = br := by
        have h := HND.out
        simp only [Le.ed, Ld.df, Lt.tr, Ed.mk.injEq, Df.mk.injEq, Tr.mk.injEq] at h
        exact ⟨h.1, h.2.1, h.2.2.1, h.2.2.2⟩
      simp only at x0 x1 x2 x3 y0 y1 y2 y3
      have HNL := Lib.hid hnl; clear hnl HND
      have HSA2 := Lib.hid (show al.length ≤ 281474976710656 ∧ ndL.row wr S aA al from HSA.out)
      have HSB2 := Lib.hid (show bl.length ≤ 281474976710656 ∧ ndL.row wr T bA bl from HSB.out)
      have HST := Lib.hid (show ∀ w', Below wr.heap.size wr w' → (w'.cell? ⟨ab, ao + k * 4, none⟩ = some (.int .u8 kd) ∧ w'.cell? ⟨ab, ao + k * 4 + 1, none⟩ = some (.string an) ∧ w'.cell? ⟨ab, ao + k * 4 + 2, none⟩ = some (.slice aA al.length ac) ∧ w'.cell? ⟨ab, ao + k * 4 + 3, none⟩ = some (.int .i64 ar)) ∧ (w'.cell? ⟨bb, bo + k * 4, none⟩ = some (.int .u8 kd) ∧ w'.cell? ⟨bb, bo + k * 4 + 1, none⟩ = some (.string an) ∧ w'.cell? ⟨bb, bo + k * 4 + 2, none⟩ = some (.slice bA bl.length bc) ∧ w'.cell? ⟨bb, bo + k * 4 + 3, none⟩ = some (.int .i64 ar)) from fun w' hb =>
        ⟨⟨(hb.cell (cellLt x0)).trans x0, (hb.cell (cellLt x1)).trans x1, (hb.cell (cellLt x2)).trans x2, (hb.cell (cellLt x3)).trans x3⟩, (hb.cell (cellLt y0)).trans y0, (hb.cell (cellLt y1)).trans y1, (hb.cell (cellLt y2)).trans y2, (hb.cell (cellLt y3)).trans y3⟩)
      go_upto_region 6 with (fail)
      clear x0 x1 x2 x3 y0 y1 y2 y3
      as_aux_lemma =>
        go_region_held3 (fun w' => (w'.cell? ⟨ab, ao + k * 4, none⟩ = some (.int .u8 kd) ∧ w'.cell? ⟨ab, ao + k * 4 + 1, none⟩ = some (.string an) ∧ w'.cell? ⟨ab, ao + k * 4 + 2, none⟩ = some (.slice aA al.length ac) ∧ w'.cell? ⟨ab, ao + k * 4 + 3, none⟩ = some (.int .i64 ar)) ∧ (w'.cell? ⟨bb, bo + k * 4, none⟩ = some (.int .u8 kd) ∧ w'.cell? ⟨bb, bo + k * 4 + 1, none⟩ = some (.string an) ∧ w'.cell? ⟨bb, bo + k * 4 + 2, none⟩ = some (.slice bA bl.length bc) ∧ w'.cell? ⟨bb, bo + k * 4 + 3, none⟩ = some (.int .i64 ar)))
          (first | exact HST.out _ (Below.refl _ _).drew | exact HST.out _ HB3.out)
          (((go_at_call 43; (with_reducible refine (exact4_any aA bA ac bc al bl ar S T _ (HSA2.out.2.agree (drew_agree _ _)) (HSB2.out.2.agree (drew_agree _ _)) HNL.out HSA2.out.1).mono ?_)); rintro e w3 ⟨rfl, hb3⟩; have HB3 := Lib.hid (show Below wr.heap.size wr w3 from (Below.refl _ wr).drew.trans hb3); clear hb3))
        go_wp2_with fail
        exact ⟨⟨k + 1, by omega, by go_num, Lib.hid (Below.step HBW.out HB3.out)⟩, by simp only [intOf]; omega⟩
    · go_wp2_with fail
      go_ret
      exact ⟨rfl, HBW.out⟩
theorem infoRedit : (Tryz.prog.info? 110).map (fun i => (i.zero, i.size, i.bytes)) = some (some (.agg #[.int .u8 0, .string ByteArray.empty, .slice none 0 0, .int .i64 0]), 4, 56) := by kernel_rfl
def ToldPost (es : List Le) (S : Nat → Prop) (w : World) (e : Ending) (w' : World) : Prop := ∃ (V : Option Addr) (vc : Nat), e = .returned (.slice V es.length vc) ∧ edL.row w' (fun x => S x ∨ w.heap.size ≤ x) V es ∧ Below w.heap.size w w'
def ToldRel (w : World) (H : Nat) (es : List Le) (i l : Value) (wr : World) : Prop :=
  ∃ (k : Nat) (V : Option Addr) (vc : Nat), k ≤ es.length ∧ i = .int .i64 k ∧ l = .slice V k vc ∧ Hid (wr.ownsRow H 110 4 (.slice V k vc) k (edL.all (es.take k))) ∧ Hid (Below H w wr)
set_option maxRecDepth 100000 in
set_option maxHeartbeats 12800000 in
theorem told_any (es : List Le) (A : Option Addr) (c : Nat) (S : Nat → Prop) (w : World) (hA : edL.row w S A es) (hl : es.length ≤ 100000) :
    Calls Tryz.prog 27 #[.slice A es.length c] w (ToldPost es S w) := by
  obtain ⟨j0, hj, hy0, hy1, hy2⟩ := info_parts infoRedit
  have hzc : (Value.agg #[.int .u8 0, .string ByteArray.empty, .slice none 0 0, .int .i64 0]).cells.size = 4 := rfl
  have HA := Lib.hid hA; clear hA
  go_enter Tryz.func27, Tryz.ntmps27
  go_wp2_with fail
  go_loopw [4, 3] (fun i l wr => ToldRel w w.heap.size es i l wr) (fun i _ _ => es.length - (intOf i).toNat)
  case atStart => exact ⟨0, none, 0, Nat.zero_le _, rfl, rfl, Lib.hid (World.ownsRow_nil _ _ _ _), Lib.hid (Below.refl _ _)⟩
  case round =>
    obtain ⟨k, V, vc, hk, rfl, rfl, HOW, HB⟩ := hrel
    by_cases hlt : k < es.length
    · have i1 : (k : Int) < (es.length : Int) := by omega
      have i2 : (0 : Int) ≤ (k : Int) := by omega
      obtain ⟨eb, eo, rfl, _, _, x0, x1, x2, x3⟩ := edRow (HA.out.below HB.out) k hlt
      have HTK := Lib.hid (show es.take (k + 1) = es.take k ++ [es[k]] from List.take_succ_eq_append_getElem hlt)
      generalize es[k] = ee at *
      obtain ⟨kd, x⟩ := ee
      simp only at x0 x1 x2 x3
      have HF := Lib.hid (show k + 1 ≤ maxLen ∧ (k + 1) * 56 ≤ 140737488355328 from ⟨by unfold maxLen; omega, by omega⟩)
      have HZ := Lib.hid HB.out.size
      as_aux_lemma =>
        go_wp2_with (at_builtin; refine wpList_append_at _ rfl (.tmp 11) (.tmp 16) 36 rfl w.heap.size 110 j0 (.agg #[.int .u8 0, .string ByteArray.empty, .slice none 0 0, .int .i64 0]) 4 56 Tryz.underlying36 hj hy0 hy1 hy2 hzc (by decide) V vc k (edL.all (es.take k)) rfl (World.ownsRow.alloc HOW.out _) (some ⟨wr.heap.size, 0, none⟩) 1 1 [.int .u8 kd, .string x.name, .slice x.t.A x.t.ls.length x.t.c, .int .i64 x.t.root] rfl rfl (row_blk (bx_new _ _)) (ed_one _ _ _ _ _ _) HF.out.1 HF.out.2 (by have := HZ.out; simp; omega) ?_; intro V4 vc4 w4 HO4 HG4 HA4)
        have ho := HO4.out
        rw [show edL.all (es.take k) ++ [Value.int .u8 kd, .string x.name, .slice x.t.A x.t.ls.length x.t.c, .int .i64 x.t.root] = edL.all (es.take (k + 1)) by rw [HTK.out, edL.all_append, edL.all_one]; rfl] at ho
        have hz := HZ.out
        have hb : Below w.heap.size w w4 := (HB.out.trans ((bx1 wr _).mono (by omega))).grown HG4.out (by simp; omega) (fun y hy => (own_blk HOW.out y hy).1)
        exact ⟨⟨k + 1, V4, vc4, by omega, by go_num, rfl, Lib.hid ho, Lib.hid hb⟩, by simp only [intOf]; omega⟩
    · obtain rfl : k = es.length := by omega
      have HR := Lib.hid (show edL.row wr (fun x => S x ∨ w.heap.size ≤ x) V es from by
        have h := HOW.out
        rw [List.take_length] at h
        exact ⟨own_rowIn h (fun ad e => .inr (own_blk h ad.block (by rw [e]; rfl)).1), fun d hd => edL.mono (edL.agree (HA.out.2 d hd) (below_all HB.out)) (fun _ _ hs => .inl hs)⟩)
      go_wp2_with fail
      go_ret
      exact ⟨V, vc, rfl, HR.out, HB.out⟩
end Go.Proofs.YtmjkgnknfgoadaaGreatDoor
namespace Go.Proofs.YtmjkgnknfgoadaaGreatDoor
section
variable {P : Program} {ops : Array Oper} {Q : Exit → Act → World → Prop} {md : Region.Mode}
theorem countP_less {p q : Nat → Bool} : ∀ (l : List Nat), (∀ j, q j = true → p j = true) → ∀ i, i ∈ l → p i = true → q i = false → l.countP q < l.countP p
  | [], _, i, hi, _, _ => by cases hi
  | x :: l, hpq, i, hi, hp, hq => by
    have hle : l.countP q ≤ l.countP p := List.countP_mono_left (fun j _ h => hpq j h)
    simp only [List.countP_cons]
    rcases List.mem_cons.1 hi with rfl | hi
    · rw [hp, hq]; simp; omega
    · have ih := countP_less l hpq i hi hp hq
      cases hqx : q x
      · cases p x <;> simp <;> omega
      · rw [hpq x hqx]; simp; omega
theorem ready_mem {listed : Array Bool} {i : Nat} (h : i ∈ Region.ready md ops listed) : i < ops.size ∧ listed.getD i true = false ∧ ((ops[i]?).map (·.after.all fun e => !Region.binds md e || listed.getD e.on false)).getD false = true := by
  simp only [Region.ready, List.mem_filter, List.mem_range, Bool.and_eq_true, Bool.not_eq_true'] at h
  exact ⟨h.1, h.2.1, h.2.2⟩
theorem ready_after {listed : Array Bool} {i : Nat} {o : Oper} (h : i ∈ Region.ready md ops listed) (ho : ops[i]? = some o) : (o.after.all fun e => !Region.binds md e || listed.getD e.on false) = true := by
  have := (ready_mem h).2.2
  rw [ho] at this
  exact this
theorem wpAny_inv {Inv : Array Bool → Act → World → Prop}
    (hstep : ∀ listed a w, Inv listed a w → ∀ i, i ∈ Region.ready md ops listed → wpOp P ops Q i (fun a' w' => Inv (listed.setIfInBounds i true) a' w') a w)
    (hend : ∀ listed a w, Inv listed a w → Region.ready md ops listed = [] → Q .normal a w) :
    ∀ (fuel : Nat) (listed : Array Bool) (a : Act) (w : World), Inv listed a w → (List.range ops.size).countP (fun i => !listed.getD i true) ≤ fuel → wpAny P md ops Q fuel listed a w := by
  intro fuel
  induction fuel with
  | zero =>
    intro listed a w h hc
    have hr : Region.ready md ops listed = [] := by
      apply List.eq_nil_iff_forall_not_mem.2
      intro i hi
      have hm := ready_mem hi
      have h0 : (List.range ops.size).countP (fun i => !listed.getD i true) = 0 := by omega
      have := List.countP_eq_zero.1 h0 i (List.mem_range.2 hm.1)
      rw [hm.2.1] at this
      simp at this
    exact ⟨hr, hend _ _ _ h hr⟩
  | succ fuel ih =>
    intro listed a w h hc
    refine ⟨hend _ _ _ h, fun i hi => wpOp_mono (fun a' w' h' => ih _ _ _ h' ?_) (hstep _ _ _ h i hi)⟩
    have hm := ready_mem hi
    have hlt : i < listed.size := by
      apply Decidable.byContradiction
      intro hn
      have := hm.2.1
      simp [Array.getD, hn] at this
    have := countP_less (p := fun j => !listed.getD j true) (q := fun j => !(listed.setIfInBounds i true).getD j true) (List.range ops.size) (fun j hj => by
      by_cases hji : j = i
      · subst hji; rw [hm.2.1]; rfl
      · simp only [Bool.not_eq_true'] at hj ⊢
        simp only [Array.getD_eq_getD_getElem?, Array.getElem?_setIfInBounds] at hj ⊢
        rw [if_neg (fun e => hji e.symm)] at hj
        exact hj) i (List.mem_range.2 hm.1) (by rw [hm.2.1]; rfl) (by
      simp [Array.getD_eq_getD_getElem?, hlt])
    omega
theorem wp_region_inv {id : Nat} {a : Act} {w : World} (Inv : Array Bool → Act → World → Prop) (hm : P.follows .mixedOrders = true)
    (h0 : Inv (Array.replicate ops.size false) a w.drew)
    (hstep : ∀ listed a w, Inv listed a w → ∀ i, i ∈ Region.ready .any ops listed → wpOp P ops Q i (fun a' w' => Inv (listed.setIfInBounds i true) a' w') a w)
    (hend : ∀ listed a w, Inv listed a w → Region.ready .any ops listed = [] → Q .normal a w) : (Code.region id ops true).wp P Q a w :=
  wp_region_any hm (wpAny_inv hstep hend _ _ _ _ h0 (by
    refine Nat.le_trans List.countP_le_length ?_
    simp))
theorem flag_set {listed : Array Bool} {i k : Nat} (h : (listed.setIfInBounds i true).getD k false = true) : k = i ∨ listed.getD k false = true := by
  by_cases hk : k = i
  · exact .inl hk
  · refine .inr ?_
    simp only [Array.getD_eq_getD_getElem?, Array.getElem?_setIfInBounds] at h ⊢
    rwa [if_neg (fun e => hk e.symm)] at h
theorem all_listed {listed : Array Bool} (hs : listed.size = ops.size) (hb : (ops.toList.zipIdx.all fun x => x.1.after.all fun e => decide (e.on < x.2)) = true) (h : Region.ready md ops listed = []) : ∀ i, i < ops.size → listed.getD i false = true := by
  intro i
  induction i using Nat.strongRecOn with
  | _ i ih =>
    intro hi
    apply Decidable.byContradiction
    intro hn
    have hmem : i ∈ Region.ready md ops listed := by
      simp only [Region.ready, List.mem_filter, List.mem_range, Bool.and_eq_true, Bool.not_eq_true']
      refine ⟨hi, ?_, ?_⟩
      · simp only [Array.getD_eq_getD_getElem?] at hn ⊢
        have : i < listed.size := by omega
        rw [Array.getElem?_eq_getElem this] at hn ⊢
        simpa using hn
      · rw [Array.getElem?_eq_getElem hi]
        simp only [Option.map_some, Option.getD_some, Array.all_eq_true']
        intro e he
        have hx := List.all_eq_true.1 hb (ops[i], i) (by
          rw [List.mem_zipIdx_iff_getElem?]; simp [hi])
        have := Array.all_eq_true'.1 hx e he
        simp only [decide_eq_true_eq] at this
        rw [ih e.on this (by omega)]
        simp
    rw [h] at hmem
    cases hmem
end
end Go.Proofs.YtmjkgnknfgoadaaGreatDoor
namespace Go.Proofs.YtmjkgnknfgoadaaGreatDoor
open Go.RowKit
set_option linter.unusedSimpArgs false
set_option linter.unusedVariables false
theorem flag_of {listed : Array Bool} {i k : Nat} (hk : k ≠ i) (h : (listed.setIfInBounds i true).getD k false = true) : listed.getD k false = true :=
  (flag_set h).elim (fun e => absurd e hk) id
theorem flag_old {listed : Array Bool} {i k : Nat} (h : listed.getD k false = true) : (listed.setIfInBounds i true).getD k false = true := by
  simp only [Array.getD_eq_getD_getElem?, Array.getElem?_setIfInBounds] at h ⊢
  by_cases hk : i = k
  · subst hk
    by_cases hi : i < listed.size
    · simp [hi]
    · simp [hi] at h
  · rwa [if_neg hk]
theorem flag_not {listed : Array Bool} {i : Nat} (h : listed.getD i true = false) (k : listed.getD i false = true) : False := by
  simp only [Array.getD_eq_getD_getElem?] at h k
  cases hx : listed[i]? with
  | none => rw [hx] at k; simp at k
  | some b => rw [hx] at h k; simp at h k; rw [h] at k; cases k
theorem slot_self (a : Act) (d : Nat) (h : d < a.tmps.size) : a.put (some d) (a.tmps.getD d undef) = a := by
  obtain ⟨tmps, defers⟩ := a
  simp only at h
  simp only [Act.put, Act.mk.injEq, and_true]
  apply Array.ext_getElem?
  intro i
  rw [Array.getElem?_setIfInBounds]
  split
  · rename_i e; subst e
    simp [h, Array.getD]
  · rfl
theorem self_puts (a : Act) : ∀ (ds : List Nat), ds.all (fun d => decide (d < a.tmps.size)) = true → ds.foldl (fun b d => b.put (some d) (a.tmps.getD d undef)) a = a
  | [], _ => rfl
  | d :: ds, h => by
    simp only [List.all_cons, Bool.and_eq_true, decide_eq_true_eq] at h
    rw [List.foldl_cons, slot_self a d h.1]
    exact self_puts a ds h.2
theorem wpOp_shut {P : Program} {ops : Array Oper} {Q : Exit → Act → World → Prop} {i : Nat} {o : Oper} {K : Act → World → Prop} {a : Act} {w : World} (ho : ops[i]? = some o)
    (h : ∀ K' : Act → World → Prop, Shut (∀ a w, K a w → K' a w) → if Region.wanted o (yielded ops a.tmps) = true then Oper.wp P o a w K' Q else K' (a.put o.dst undef) w) : wpOp P ops Q i K a w :=
  wpOp_step ho h
theorem wp_region_inv0 {P : Program} {ops : Array Oper} {Q : Exit → Act → World → Prop} {id : Nat} {a : Act} {w : World} (Inv : Act → Array Bool → Act → World → Prop) (hm : P.follows .mixedOrders = true)
    (h0 : Inv a (Array.replicate ops.size false) a w.drew)
    (hstep : ∀ listed a' w', Inv a listed a' w' → ∀ i, i ∈ Region.ready .any ops listed → wpOp P ops Q i (fun a'' w'' => Inv a (listed.setIfInBounds i true) a'' w'') a' w')
    (hend : ∀ listed a' w', Inv a listed a' w' → Region.ready .any ops listed = [] → Q .normal a' w') : (Code.region id ops true).wp P Q a w :=
  wp_region_inv (Inv a) hm h0 hstep hend
end Go.Proofs.YtmjkgnknfgoadaaGreatDoor
