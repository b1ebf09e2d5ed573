/- The contract of parse.Grammar. Copies of elements of several cells; plain: a tree of a node and its kids; rows of trees. -/
import Derived.Test.YtpfokabdpmjobaaDoorJ1
import Derived.Test.YtpfokabdpmjobaaDoorDw
namespace Go.Proofs.YtpfokabdpmjobaaDoor
open Go.RowKit
set_option linter.unusedSimpArgs false
set_option linter.unusedVariables false
theorem read_kinds (s : List UInt8) : (∀ p ∈ (readW s).1.1, kdW (begunW s).1 p.1 = 1) ∧ ∀ c ∈ (readW s).1.2, kdW (begunW s).1 c = 1 := by
  unfold readW
  split
  · exact ⟨fun p hp => (by cases hp), fun c hc => (by cases hc)⟩
  · cases hr : rulesP (begunW s).1 with
    | fail k => exact ⟨fun p hp => (by cases hp), fun c hc => (by cases hc)⟩
    | done l cs =>
      have h := rules_inv (makes_true (begunW s).1) (fun x hx => ((begun_all s).1 x hx).1) _ 0 [] [] (fun p hp => (by cases hp)) (fun c hc => (by cases hc)) l cs hr
      exact ⟨fun p hp => (h.1.2 p hp).1, h.2⟩
theorem text_short {s : List UInt8} {i : Nat} (h : kdW (begunW s).1 i = 1) : (textW (begunW s).1 i).length ≤ 32 ∧ mayL (textW (begunW s).1 i) = true := by
  have hl : i < (begunW s).1.length := kd_lt (by omega)
  have h1 := ((begun_all s).1 _ (List.getElem_mem hl)).1
  have h2 := h1.1 (by rw [← kd_at hl]; exact h)
  have e : textW (begunW s).1 i = (begunW s).1[i].text := by unfold textW; rw [wd_at hl]
  rw [e]
  refine ⟨?_, h2⟩
  simp only [mayL, decide_eq_true_eq] at h2
  exact h2.2.1
theorem read_ok_at {s : List UInt8} (h : (readW s).2.2 = 0) : (readW s).2.1 = (begunW s).2.1 := by
  unfold readW at h ⊢
  split
  · rename_i h1; simp [h1] at h
  · rename_i h1
    rw [if_neg h1] at h
    cases hr : rulesP (begunW s).1 with
    | fail k => simp [hr] at h
    | done l cs => rfl
theorem gram_bad {s : List UInt8} (h : (readW s).2.2 ≠ 0) : gramP s = ([], (readW s).2.1, (readW s).2.2) := by unfold gramP; rw [if_pos h]
theorem gram_judged {s : List UInt8} {a e : Nat} (h : (readW s).2.2 = 0) (hj : judgeW (begunW s).1 (begunW s).2.1 (readW s).1.1 (readW s).1.2 = (a, e)) (he : e ≠ 0) : gramP s = ([], a, e) := by
  unfold gramP; rw [if_neg (by omega), read_ok_at h, hj, if_pos he]
theorem gram_fine {s : List UInt8} {a : Nat} (h : (readW s).2.2 = 0) (hj : judgeW (begunW s).1 (begunW s).2.1 (readW s).1.1 (readW s).1.2 = (a, 0)) : gramP s = ((readW s).1.1.map (defW (begunW s).1), 0, 0) := by
  unfold gramP; rw [if_neg (by omega), read_ok_at h, hj, if_neg (by simp)]
def PGPost (s : List UInt8) (w : World) (e : Ending) (w' : World) : Prop :=
  ∃ (A : Option Addr) (c : Nat) (ds : List Ld), e = .returned (.tuple #[.agg #[.slice A ds.length c], .int .i64 ((gramP s).2.1 : Int), .int .i64 ((gramP s).2.2 : Int)]) ∧ ds.map Ld.df = (gramP s).1 ∧ (∀ d ∈ ds, d.t.ls.length ≤ 300000) ∧
    OwnS w' (w.heap.size ≤ ·) 33 3 A ds.length c (dfL.all ds) ∧ (∀ d ∈ ds, d.name.size ≤ 281474976710656 ∧ TreeOwn w' (w.heap.size ≤ ·) d.t) ∧ Below w.heap.size w w'
set_option maxRecDepth 100000 in
set_option maxHeartbeats 3200000 in
theorem pgrammar_any (s : ByteArray) (w : World) (hs : s.size ≤ 281474976710656) (ht : CntTab w) : Calls Tryd.prog 5 #[.string s] w (PGPost s.data.toList w) := by
  have HB0 := Lib.hid (bx1 w (.cells #[.slice none 0 0] 25))
  have HZ0 := Lib.hid (bx_new w (.cells #[.slice none 0 0] 25))
  have HRD := Lib.hid (read_any s (w.alloc (.cells #[.slice none 0 0] 25)) hs (ht.below HB0.out))
  have HCT := Lib.hid ht
  unfold ReadPost2 at HRD
  generalize hl : s.data.toList = l at *
  clear hl ht
  have HSZ := Lib.hid (show (w.alloc (.cells #[.slice none 0 0] 25)).heap.size = w.heap.size + 1 from by simp)
  obtain ⟨at', hat⟩ : ∃ a, (readW l).2.1 = a := ⟨_, rfl⟩
  obtain ⟨er, her⟩ : ∃ a, (readW l).2.2 = a := ⟨_, rfl⟩
  rw [hat, her] at HRD
  have HAT := Lib.hid hat; have HER := Lib.hid her; clear hat her
  by_cases he : er = 0
  · subst he
    obtain ⟨⟨ja, je⟩, hj⟩ : ∃ p, judgeW (begunW l).1 (begunW l).2.1 (readW l).1.1 (readW l).1.2 = p := ⟨_, rfl⟩
    have HJ := Lib.hid (show ∀ (R : Rd) (f : Nat → Ow) (H : Nat) (w1 : World), RdM Dch w1 (w.alloc (.cells #[.slice none 0 0] 25)).heap.size f H R → RdDone l R → CntTab w1 → Calls Tryd.prog 15 #[.pointer (some ⟨H, 0, none⟩)] w1 fun e w' => e = .returned (.tuple #[.int .i64 (ja : Int), .int .i64 (je : Int)]) ∧ Below w1.heap.size w1 w' from fun R f H w1 h1 h2 h3 => by
      have h4 := judge_any w1 _ f H R (readW l).1.1 (readW l).1.2 h1 h2.ms h2.cs h2.ds h2.len (fun p hp => by rw [h2.W]; exact (text_short ((read_kinds l).1 p hp)).1) (fun c hc => by rw [h2.W]; exact (text_short ((read_kinds l).2 c hc)).1) (Nat.le_trans h2.num.1 (by rw [h2.W]; exact (begun_all l).2)) (Nat.le_trans h2.num.2 (by rw [h2.W]; exact (begun_all l).2)) h3
      unfold JudgePost at h4
      rw [h2.W, h2.fin, hj] at h4
      exact h4)
    by_cases hje : je = 0
    · subst hje
      have HG := Lib.hid (gram_fine HER.out hj)
      clear hj
      go_enter Tryd.func5, Tryd.ntmps5
      go_upto_region 7 with (first
        | (go_at_call 14; (with_reducible refine HRD.out.mono ?_); rintro e w1 ⟨R, f, H, rfl, k1, k2, k3⟩; have HR := Lib.hid k1; have HDN := Lib.hid (k2 rfl); have HB1 := Lib.hid k3; clear k1 k2 k3)
        | (go_at_call 15; (with_reducible refine (HJ.out R f H w1 HR.out HDN.out ((HCT.out.below HB0.out).below HB1.out)).mono ?_); rintro e w2 ⟨rfl, hb⟩; have HB2 := Lib.hid hb; clear hb)
        | fail)
      have HR2 := Lib.hid (HR.out.below HB2.out)
      obtain ⟨_, _, _, _, _, p5, _, _, pf⟩ := blk8 (HR2.out.box (fun h => h))
      have HK2 := Lib.hid (bx_kept HB2.out (bx_kept HB1.out HZ0.out))
      obtain ⟨q0, qf⟩ := blk1 HK2.out
      have hltk := heap_lt' HK2.out
      go_wp2_with fail
      have hz : (w2.setCell ⟨w.heap.size, 0, none⟩ (.slice R.dA R.ds.length R.dc)).heap[w.heap.size]? = some (.cells #[.slice R.dA R.ds.length R.dc] 25 (0, 0)) := by simpa using box_cells (i := 0) HK2.out (.slice R.dA R.ds.length R.dc)
      have HX := Lib.hid (show PGPost l w (.returned (.tuple #[.agg #[.slice R.dA R.ds.length R.dc], .int .i64 0, .int .i64 0])) (w2.setCell ⟨w.heap.size, 0, none⟩ (.slice R.dA R.ds.length R.dc)) from by
        have hsz := HSZ.out
        have hag : Agree (fun k => w.heap.size + 1 ≤ k) w2 (w2.setCell ⟨w.heap.size, 0, none⟩ (.slice R.dA R.ds.length R.dc)) := fun k hk _ => Below.heap_setCell _ _ _ _ (by show k ≠ w.heap.size; omega)
        have ho : OwnS w2 (fun k => w.heap.size + 1 ≤ k) 33 3 R.dA R.ds.length R.dc (dfL.all R.ds) := by
          have h1 := (HR2.out .defs (fun h => h)).1
          exact ⟨own_mono h1 (Nat.zero_le _), fun k hk => by have := (own_blk h1 k hk).1; omega⟩
        refine ⟨R.dA, R.dc, R.ds, by rw [HG.out]; rfl, by rw [HG.out, HDN.out.ds, HDN.out.W], HDN.out.len, (ho.agree hag).mono (fun k _ hk => by show w.heap.size ≤ k; omega), fun d hd => ?_, ?_⟩
        · obtain ⟨j, hj, rfl⟩ := List.mem_iff_getElem.1 hd
          have h1 := (HR2.out (.body j) (fun h => h)) hj
          have h2 : TreeOwn w2 (fun k => w.heap.size + 1 ≤ k) R.ds[j].t := h1.2.mono (fun k _ hk => by have := hk.2; show w.heap.size + 1 ≤ k; omega)
          exact ⟨h1.1, (h2.agree hag).mono (fun k _ hk => by show w.heap.size ≤ k; omega)⟩
        · exact ((HB0.out.trans (HB1.out.mono (by omega))).trans (HB2.out.mono (by have := HB1.out.size; omega))).setCell (p := ⟨w.heap.size, 0, none⟩) (Nat.le_refl _) _)
      clear q0 qf
      generalize (w2.setCell ⟨w.heap.size, 0, none⟩ (.slice R.dA R.ds.length R.dc)) = wz at *
      obtain ⟨q0, _⟩ := blk1 hz
      exact bodyPost_ret (v := .tuple #[.agg #[.slice R.dA R.ds.length R.dc], .int .i64 0, .int .i64 0]) (by simp [results, Tryd.results5, go_sem, q0]) rfl HX.out
    · have HG := Lib.hid (gram_judged HER.out hj hje)
      have i1 : ((je : Int) == 0) = false := by simp; omega
      clear hj
      go_enter Tryd.func5, Tryd.ntmps5
      go_upto_region 6 with (first
        | (go_at_call 14; (with_reducible refine HRD.out.mono ?_); rintro e w1 ⟨R, f, H, rfl, k1, k2, k3⟩; have HR := Lib.hid k1; have HDN := Lib.hid (k2 rfl); have HB1 := Lib.hid k3; clear k1 k2 k3)
        | (go_at_call 15; (with_reducible refine (HJ.out R f H w1 HR.out HDN.out ((HCT.out.below HB0.out).below HB1.out)).mono ?_); rintro e w2 ⟨rfl, hb⟩; have HB2 := Lib.hid hb; clear hb)
        | fail)
      have HK2 := Lib.hid (bx_kept HB2.out (bx_kept HB1.out HZ0.out))
      obtain ⟨q0, qf⟩ := blk1 HK2.out
      go_wp2_with fail
      have hz : (w2.setCell ⟨w.heap.size, 0, none⟩ (.slice none 0 0)).heap[w.heap.size]? = some (.cells #[.slice none 0 0] 25 (0, 0)) := by simpa using box_cells (i := 0) HK2.out (.slice none 0 0)
      have HX := Lib.hid (show PGPost l w (.returned (.tuple #[.agg #[.slice none 0 0], .int .i64 (ja : Int), .int .i64 (je : Int)])) (w2.setCell ⟨w.heap.size, 0, none⟩ (.slice none 0 0)) from by
        have hsz := HSZ.out
        refine ⟨none, 0, [], by rw [HG.out]; rfl, by rw [HG.out]; rfl, fun d hd => (by cases hd), ⟨World.ownsRow_nil _ _ _ _, fun k hk => (by cases hk)⟩, fun d hd => (by cases hd), ?_⟩
        exact ((HB0.out.trans (HB1.out.mono (by omega))).trans (HB2.out.mono (by have := HB1.out.size; omega))).setCell (p := ⟨w.heap.size, 0, none⟩) (Nat.le_refl _) _)
      clear q0 qf
      generalize (w2.setCell ⟨w.heap.size, 0, none⟩ (.slice none 0 0)) = wz at *
      obtain ⟨q0, _⟩ := blk1 hz
      exact bodyPost_ret (v := .tuple #[.agg #[.slice none 0 0], .int .i64 (ja : Int), .int .i64 (je : Int)]) (by simp [results, Tryd.results5, go_sem, q0]) rfl HX.out
  · have HG := Lib.hid (gram_bad (s := l) (by rw [HER.out]; exact he))
    have i1 : ((er : Int) == 0) = false := by simp; omega
    go_enter Tryd.func5, Tryd.ntmps5
    go_upto_region 3 with (first
      | (go_at_call 14; (with_reducible refine HRD.out.mono ?_); rintro e w1 ⟨R, f, H, rfl, k1, k2, k3⟩; have HB1 := Lib.hid k3; clear k1 k2 k3)
      | fail)
    have HK2 := Lib.hid (bx_kept HB1.out HZ0.out)
    obtain ⟨q0, qf⟩ := blk1 HK2.out
    go_wp2_with fail
    have hz : (w1.setCell ⟨w.heap.size, 0, none⟩ (.slice none 0 0)).heap[w.heap.size]? = some (.cells #[.slice none 0 0] 25 (0, 0)) := by simpa using box_cells (i := 0) HK2.out (.slice none 0 0)
    have HX := Lib.hid (show PGPost l w (.returned (.tuple #[.agg #[.slice none 0 0], .int .i64 (at' : Int), .int .i64 (er : Int)])) (w1.setCell ⟨w.heap.size, 0, none⟩ (.slice none 0 0)) from by
      have hsz := HSZ.out
      refine ⟨none, 0, [], by rw [HG.out, HAT.out, HER.out]; rfl, by rw [HG.out]; rfl, fun d hd => (by cases hd), ⟨World.ownsRow_nil _ _ _ _, fun k hk => (by cases hk)⟩, fun d hd => (by cases hd), ?_⟩
      exact (HB0.out.trans (HB1.out.mono (by omega))).setCell (p := ⟨w.heap.size, 0, none⟩) (Nat.le_refl _) _)
    clear q0 qf
    generalize (w1.setCell ⟨w.heap.size, 0, none⟩ (.slice none 0 0)) = wz at *
    obtain ⟨q0, _⟩ := blk1 hz
    exact bodyPost_ret (v := .tuple #[.agg #[.slice none 0 0], .int .i64 (at' : Int), .int .i64 (er : Int)]) (by simp [results, Tryd.results5, go_sem, q0]) rfl HX.out
end Go.Proofs.YtpfokabdpmjobaaDoor
namespace Go.Proofs.YtpfokabdpmjobaaDoor
open Go.RowKit
set_option linter.unusedSimpArgs false
set_option linter.unusedVariables false
theorem run_copy_rowN {P : Program} (w : World) (dT sT ty elem : TypeId) (m g o dLen dCap : Nat) (a : Addr) (sLen sCap : Nat) (cur : Array Value) (t : TypeId) (cs : List Value)
    (hu : P.underlying dT = some (.slice elem)) (hs : (P.info? elem).map (·.size) = some m)
    (hg : w.heap[g]? = some (.cells cur t (0, 0))) (hn : cs.length = Nat.min sLen dLen * m)
    (hsrc : ∀ j v, cs[j]? = some v → w.cell? (a.add j) = some v) (hfit : o + cs.length ≤ cur.size) (h1 : ∀ v ∈ cs, v.oneCell' = true) :
    (Builtin.copy_ #[dT, sT] ty #[.slice (some ⟨g, o, none⟩) dLen dCap, .slice (some a) sLen sCap]).run P w =
      .ok (goInt (Nat.min sLen dLen)) (w.setRow g (cur.toList.take o ++ cs ++ cur.toList.drop (o + cs.length)).toArray) := by
  have hl := run_loadCells_list (P := P) w a cs hsrc
  have hst := run_storeCells_at P g o t cs 0 cur w hg (by simpa using hfit) h1
  cases hq : P.info? elem with
  | none => simp [hq] at hs
  | some i =>
    have hi : i.size = m := by simpa [hq] using hs
    rw [hn] at hl
    simp [Builtin.copy_, run_underlying hu, Builtin.lenOf, Builtin.firstCells, sizeOf, typeInfo, hq, hi, hl, hst]
theorem wpList_copy_rowN {P : Program} {w : World} {ops : Array Oper} {rest : List Oper} {o : Oper} {a : Act} {Q : Exit → Act → World → Prop} (hgd : o.guard = none) (d s : Operand) (dT sT : TypeId)
    (ho : o.op = .call { callee := .builtin .copy, args := #[d, s], argTypes := #[dT, sT] }) (elem : TypeId) (m : Nat) (hu : P.underlying dT = some (.slice elem)) (hsz : (P.info? elem).map (·.size) = some m)
    (dp : Option Addr) (dLen dCap : Nat) (sp : Option Addr) (sLen sCap : Nat) (hd : a.eval d = .slice dp dLen dCap) (hs : a.eval s = .slice sp sLen sCap)
    (g : Nat) (hdp : dp = some ⟨g, 0, none⟩) (cur : List Value) (t : TypeId) (hg : w.heap[g]? = some (.cells cur.toArray t (0, 0))) (cs : List Value) (hn : cs.length = Nat.min sLen dLen * m)
    (ad : Addr) (hsp : sp = some ad) (hsrc : ∀ j v, cs[j]? = some v → w.cell? (ad.add j) = some v) (hfit : cs.length = cur.length) (h1 : ∀ v ∈ cs, v.oneCell' = true) (B : Nat) (hBg : B ≤ g)
    (h : ∀ w', Hid (w'.heap[g]? = some (.cells cs.toArray t (0, 0))) → Below B w w' → wpList P ops Q rest (a.put o.dst (goInt (Nat.min sLen dLen))) w') :
    wpList P ops Q (o :: rest) a w := by
  subst hdp hsp
  refine wpList_plain hgd fun K hK => ?_
  have hrun := run_copy_rowN (P := P) w dT sT o.type elem m g 0 dLen dCap ad sLen sCap cur.toArray t cs hu hsz hg hn hsrc (by simp; omega) h1
  unfold Oper.wp
  simp [execOp, ho, resolve, invoke, builtin, hd, hs, hrun, Result.andThen]
  have e : cs ++ cur.drop cs.length = cs := by rw [hfit, List.drop_length, List.append_nil]
  rw [e]
  exact hK _ _ (h _ (show _ = _ by simpa using setRow_heap w g _ cs.toArray t _ hg) (below_setRow (Below.refl _ _) hBg _))
def moveN (by' : Int) (n : Nd) : Nd := { n with kids := n.kids.map (· + by') }
theorem moveN_wf {b : Int} {n : Nd} (h : n.wf) : (moveN b n).wf := by
  obtain ⟨h1, h2, h3, h4⟩ := h
  exact ⟨h1, h2, by simpa [moveN] using h3, h4⟩
def movedK (b : Int) (kids : List Int) (j : Nat) : List Value := (kids.take j).map (fun z => Value.int .i64 (z + b)) ++ (kids.drop j).map (Value.int .i64)
theorem movedK_zero (b : Int) (kids : List Int) : movedK b kids 0 = intL.all kids := by simp [movedK, intL_all]
theorem movedK_end (b : Int) (n : Nd) : movedK b n.kids n.kids.length = intL.all (moveN b n).kids := by
  simp [movedK, intL_all, moveN]
theorem movedK_at (b : Int) (kids : List Int) (j : Nat) (h : j < kids.length) : (movedK b kids j)[j]? = some (.int .i64 kids[j]) := by
  unfold movedK
  rw [List.getElem?_append_right (by simp; omega)]
  simp [Nat.min_eq_left (Nat.le_of_lt h), h]
theorem movedK_set (b : Int) (kids : List Int) (j : Nat) (h : j < kids.length) : (movedK b kids j).set j (.int .i64 (kids[j] + b)) = movedK b kids (j + 1) := by
  unfold movedK
  have hl : ((kids.take j).map (fun z => Value.int .i64 (z + b))).length = j := by simp; omega
  rw [List.set_append_right _ _ (by omega), hl, Nat.sub_self, List.drop_eq_getElem_cons h, List.take_succ_eq_append_getElem h, List.map_append, List.map_cons, List.set_cons_zero, List.append_assoc]
  rfl
def NodesPost (l : List Nd) (w : World) (e : Ending) (w' : World) : Prop := ∃ v : Lt, e = .returned (.slice v.A v.ls.length v.c) ∧ v.ls.map Ln.nd = l ∧ TreeOwn w' (w.heap.size ≤ ·) v ∧ Below w.heap.size w w'
theorem own_fullN {w : World} {B g n m : Nat} {e : TypeId} {xs : List Value} (h : w.ownsRow B e m (.slice (some ⟨g, 0, none⟩) n n) n xs) : w.heap[g]? = some (.cells xs.toArray e (0, 0)) := by
  have hx := h.1
  rcases h.2 with ⟨hv, _⟩ | ⟨g', cap, cur, hv, _, hh, _, _, hs, ht⟩
  · cases hv
  · cases hv
    rw [List.take_of_length_le (by simp; omega)] at ht
    rw [← ht]; simpa using hh
theorem own_of_fullN {w : World} {B g n m : Nat} {e : TypeId} {xs : List Value} (h : w.heap[g]? = some (.cells xs.toArray e (0, 0))) (hn : xs.length = n * m) (hB : B ≤ g) (hm : n ≤ maxLen) : w.ownsRow B e m (.slice (some ⟨g, 0, none⟩) n n) n xs :=
  ⟨by omega, .inr ⟨g, n, _, rfl, hB, h, Nat.le_refl _, hm, by simp [hn], by simp [← hn]⟩⟩
theorem all_congr (l : List Ln) (k : Nat) (a b : Ln) (h : ndL.cells a = ndL.cells b) : ndL.all (l.set k a) = ndL.all (l.set k b) := by
  unfold Lay.all
  rw [List.flatMap_def, List.flatMap_def, List.map_set, List.map_set, h]
theorem all_moved (l : List Ln) (k : Nat) (hk : k < l.length) (b : Int) (A : Option Addr) (c : Nat) : (ndL.all l).set (k * 9 + 8) (.slice A l[k].nd.kids.length c) = ndL.all (l.set k ⟨moveN b l[k].nd, A, c⟩) := by
  rw [all_set8 l k hk]
  exact all_congr l k _ _ (by simp [ndL, moveN])
theorem blk_at9 {w : World} {g : Nat} {ls : List Ln} {T : TypeId} (h : w.heap[g]? = some (.cells (ndL.all ls).toArray T (0, 0))) (k : Nat) (hk : k < ls.length) :
    w.cell? ⟨g, k * 9, none⟩ = some (.int .u8 ls[k].nd.kind) ∧ w.cell? ⟨g, k * 9 + 1, none⟩ = some (.int .u64 ls[k].nd.s0) ∧ w.cell? ⟨g, k * 9 + 2, none⟩ = some (.int .u64 ls[k].nd.s1) ∧ w.cell? ⟨g, k * 9 + 3, none⟩ = some (.int .u64 ls[k].nd.s2) ∧ w.cell? ⟨g, k * 9 + 4, none⟩ = some (.int .u64 ls[k].nd.s3) ∧
      w.cell? ⟨g, k * 9 + 5, none⟩ = some (.string ls[k].nd.text) ∧ w.cell? ⟨g, k * 9 + 6, none⟩ = some (.int .i64 ls[k].nd.mn) ∧ w.cell? ⟨g, k * 9 + 7, none⟩ = some (.int .i64 ls[k].nd.mx) ∧ w.cell? ⟨g, k * 9 + 8, none⟩ = some (.slice ls[k].A ls[k].nd.kids.length ls[k].c) ∧ w.frozen? ⟨g, k * 9 + 8, none⟩ = false := by
  have hc : ∀ j u, j < 9 → (ndL.cells ls[k])[j]? = some u → w.cell? ⟨g, k * 9 + j, none⟩ = some u := fun j u hj hu => (row_cellAt h ((ndL.all_at ls k j hk hj).trans hu)).1
  exact ⟨hc 0 _ (by decide) rfl, hc 1 _ (by decide) rfl, hc 2 _ (by decide) rfl, hc 3 _ (by decide) rfl, hc 4 _ (by decide) rfl, hc 5 _ (by decide) rfl, hc 6 _ (by decide) rfl, hc 7 _ (by decide) rfl, hc 8 _ (by decide) rfl, by simp [World.frozen?, h]⟩
def putTs : List Tr → List Nd → List Int → List Nd × List Int
  | [], ar, li => (ar, li)
  | k :: ks, ar, li => putTs ks (ar ++ (takenL k.nodes k.root.toNat).map (moveN ar.length)) (li ++ [((ar ++ (takenL k.nodes k.root.toNat).map (moveN ar.length)).length : Int) - 1])
def ofT (n : Nd) (ks : List Tr) : Tr := ⟨(putTs ks [] []).1 ++ [{ n with kids := (putTs ks [] []).2 }], ((putTs ks [] []).1.length : Int)⟩
def okT (n : Nd) (ks : List Tr) : Bool := fitN n ks.length && ks.all rightT
theorem takenL_kids {t : Tr} (h : rightP t) (i : Nat) (hi : i < t.nodes.length) : ∀ n ∈ takenL t.nodes i, n.kids.length ≤ t.nodes.length ∧ ∀ z ∈ n.kids, 0 ≤ z ∧ z ≤ (t.nodes.length : Int) := fun n hn => by
  have hpl := post_length h i hi
  obtain ⟨p, hp, rfl⟩ := List.mem_map.1 hn
  have hp2 : p < t.nodes.length := by have := postN_le (rightP_ahead h) i p hp; omega
  constructor
  · have h1 := right_kids_len h (i := p) (n := t.nodes[p]) (List.getElem?_eq_getElem hp2)
    simp only [placed, List.length_map, ndAt, List.getElem?_eq_getElem hp2, Option.getD_some]
    omega
  · intro z hz
    simp only [placed, List.mem_map] at hz
    obtain ⟨k, _, rfl⟩ := hz
    have := List.idxOf_le_length (l := postN t.nodes i) (a := k.toNat)
    omega
def ttL : Lay Lt where
  size := 2
  cells t := [.slice t.A t.ls.length t.c, .int .i64 t.root]
  len _ := rfl
  one _ u hu := by
    simp only [List.mem_cons, List.not_mem_nil, or_false] at hu
    rcases hu with rfl | rfl <;> rfl
  inn w S t := t.inn w S
  agree h hg := Lt.inn.agree h hg
  mono h hS := Lt.inn.mono h hS
theorem ttRow {w : World} {S : Nat → Prop} {A : Option Addr} {l : List Lt} (h : ttL.row w S A l) (i : Nat) (hi : i < l.length) :
    ∃ b o, A = some ⟨b, o, none⟩ ∧ S b ∧ b < w.heap.size ∧ w.cell? ⟨b, o + i * 2, none⟩ = some (.slice l[i].A l[i].ls.length l[i].c) ∧ w.cell? ⟨b, o + i * 2 + 1, none⟩ = some (.int .i64 l[i].root) := by
  obtain ⟨b, o, e, hS, hl, hc⟩ := h.at (by decide) i hi
  have hc : ∀ j u, (ttL.cells l[i])[j]? = some u → w.cell? ⟨b, o + i * 2 + j, none⟩ = some u := fun j u hu => by rw [Nat.add_assoc]; exact hc j u hu
  exact ⟨b, o, e, hS, hl, hc 0 _ rfl, hc 1 _ rfl⟩
end Go.Proofs.YtpfokabdpmjobaaDoor
/- The contracts of tree.Rule and tree.Empty. -/
namespace Go.Proofs.YtpfokabdpmjobaaDoor
open Go.RowKit
set_option linter.unusedSimpArgs false
set_option linter.unusedVariables false
def LeafPost (n : Nd) (w : World) (e : Ending) (w' : World) : Prop := ∃ b, e = .returned (.agg #[.slice (some ⟨b, 0, none⟩) 1 1, .int .i64 0]) ∧ TreeOwn w' (w.heap.size ≤ ·) ⟨some ⟨b, 0, none⟩, 1, [⟨n, none, 0⟩], 0⟩ ∧ Below w.heap.size w w'
def ruleLf (s : ByteArray) : Nd := ⟨3, 0, 0, 0, 0, s, 0, 0, []⟩
set_option maxRecDepth 100000 in
set_option maxHeartbeats 1600000 in
theorem rule_any (s : ByteArray) (w : World) (hs : s.size ≤ 281474976710656) :
    Calls Tryd.prog 9 #[.string s] w (LeafPost (ruleLf s) w) := by
  unfold LeafPost
  have HWF := Lib.hid (show (ruleLf s).wf from ⟨by simp [ruleLf], hs, by simp [ruleLf], by simp [ruleLf, U64], by simp [ruleLf, U64], by simp [ruleLf, U64], by simp [ruleLf, U64]⟩)
  go_enter Tryd.func9, Tryd.ntmps9
  go_wp2_with (go_at_call 21; refine (leaf_any (ruleLf s) _ HWF.out rfl).mono ?_; rintro e w1 ⟨b, rfl, ht, hb⟩; have HT := Lib.hid ht; have HB := Lib.hid hb; obtain ⟨t1, t2, t3, t4⟩ := blk2 (bx_kept hb (bx_new w _)); clear ht hb)
  refine bodyPost_ret (v := .agg #[.slice (some ⟨b, 0, none⟩) 1 1, .int .i64 0]) (by simp [results, Tryd.results9, go_sem, t1, t2]) rfl ?_
  refine ⟨b, rfl, (HT.out.agree (fun x hx _ => ?_)).mono (fun x _ hx => ?_), ((Below.step (bx1 w _) HB.out).setCell (p := ⟨w.heap.size, 0, none⟩) (Nat.le_refl _) _).setCell (p := ⟨w.heap.size, 1, none⟩) (Nat.le_refl _) _⟩
  · have hx : (w.alloc _).heap.size ≤ x := hx
    rw [World.size_alloc] at hx
    exact (Below.heap_setCell _ _ _ _ (by show x ≠ w.heap.size; omega)).trans (Below.heap_setCell _ _ _ _ (by show x ≠ w.heap.size; omega))
  · have hx : (w.alloc _).heap.size ≤ x := hx
    rw [World.size_alloc] at hx
    show w.heap.size ≤ x; omega
end Go.Proofs.YtpfokabdpmjobaaDoor
