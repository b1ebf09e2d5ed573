/- The contract of tree.moved. -/
import Derived.Test.YtdcgbcdmkhleoaaDoorDs
namespace Go.Proofs.YtdcgbcdmkhleoaaDoor
open Go.RowKit
set_option linter.unusedSimpArgs false
set_option linter.unusedVariables false

/-! ### copy of elements of several cells -/
theorem run_copy_rowN {P : Program} (w : World) (dT sT ty elem : TypeId) (m g o dLen dCap : Nat) (a : Addr) (sLen sCap : Nat) (cur : Array Value) (t : TypeId) (cs : List Value)
    (hu : P.underlying dT = some (.slice elem)) (hs : (P.info? elem).map (·.size) = some m)
    (hg : w.heap[g]? = some (.cells cur t (0, 0))) (hn : cs.length = Nat.min sLen dLen * m)
    (hsrc : ∀ j v, cs[j]? = some v → w.cell? (a.add j) = some v) (hfit : o + cs.length ≤ cur.size) (h1 : ∀ v ∈ cs, v.oneCell' = true) :
    (Builtin.copy_ #[dT, sT] ty #[.slice (some ⟨g, o, none⟩) dLen dCap, .slice (some a) sLen sCap]).run P w =
      .ok (goInt (Nat.min sLen dLen)) (w.setRow g (cur.toList.take o ++ cs ++ cur.toList.drop (o + cs.length)).toArray) := by
  have hl := run_loadCells_list (P := P) w a cs hsrc
  have hst := run_storeCells_at P g o t cs 0 cur w hg (by simpa using hfit) h1
  cases hq : P.info? elem with
  | none => simp [hq] at hs
  | some i =>
    have hi : i.size = m := by simpa [hq] using hs
    rw [hn] at hl
    simp [Builtin.copy_, run_underlying hu, Builtin.lenOf, Builtin.firstCells, sizeOf, typeInfo, hq, hi, hl, hst]
theorem wpList_copy_rowN {P : Program} {w : World} {ops : Array Oper} {rest : List Oper} {o : Oper} {a : Act} {Q : Exit → Act → World → Prop} (hgd : o.guard = none) (d s : Operand) (dT sT : TypeId)
    (ho : o.op = .call { callee := .builtin .copy, args := #[d, s], argTypes := #[dT, sT] }) (elem : TypeId) (m : Nat) (hu : P.underlying dT = some (.slice elem)) (hsz : (P.info? elem).map (·.size) = some m)
    (dp : Option Addr) (dLen dCap : Nat) (sp : Option Addr) (sLen sCap : Nat) (hd : a.eval d = .slice dp dLen dCap) (hs : a.eval s = .slice sp sLen sCap)
    (g : Nat) (hdp : dp = some ⟨g, 0, none⟩) (cur : List Value) (t : TypeId) (hg : w.heap[g]? = some (.cells cur.toArray t (0, 0))) (cs : List Value) (hn : cs.length = Nat.min sLen dLen * m)
    (ad : Addr) (hsp : sp = some ad) (hsrc : ∀ j v, cs[j]? = some v → w.cell? (ad.add j) = some v) (hfit : cs.length = cur.length) (h1 : ∀ v ∈ cs, v.oneCell' = true) (B : Nat) (hBg : B ≤ g)
    (h : ∀ w', Hid (w'.heap[g]? = some (.cells cs.toArray t (0, 0))) → Below B w w' → wpList P ops Q rest (a.put o.dst (goInt (Nat.min sLen dLen))) w') :
    wpList P ops Q (o :: rest) a w := by
  subst hdp hsp
  refine wpList_plain hgd fun K hK => ?_
  have hrun := run_copy_rowN (P := P) w dT sT o.type elem m g 0 dLen dCap ad sLen sCap cur.toArray t cs hu hsz hg hn hsrc (by simp; omega) h1
  unfold Oper.wp
  simp [execOp, ho, resolve, invoke, builtin, hd, hs, hrun, Result.andThen]
  have e : cs ++ cur.drop cs.length = cs := by rw [hfit, List.drop_length, List.append_nil]
  rw [e]
  exact hK _ _ (h _ (show _ = _ by simpa using setRow_heap w g _ cs.toArray t _ hg) (below_setRow (Below.refl _ _) hBg _))

/-! ### plain: kids' numbers moved -/
def moveN (by' : Int) (n : Nd) : Nd := { n with kids := n.kids.map (· + by') }
theorem moveN_wf {b : Int} {n : Nd} (h : n.wf) : (moveN b n).wf := by
  obtain ⟨h1, h2, h3, h4⟩ := h
  exact ⟨h1, h2, by simpa [moveN] using h3, h4⟩
/-- The kids, the first j of them moved. -/
def movedK (b : Int) (kids : List Int) (j : Nat) : List Value := (kids.take j).map (fun z => Value.int .i64 (z + b)) ++ (kids.drop j).map (Value.int .i64)
theorem movedK_zero (b : Int) (kids : List Int) : movedK b kids 0 = intL.all kids := by simp [movedK, intL_all]
theorem movedK_end (b : Int) (n : Nd) : movedK b n.kids n.kids.length = intL.all (moveN b n).kids := by
  simp [movedK, intL_all, moveN]
theorem movedK_at (b : Int) (kids : List Int) (j : Nat) (h : j < kids.length) : (movedK b kids j)[j]? = some (.int .i64 kids[j]) := by
  unfold movedK
  rw [List.getElem?_append_right (by simp; omega)]
  simp [Nat.min_eq_left (Nat.le_of_lt h), h]
theorem movedK_set (b : Int) (kids : List Int) (j : Nat) (h : j < kids.length) : (movedK b kids j).set j (.int .i64 (kids[j] + b)) = movedK b kids (j + 1) := by
  unfold movedK
  have hl : ((kids.take j).map (fun z => Value.int .i64 (z + b))).length = j := by simp; omega
  rw [List.set_append_right _ _ (by omega), hl, Nat.sub_self, List.drop_eq_getElem_cons h, List.take_succ_eq_append_getElem h, List.map_append, List.map_cons, List.set_cons_zero, List.append_assoc]
  rfl
/-- A row of nodes of the call's own. -/
def NodesPost (l : List Nd) (w : World) (e : Ending) (w' : World) : Prop := ∃ v : Lt, e = .returned (.slice v.A v.ls.length v.c) ∧ v.ls.map Ln.nd = l ∧ TreeOwn w' (w.heap.size ≤ ·) v ∧ Below w.heap.size w w'
theorem own_fullN {w : World} {B g n m : Nat} {e : TypeId} {xs : List Value} (h : w.ownsRow B e m (.slice (some ⟨g, 0, none⟩) n n) n xs) : w.heap[g]? = some (.cells xs.toArray e (0, 0)) := by
  have hx := h.1
  rcases h.2 with ⟨hv, _⟩ | ⟨g', cap, cur, hv, _, hh, _, _, hs, ht⟩
  · cases hv
  · cases hv
    rw [List.take_of_length_le (by simp; omega)] at ht
    rw [← ht]; simpa using hh
theorem own_of_fullN {w : World} {B g n m : Nat} {e : TypeId} {xs : List Value} (h : w.heap[g]? = some (.cells xs.toArray e (0, 0))) (hn : xs.length = n * m) (hB : B ≤ g) (hm : n ≤ maxLen) : w.ownsRow B e m (.slice (some ⟨g, 0, none⟩) n n) n xs :=
  ⟨by omega, .inr ⟨g, n, _, rfl, hB, h, Nat.le_refl _, hm, by simp [hn], by simp [← hn]⟩⟩
theorem all_congr (l : List Ln) (k : Nat) (a b : Ln) (h : ndL.cells a = ndL.cells b) : ndL.all (l.set k a) = ndL.all (l.set k b) := by
  unfold Lay.all
  rw [List.flatMap_def, List.flatMap_def, List.map_set, List.map_set, h]
theorem all_moved (l : List Ln) (k : Nat) (hk : k < l.length) (b : Int) (A : Option Addr) (c : Nat) : (ndL.all l).set (k * 9 + 8) (.slice A l[k].nd.kids.length c) = ndL.all (l.set k ⟨moveN b l[k].nd, A, c⟩) := by
  rw [all_set8 l k hk]
  exact all_congr l k _ _ (by simp [ndL, moveN])
theorem blk_at9 {w : World} {g : Nat} {ls : List Ln} {T : TypeId} (h : w.heap[g]? = some (.cells (ndL.all ls).toArray T (0, 0))) (k : Nat) (hk : k < ls.length) :
    w.cell? ⟨g, k * 9, none⟩ = some (.int .u8 ls[k].nd.kind) ∧ w.cell? ⟨g, k * 9 + 1, none⟩ = some (.int .u64 ls[k].nd.s0) ∧ w.cell? ⟨g, k * 9 + 2, none⟩ = some (.int .u64 ls[k].nd.s1) ∧ w.cell? ⟨g, k * 9 + 3, none⟩ = some (.int .u64 ls[k].nd.s2) ∧ w.cell? ⟨g, k * 9 + 4, none⟩ = some (.int .u64 ls[k].nd.s3) ∧
      w.cell? ⟨g, k * 9 + 5, none⟩ = some (.string ls[k].nd.text) ∧ w.cell? ⟨g, k * 9 + 6, none⟩ = some (.int .i64 ls[k].nd.mn) ∧ w.cell? ⟨g, k * 9 + 7, none⟩ = some (.int .i64 ls[k].nd.mx) ∧ w.cell? ⟨g, k * 9 + 8, none⟩ = some (.slice ls[k].A ls[k].nd.kids.length ls[k].c) ∧ w.frozen? ⟨g, k * 9 + 8, none⟩ = false := by
  have hc : ∀ j u, j < 9 → (ndL.cells ls[k])[j]? = some u → w.cell? ⟨g, k * 9 + j, none⟩ = some u := fun j u hj hu => (row_cellAt h ((ndL.all_at ls k j hk hj).trans hu)).1
  exact ⟨hc 0 _ (by decide) rfl, hc 1 _ (by decide) rfl, hc 2 _ (by decide) rfl, hc 3 _ (by decide) rfl, hc 4 _ (by decide) rfl, hc 5 _ (by decide) rfl, hc 6 _ (by decide) rfl, hc 7 _ (by decide) rfl, hc 8 _ (by decide) rfl, by simp [World.frozen?, h]⟩
/-- What has been moved: the first k nodes. -/
def MovedRel (w : World) (H : Nat) (ls : List Ln) (b : Int) (i : Value) (wr : World) : Prop :=
  ∃ (k : Nat) (ls' : List Ln), k ≤ ls.length ∧ i = .int .i64 k ∧ Hid (ls'.length = ls.length) ∧ Hid (wr.heap[H]? = some (.cells (ndL.all ls').toArray 41 (0, 0))) ∧
    Hid (∀ j (h : j < ls'.length) (h2 : j < ls.length), j < k → ls'[j].nd = moveN b ls[j].nd ∧ NdOwn wr (H < ·) ls'[j]) ∧ Hid (∀ j (h : j < ls'.length) (h2 : j < ls.length), k ≤ j → ls'[j] = ls[j]) ∧ Hid (Below H w wr)

set_option maxRecDepth 100000 in
set_option maxHeartbeats 6400000 in
theorem moved_any (A : Option Addr) (c : Nat) (ls : List Ln) (b : Int) (S : Nat → Prop) (w : World) (hT : ndL.row w S A ls) (hl : ls.length ≤ 4294967296) (hne : 0 < ls.length) (hkl : ∀ l ∈ ls, l.nd.kids.length ≤ 4294967296) (hkz : ∀ l ∈ ls, ∀ z ∈ l.nd.kids, -4294967296 ≤ z ∧ z ≤ 4294967296) (hb : -4294967296 ≤ b ∧ b ≤ 4294967296) :
    Calls Tryd.prog 65 #[.slice A ls.length c, .int .i64 b] w (NodesPost (ls.map fun l => moveN b l.nd) w) := by
  obtain ⟨i0, hi, hz0, hz1, hz2⟩ := info_parts infoInt
  obtain ⟨j0, hj, hy0, hy1, hy2⟩ := info_parts infoNode
  have HT := Lib.hid hT; have HKL := Lib.hid hkl; have HKZ := Lib.hid hkz
  clear hT hkl hkz
  obtain ⟨ad, hA, _⟩ := HT.out.rowAt 0 _ (List.getElem?_eq_getElem (by rw [ndL.all_length]; show 0 < _ * 9; omega))
  subst hA
  unfold NodesPost
  go_enter Tryd.func65, Tryd.ntmps65
  have F1 := Lib.hid (show j0.bytes * ls.length ≤ 281474976710656 ∧ ls.length ≤ maxLen from ⟨by rw [hy2]; omega, by unfold maxLen; omega⟩)
  have hs9 : (Tryd.prog.info? 41).map (·.size) = some 9 := by kernel_rfl
  have HS9 := Lib.hid hs9; clear hs9
  have hsz1 : (Tryd.prog.info? 3).map (·.size) = some 1 := by kernel_rfl
  have HSZ1 := Lib.hid hsz1; clear hsz1
  have HSRC := Lib.hid (show ∀ w', Below w.heap.size w w' → ∀ j v, (ndL.all ls)[j]? = some v → w'.cell? (ad.add j) = some v from fun w' hb j v hv => by
    obtain ⟨ad', e, h⟩ := (HT.out.agree (below_all hb)).rowAt j v hv
    cases e; exact h)
  go_wp2_with (first
    | (at_make; refine wpList_make_full _ rfl _ _ 22 rfl w.heap.size 41 j0 _ 9 Tryd.underlying22 hj hy0 hy1 .i64 .i64 _ _ ls.length rfl rfl rfl rfl F1.out.1 F1.out.2 (Nat.le_refl _) ?_; intro w2 hown2 hgrow2; have HO2 := Lib.hid hown2; have HB2 := Lib.hid (show Below w.heap.size w w2 from (Below.refl _ _).grown hgrow2 (Nat.le_refl _) (fun k e => by cases e)); clear hown2 hgrow2)
    | (with_reducible refine wpList_copy_rowN rfl (.tmp 13) (.tmp 14) 22 22 rfl 41 9 Tryd.underlying22 HS9.out (some ⟨w.heap.size, 0, none⟩) ls.length ls.length (some ad) ls.length c rfl rfl w.heap.size rfl _ 41 (own_fullN HO2.out) (ndL.all ls) ?_ ad rfl (HSRC.out _ HB2.out) ?_ (ndL.all_one' _) w.heap.size (Nat.le_refl _) ?_))
  · rw [ndL.all_length]; show _ * 9 = _; simp [Nat.min_def]
  · rw [ndL.all_length]; have := HO2.out.1; show _ * 9 = _; omega
  intro w3 HX3 hb3
  have HB3 := Lib.hid (show Below w.heap.size w w3 from HB2.out.trans hb3)
  clear hb3 HB2
  have hz3 : w.heap.size < w3.heap.size := heap_lt' HX3.out
  clear HO2
  go_wp2_with fail
  go_loopw [18] (fun i wr => MovedRel w w.heap.size ls b i wr) (fun i _ => ls.length - (intOf i).toNat)
  case atStart => exact ⟨0, ls, by omega, rfl, Lib.hid rfl, HX3, Lib.hid (fun j _ _ hj => by omega), Lib.hid (fun j _ _ _ => rfl), HB3⟩
  case round =>
    clear HX3 HB3 hz3
    obtain ⟨k, ls', hk, rfl, HLN, HX, HOW, HRS, HB⟩ := hrel
    by_cases hlt : k < ls.length
    · have hlt' : k < ls'.length := by rw [HLN.out]; exact hlt
      have hHs : w.heap.size < wr.heap.size := heap_lt' HX.out
      have hRK := HRS.out k hlt' hlt (Nat.le_refl _)
      obtain ⟨x0, x1, x2, x3, x4, x5, x6, x7, x8, _⟩ := blk_at9 HX.out k hlt'
      rw [hRK] at x0 x1 x2 x3 x4 x5 x6 x7 x8
      have HRK := Lib.hid hRK; clear hRK
      have HKK := Lib.hid (HKL.out ls[k] (List.getElem_mem hlt))
      have HZZ := Lib.hid (HKZ.out ls[k] (List.getElem_mem hlt))
      have HWF := Lib.hid (ndWf HT.out k hlt)
      have HSUB := Lib.hid (show ∀ w', Below w.heap.size w w' → intL.row w' S ls[k].A ls[k].nd.kids from fun w' hb => ndSub (HT.out.agree (below_all hb)) k hlt)
      have HNM := Lib.hid (show (ndL.all ls').set (k * 9 + 8) (.slice ls[k].A ls[k].nd.kids.length ls[k].c) = ndL.all ls' from by
        have h := all_set8 ls' k hlt' ls[k].A ls[k].c
        rw [HRK.out] at h
        rw [h]
        congr 1
        apply List.ext_getElem?
        intro i
        rw [List.getElem?_set]
        by_cases e : k = i
        · subst e; rw [if_pos rfl, if_pos hlt', List.getElem?_eq_getElem hlt', HRK.out]
        · rw [if_neg e])
      have HMV := Lib.hid (show ∀ A c, (ndL.all ls').set (k * 9 + 8) (.slice A ls[k].nd.kids.length c) = ndL.all (ls'.set k ⟨moveN b ls[k].nd, A, c⟩) from fun A c => by
        have h := all_moved ls' k hlt' b A c
        rw [HRK.out] at h; exact h)
      have hkn : (moveN b ls[k].nd).kids.length = ls[k].nd.kids.length := by simp [moveN]
      have HKN := Lib.hid hkn; clear hkn
      have HME := Lib.hid (movedK_end b ls[k].nd)
      -- what the next round finds
      have HNX := Lib.hid (show ∀ (W : World) (A' : Option Addr) (c' : Nat), W.heap[w.heap.size]? = some (.cells (ndL.all (ls'.set k ⟨moveN b ls[k].nd, A', c'⟩)).toArray 41 (0, 0)) → (∀ x, x < wr.heap.size → x ≠ w.heap.size → W.heap[x]? = wr.heap[x]?) → NdOwn W (w.heap.size < ·) ⟨moveN b ls[k].nd, A', c'⟩ → Below w.heap.size w W → MovedRel w w.heap.size ls b (.int .i64 ((k : Int) + 1)) W from fun W A' c' h1 h2 h3 h4 => by
        refine ⟨k + 1, ls'.set k ⟨moveN b ls[k].nd, A', c'⟩, hlt, by go_num, Lib.hid (by rw [List.length_set]; exact HLN.out), Lib.hid h1, Lib.hid (fun j hj hj2 hjk => ?_), Lib.hid (fun j hj hj2 hjk => ?_), Lib.hid h4⟩
        · by_cases e : k = j
          · subst e
            rw [List.getElem_set_self]
            exact ⟨rfl, h3⟩
          · rw [List.getElem_set_ne e]
            have h5 := HOW.out j (by simpa using hj) hj2 (by omega)
            refine ⟨h5.1, ?_⟩
            have h6 := h5.2.mono (T := fun x => w.heap.size < x ∧ x < wr.heap.size) (fun x a b => ⟨b, a⟩)
            exact (h6.agree (fun x hx _ => h2 x hx.2 (by omega))).mono (fun x _ h => h.1)
        · rw [List.getElem_set_ne (by omega)]
          exact HRS.out j (by simpa using hj) hj2 (by omega))
      clear HRS HOW HRK HLN
      have i1 : (k : Int) < (ls.length : Int) := by omega
      have i2 : (0 : Int) ≤ (k : Int) := by omega
      generalize ls[k] = ln at *
      obtain ⟨nd, lA, lc⟩ := ln
      simp only at x0 x1 x2 x3 x4 x5 x6 x7 x8
      go_upto_region 6 with (fail)
      have HWK := Lib.hid (bx_new wr (.cells #[.int .u8 nd.kind, .int .u64 nd.s0, .int .u64 nd.s1, .int .u64 nd.s2, .int .u64 nd.s3, .string nd.text, .int .i64 nd.mn, .int .i64 nd.mx, .slice lA nd.kids.length lc] 41))
      have HWB := Lib.hid (bx1 wr (.cells #[.int .u8 nd.kind, .int .u64 nd.s0, .int .u64 nd.s1, .int .u64 nd.s2, .int .u64 nd.s3, .string nd.text, .int .i64 nd.mn, .int .i64 nd.mx, .slice lA nd.kids.length lc] 41))
      have HWZ := Lib.hid (show (wr.alloc (.cells #[.int .u8 nd.kind, .int .u64 nd.s0, .int .u64 nd.s1, .int .u64 nd.s2, .int .u64 nd.s3, .string nd.text, .int .i64 nd.mn, .int .i64 nd.mx, .slice lA nd.kids.length lc] 41)).heap.size = wr.heap.size + 1 from by simp)
      generalize wr.alloc (.cells #[.int .u8 nd.kind, .int .u64 nd.s0, .int .u64 nd.s1, .int .u64 nd.s2, .int .u64 nd.s3, .string nd.text, .int .i64 nd.mn, .int .i64 nd.mx, .slice lA nd.kids.length lc] 41) = W at *
      have HXW := Lib.hid (bx_kept HWB.out HX.out)
      have c8 := (HWB.out.cell (cellLt x8)).trans x8
      have c9 : W.frozen? ⟨w.heap.size, k * 9 + 8, none⟩ = false := by simp [World.frozen?, HXW.out]
      clear x0 x1 x2 x3 x4 x5 x6 x7 x8
      go_upto_region 7 with (fail)
      have HXS := Lib.hid (row_set (j := k * 9 + 8) HXW.out (.slice none 0 0))
      have HES := Lib.hid (show ∀ x, x ≠ w.heap.size → (W.setCell ⟨w.heap.size, k * 9 + 8, none⟩ (.slice none 0 0)).heap[x]? = W.heap[x]? from fun x hx => Below.heap_setCell _ _ _ _ hx)
      have HZS := Lib.hid (show (W.setCell ⟨w.heap.size, k * 9 + 8, none⟩ (.slice none 0 0)).heap.size = wr.heap.size + 1 from by simp [HWZ.out])
      have HBS := Lib.hid (show Below w.heap.size w (W.setCell ⟨w.heap.size, k * 9 + 8, none⟩ (.slice none 0 0)) from (Below.step HB.out HWB.out).setCell (p := ⟨w.heap.size, k * 9 + 8, none⟩) (Nat.le_refl _) _)
      generalize W.setCell ⟨w.heap.size, k * 9 + 8, none⟩ (.slice none 0 0) = W2 at *
      clear c8 c9
      have HK2 := Lib.hid ((HES.out wr.heap.size (by omega)).trans HWK.out)
      obtain ⟨_, _, _, _, _, _, _, _, y8, _⟩ := blk9 HK2.out
      have HOT := Lib.hid (show ∀ x, x < wr.heap.size → x ≠ w.heap.size → W2.heap[x]? = wr.heap[x]? from fun x h1 h2 => (HES.out x h2).trans (HWB.out.block x h1))
      have HWF' := Lib.hid (show nd.wf from HWF.out)
      have HKK' := Lib.hid (show nd.kids.length ≤ 4294967296 from HKK.out)
      have HZZ' := Lib.hid (show ∀ z ∈ nd.kids, -4294967296 ≤ z ∧ z ≤ 4294967296 from HZZ.out)
      have hkk := HKK'.out
      by_cases hk0 : nd.kids.length = 0
      · have e0 : ((nd.kids.length : Int) == 0) = true := by rw [beq_iff_eq]; omega
        as_aux_lemma =>
          go_wp2_with fail
          refine ⟨HNX.out W2 none 0 ?_ HOT.out ?_ HBS.out, by simp only [intOf]; omega⟩
          · have h := HMV.out none 0
            simp only [hk0] at h
            rw [← h]; exact HXS.out
          · refine ⟨moveN_wf HWF'.out, ?_⟩
            show OwnS W2 _ _ 1 none (moveN b nd).kids.length 0 (intL.all (moveN b nd).kids)
            have e : (moveN b nd).kids = [] := List.eq_nil_of_length_eq_zero (by have := HKN.out; simp only at this; omega)
            rw [e]; exact OwnS.nil _ _ _ _
      · have e0 : ((nd.kids.length : Int) == 0) = false := by rw [beq_eq_false_iff_ne]; omega
        have F3 := Lib.hid (show i0.bytes * nd.kids.length ≤ 281474976710656 ∧ nd.kids.length ≤ maxLen from ⟨by rw [hz2]; omega, by unfold maxLen; omega⟩)
        as_aux_lemma =>
          go_wp2_with (first
            | (at_make; refine wpList_make_full _ rfl _ _ 39 rfl W2.heap.size 3 i0 _ 1 Tryd.underlying39 hi hz0 hz1 .i64 .i64 _ _ nd.kids.length rfl rfl rfl rfl F3.out.1 F3.out.2 (Nat.le_refl _) ?_; intro w4 ho4 hg4; have HO4 := Lib.hid ho4; have HB4 := Lib.hid (show Below W2.heap.size W2 w4 from (Below.refl _ _).grown hg4 (Nat.le_refl _) (fun k e => by cases e)); clear ho4 hg4; obtain ⟨_, _, _, _, _, _, _, _, y8', _⟩ := blk9 (bx_kept HB4.out HK2.out))
            | (with_reducible refine wpList_copy_splice rfl (.tmp 35) (.tmp 37) 39 39 rfl 3 Tryd.underlying39 HSZ1.out (some ⟨W2.heap.size, 0, none⟩) lA nd.kids.length nd.kids.length nd.kids.length lc rfl rfl W2.heap.size 0 _ 3 (own_full HO4.out) (intL.all nd.kids) ?_ ?_ ?_ (intL.all_one' _) W2.heap.size w4 (Below.refl _ _) (Nat.le_refl _) ?_))
          · rw [intL.all_length]; show _ * 1 = _; simp [Nat.min_def]
          · intro _
            have hrow := (HSUB.out w4 (Below.step HBS.out HB4.out)).rowAt
            obtain ⟨ad, e, _⟩ := hrow 0 _ (List.getElem?_eq_getElem (by rw [intL.all_length]; show 0 < nd.kids.length * 1; omega))
            exact ⟨ad, e, fun j v hv => by obtain ⟨ad', e', h⟩ := hrow j v hv; rw [e] at e'; cases e'; exact h⟩
          · rw [intL.all_length]; rw [size_madeCells]; exact Nat.le_of_eq (Nat.mul_one _)
          intro w5 HC5 hb5
          have HL5 := Lib.hid (show w5.heap[W2.heap.size]? = some (.cells (movedK b nd.kids 0).toArray 3 (0, 0)) by
            have h := HC5.out
            rw [splice_all _ _ (by rw [intL.all_length, Array.length_toList, size_madeCells]; exact (Nat.mul_one _).symm)] at h
            rw [movedK_zero]; exact h)
          have HB5 := Lib.hid (HB4.out.trans hb5)
          clear hb5 HC5 HO4 HB4 y8'
          go_wp2_with fail
          go_loopw [41] (fun i wx => ∃ j : Nat, j ≤ nd.kids.length ∧ i = .int .i64 j ∧ Hid (wx.heap[W2.heap.size]? = some (.cells (movedK b nd.kids j).toArray 3 (0, 0))) ∧ Hid (Below W2.heap.size W2 wx)) (fun i _ => nd.kids.length - (intOf i).toNat)
          case atStart => exact ⟨0, by omega, rfl, HL5, HB5⟩
          case round =>
            clear HL5 HB5
            obtain ⟨j, hjb, rfl, HL6, HB6⟩ := hrel
            obtain ⟨w6, rfl⟩ : ∃ w6 : World, w6 = wr := ⟨_, rfl⟩
            by_cases hjl : j < nd.kids.length
            · have hz := HZZ'.out _ (List.getElem_mem hjl)
              obtain ⟨c4, c5⟩ := row_cellAt HL6.out (movedK_at b nd.kids j hjl)
              have HRN := Lib.hid (row_set (j := j) HL6.out (.int .i64 (nd.kids[j] + b)))
              rw [movedK_set] at HRN
              generalize nd.kids[j] = z at *
              have i3 : (j : Int) < (nd.kids.length : Int) := by omega
              have hb1 := hb.1; have hb2 := hb.2
              obtain ⟨hz1, hz2⟩ := hz
              go_wp2_with fail
              exact ⟨⟨j + 1, by omega, by go_num, HRN, Lib.hid (HB6.out.setCell (p := ⟨W2.heap.size, j, none⟩) (Nat.le_refl _) _)⟩, by simp only [intOf]; omega⟩
            · obtain rfl : j = nd.kids.length := by omega
              rw [HME.out] at HL6
              have HX6 := Lib.hid ((HB6.out.block w.heap.size (by have := HZS.out; omega)).trans HXS.out)
              obtain ⟨c6, c7⟩ := row_cellAt HX6.out (j := k * 9 + 8) (u := .slice none 0 0) (by rw [List.getElem?_set_self (by rw [ndL.all_length]; show _ < ls'.length * 9; omega)])
              go_wp2_with fail
              have hs6 := HB6.out.size; have hzs := HZS.out
              have hE6 : ∀ x, x ≠ w.heap.size → (w6.setCell ⟨w.heap.size, k * 9 + 8, none⟩ (.slice (some ⟨W2.heap.size, 0, none⟩) nd.kids.length nd.kids.length)).heap[x]? = w6.heap[x]? := fun x hx => Below.heap_setCell _ _ _ _ hx
              refine ⟨HNX.out _ (some ⟨W2.heap.size, 0, none⟩) nd.kids.length ?_ (fun x h1 h2 => (hE6 x h2).trans ((HB6.out.block x (by omega)).trans (HOT.out x h1 h2))) ?_ ((HBS.out.trans (HB6.out.mono (by omega))).setCell (p := ⟨w.heap.size, k * 9 + 8, none⟩) (Nat.le_refl _) _), by simp only [intOf]; omega⟩
              · have h := row_set (j := k * 9 + 8) HX6.out (.slice (some ⟨W2.heap.size, 0, none⟩) nd.kids.length nd.kids.length)
                rw [List.set_set] at h
                have h2 := HMV.out (some ⟨W2.heap.size, 0, none⟩) nd.kids.length
                rw [← h2]; exact h
              · refine ⟨moveN_wf HWF'.out, ?_⟩
                have hkn : (moveN b nd).kids.length = nd.kids.length := by simp [moveN]
                show OwnS _ _ _ 1 (some ⟨W2.heap.size, 0, none⟩) (moveN b nd).kids.length nd.kids.length (intL.all (moveN b nd).kids)
                rw [hkn]
                exact ⟨own_of_full ((hE6 _ (by omega)).trans HL6.out) (by rw [intL.all_length, hkn]; exact Nat.mul_one _) (Nat.zero_le _) (by unfold maxLen; omega), fun x hx => by cases hx; show w.heap.size < W2.heap.size; omega⟩
    · obtain rfl : k = ls.length := by omega
      as_aux_lemma =>
        go_wp2_with fail
        go_ret
        have hln := HLN.out
        refine ⟨⟨some ⟨w.heap.size, 0, none⟩, ls.length, ls', 0⟩, by show _ = Ending.returned (.slice _ ls'.length _); rw [hln]; rfl, ?_, ⟨?_, ?_, ?_⟩, HB.out⟩
        · apply List.ext_getElem
          · simp [hln]
          · intro j h1 h2
            simp only [List.getElem_map, List.length_map] at h1 h2 ⊢
            exact (HOW.out j (by simpa using h1) (by simpa using h2) (by simpa using h2)).1
        · show ls'.length ≤ _; omega
        · show OwnS _ _ _ _ _ ls'.length _ _
          rw [hln]
          exact (own_ownS (B := w.heap.size) (own_of_fullN HX.out (by rw [ndL.all_length, hln]; rfl) (Nat.le_refl _) F1.out.2))
        · intro l hl'
          obtain ⟨j, hj, rfl⟩ := List.mem_iff_getElem.1 hl'
          have hj2 : j < ls.length := by have h : j < ls'.length := hj; omega
          exact (HOW.out j hj hj2 hj2).2.mono (fun x _ h => Nat.le_of_lt h)
end Go.Proofs.YtdcgbcdmkhleoaaDoor
