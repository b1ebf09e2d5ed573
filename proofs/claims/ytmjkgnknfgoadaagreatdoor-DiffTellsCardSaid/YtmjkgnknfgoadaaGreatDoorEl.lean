/- The contract of the law's own (a grammar in new memory). -/
import Derived.Test.YtmjkgnknfgoadaaGreatDoorDv
import Derived.Deep.Cut
namespace Go.Proofs.YtmjkgnknfgoadaaGreatDoor
open Go.RowKit
set_option linter.unusedSimpArgs false
set_option linter.unusedVariables false
theorem own_belowA2 {w w' : World} {base : Nat} {e : TypeId} {size n c : Nat} {V : Option Addr} {xs : List Value} (h : w.ownsRow base e size (.slice V n c) n xs) (hb : Below w.heap.size w w') : w'.ownsRow base e size (.slice V n c) n xs :=
  own_agree h (fun x hx => hb.block x (own_blk h x hx).2)
def OwnRel (w : World) (H : Nat) (S : Nat → Prop) (A : Option Addr) (c : Nat) (ds : List Ld) (i : Value) (wr : World) : Prop :=
  ∃ (k : Nat) (V : Option Addr) (vc : Nat) (ds' : List Ld), k ≤ ds.length ∧ i = .int .i64 k ∧ Hid (ds'.length = k) ∧ Hid (ds'.map Ld.df = (ds.take k).map Ld.df) ∧
    Hid (wr.ownsRow (H + 3) 50 3 (.slice V k vc) k (dfL.all ds')) ∧ Hid (∃ Q : Nat → Nat → Prop, (∀ j (h : j < ds'.length), ds'[j].name.size ≤ 281474976710656 ∧ TreeOwn wr (Q j) ds'[j].t) ∧ (∀ j x, Q j x → H + 3 ≤ x ∧ x < wr.heap.size ∧ blkOf V ≠ some x) ∧ (∀ i j x, i ≠ j → Q i x → ¬ Q j x) ∧ ∀ j x, ds'.length ≤ j → ¬ Q j x) ∧
    Hid (wr.heap[H]? = some (.cells #[.slice A ds.length c] 24 (0, 0))) ∧ Hid (wr.heap[H + 1]? = some (.cells #[.slice none 0 0] 24 (0, 0))) ∧ Hid (wr.heap[H + 1 + 1]? = some (.cells #[.slice V k vc] 24 (0, 0))) ∧ Hid (Below H w wr) ∧ Hid (H + 3 ≤ wr.heap.size)
def KidRel (wr : World) (box : Obj) (V : Option Addr) (vc : Nat) (ls : List Ln) (i : Value) (w' : World) : Prop :=
  ∃ (k : Nat) (ls' : List Ln), k ≤ ls.length ∧ i = .int .i64 k ∧ Hid (ls'.length = ls.length) ∧ Hid (ls'.map Ln.nd = ls.map Ln.nd) ∧ Hid (w'.ownsRow (wr.heap.size + 1) 71 9 (.slice V ls.length vc) ls.length (ndL.all ls')) ∧
    Hid (∀ j (h : j < ls'.length), j < k → NdOwn w' (fun x => wr.heap.size + 1 ≤ x ∧ blkOf V ≠ some x) ls'[j]) ∧ Hid (∀ j (h : j < ls'.length) (h2 : j < ls.length), k ≤ j → ls'[j] = ls[j]) ∧ Hid (w'.heap[wr.heap.size]? = some box) ∧ Hid (Below wr.heap.size wr w')
set_option maxRecDepth 100000 in
set_option maxHeartbeats 12800000 in
theorem lawown_any (A : Option Addr) (c : Nat) (ds : List Ld) (S : Nat → Prop) (w : World) (hA : dfL.row w S A ds) (hl : ds.length ≤ 100000) (hm : ∀ d ∈ ds, DMod d) :
    Calls Tryz.prog 22 #[.agg #[.slice A ds.length c]] w (GramPost (ds.map Ld.df) w) := by
  obtain ⟨j0, hj, hy0, hy1, hy2⟩ := info_parts infoDef
  have hzc : (Value.agg #[.string ByteArray.empty, .slice none 0 0, .int .i64 0]).cells.size = 3 := rfl
  have HA := Lib.hid hA; have HM := Lib.hid hm
  clear hA hm
  unfold GramPost
  go_enter Tryz.func22, Tryz.ntmps22
  go_wp2_with fail
  go_loopw [4] (fun i wr => OwnRel w w.heap.size S A c ds i wr) (fun i _ => ds.length - (intOf i).toNat)
  case atStart =>
    refine ⟨0, none, 0, [], Nat.zero_le _, rfl, Lib.hid rfl, Lib.hid rfl, Lib.hid (World.ownsRow_nil _ _ _ _), Lib.hid ⟨fun _ _ => False, fun j h => by simp at h, fun _ _ h => h.elim, fun _ _ _ _ h => h.elim, fun _ _ _ h => h⟩, Lib.hid (bx_old (bx_old (bx_new w _))), Lib.hid ?_, Lib.hid ?_, Lib.hid (bx3 w _ _ _), Lib.hid (by simp)⟩
    · refine bx_old ?_
      have h := bx_new (w.alloc (.cells #[.slice A ds.length c] 24)) (.cells #[.slice none 0 0] 24)
      rw [World.size_alloc] at h; exact h
    · have h := bx_new ((w.alloc (.cells #[.slice A ds.length c] 24)).alloc (.cells #[.slice none 0 0] 24)) (.cells #[.slice none 0 0] 24)
      rw [World.size_alloc, World.size_alloc] at h; exact h
  case round =>
    obtain ⟨k, V, vc, ds', hk, rfl, HLN, HDF, HOW, HQ, HKA, HKR, HKO, HB, HZ⟩ := hrel
    obtain ⟨a1, _⟩ := blk1 HKA.out
    by_cases hlt : k < ds.length
    · have i1 : (k : Int) < (ds.length : Int) := by omega
      have i2 : (0 : Int) ≤ (k : Int) := by omega
      obtain ⟨ab, ao, rfl, _, _, y0, y1, y2⟩ := dfRow (HA.out.agree (below_all HB.out)) k hlt
      have z1 := cellLt y1
      have HDT := Lib.hid (dfSub (HA.out.agree (below_all HB.out)) k hlt)
      have HDM := Lib.hid (HM.out ds[k] (List.getElem_mem hlt))
      have HMEM := Lib.hid (List.getElem_mem hlt)
      have HTK := Lib.hid (show (ds.take (k + 1)).map Ld.df = (ds.take k).map Ld.df ++ [ds[k].df] from by rw [List.take_succ_eq_append_getElem hlt, List.map_append]; rfl)
      generalize ds[k] = d at *
      obtain ⟨n0, hn, hx0, hx1, hx2⟩ := info_parts infoNode
      obtain ⟨m0, hmi, hm0, hm1, hm2⟩ := info_parts infoInt
      have hzn : (Value.agg #[.int .u8 0, .int .u64 0, .int .u64 0, .int .u64 0, .int .u64 0, .string ByteArray.empty, .int .i64 0, .int .i64 0, .slice none 0 0]).cells.size = 9 := rfl
      have HOE := Lib.hid (show ((wr.alloc (.cells #[.slice d.t.A d.t.ls.length d.t.c, .int .i64 d.t.root] 48)).alloc (.cells #[] 71)).ownsRow (wr.heap.size + 1) 71 9 (.slice (some ⟨wr.heap.size + 1, 0, none⟩) 0 0) 0 [] from ⟨rfl, .inr ⟨wr.heap.size + 1, 0, #[], rfl, Nat.le_refl _, (by have h := bx_new (wr.alloc (.cells #[.slice d.t.A d.t.ls.length d.t.c, .int .i64 d.t.root] 48)) (.cells #[] 71); rw [World.size_alloc] at h; exact h), Nat.le_refl _, by unfold maxLen; omega, rfl, rfl⟩⟩)
      have HTW := Lib.hid (show ndL.row ((wr.alloc (.cells #[.slice d.t.A d.t.ls.length d.t.c, .int .i64 d.t.root] 48)).alloc (.cells #[] 71)) S d.t.A d.t.ls from HDT.out.2.below (bx2 wr _ _))
      have HDM2 := Lib.hid (show d.t.ls.length ≤ 4294967296 ∧ ∀ l ∈ d.t.ls, l.nd.kids.length ≤ 4294967296 from HDM.out)
      have FN := Lib.hid (show 0 + d.t.ls.length ≤ maxLen ∧ (0 + d.t.ls.length) * 96 ≤ 140737488355328 from by have := HDM2.out.1; exact ⟨by unfold maxLen; omega, by omega⟩)
      have HBX2 := Lib.hid (show ((wr.alloc (.cells #[.slice d.t.A d.t.ls.length d.t.c, .int .i64 d.t.root] 48)).alloc (.cells #[] 71)).heap[wr.heap.size]? = some (.cells #[.slice d.t.A d.t.ls.length d.t.c, .int .i64 d.t.root] 48 (0, 0)) from bx_old (bx_new wr _))
      go_wp2_with (at_builtin; refine wpList_append_at _ rfl (.tmp 21) (.tmp 23) 46 rfl (wr.heap.size + 1) 71 n0 _ 9 96 Tryz.underlying46 hn hx0 hx1 hx2 hzn (by decide) (some ⟨wr.heap.size + 1, 0, none⟩) 0 0 [] rfl HOE.out d.t.A d.t.ls.length d.t.c (ndL.all d.t.ls) rfl (ndL.all_length d.t.ls) HTW.out.rowAt (ndL.all_one' d.t.ls) FN.out.1 FN.out.2 (by simp) ?_; intro V6 vc6 w6 HO6 HG6 HA6)
      have HO6' := Lib.hid (show w6.ownsRow (wr.heap.size + 1) 71 9 (.slice V6 d.t.ls.length vc6) d.t.ls.length (ndL.all d.t.ls) from by have h := HO6.out; rw [Nat.zero_add, List.nil_append] at h; exact h)
      have HB6 := Lib.hid (show Below wr.heap.size wr w6 from (bx2 wr _ _).grown HG6.out (by simp; omega) (fun x hx => by have hx : some (wr.heap.size + 1) = some x := hx; injection hx with hx; omega))
      have HBX6 := Lib.hid (show w6.heap[wr.heap.size]? = some (.cells #[.slice d.t.A d.t.ls.length d.t.c, .int .i64 d.t.root] 48 (0, 0)) from (HG6.out.block _ (by simp; omega) (fun e => by have e : some wr.heap.size = some (wr.heap.size + 1) := e; injection e with e; omega)).trans HBX2.out)
      clear HO6 HG6 HA6 HOE HTW HBX2
      try simp only [Nat.zero_add]
      obtain ⟨wo, rfl⟩ : ∃ wo : World, wo = wr := ⟨_, rfl⟩
      go_loopw [7] (fun i w' => KidRel wo (.cells #[.slice d.t.A d.t.ls.length d.t.c, .int .i64 d.t.root] 48 (0, 0)) V6 vc6 d.t.ls i w') (fun i _ => d.t.ls.length - (intOf i).toNat)
      case atStart => exact ⟨0, d.t.ls, Nat.zero_le _, rfl, Lib.hid rfl, Lib.hid rfl, HO6', Lib.hid (fun j _ hj => by omega), Lib.hid (fun j _ _ _ => rfl), HBX6, HB6⟩
      case round =>
        clear HO6' HBX6 HB6
        obtain ⟨q, ls', hq, rfl, HLL, HND, HNO, HKO2, HRS, HBX, HBK⟩ := hrel
        by_cases hqt : q < d.t.ls.length
        · have j1 : (q : Int) < (d.t.ls.length : Int) := by omega
          have j2 : (0 : Int) ≤ (q : Int) := by omega
          have hb1 : d.t.ls.length ≤ 4294967296 := HDM2.out.1
          have hqt' : q < ls'.length := by rw [HLL.out]; exact hqt
          obtain ⟨g, rfl, hg1, hg2⟩ := own_some HNO.out (by omega)
          obtain ⟨_, _, _, _, _, _, _, _, x8⟩ := own_at9 HNO.out q hqt'
          have HRK := Lib.hid (HRS.out q hqt' hqt (Nat.le_refl _))
          rw [HRK.out] at x8
          have c9 := World.ownsRow.frozenAt HNO.out (q * 9 + 8)
          have HKK := Lib.hid (HDM2.out.2 d.t.ls[q] (List.getElem_mem hqt))
          have HWF := Lib.hid (ndWf HDT.out.2 q hqt)
          have HRI := Lib.hid (ndSub (HDT.out.2.below HBK.out) q hqt)
          have HOI := Lib.hid (show (wr.alloc (.cells #[] 3)).ownsRow wr.heap.size 3 1 (.slice (some ⟨wr.heap.size, 0, none⟩) 0 0) 0 [] from ⟨rfl, .inr ⟨wr.heap.size, 0, #[], rfl, Nat.le_refl _, bx_new wr _, Nat.le_refl _, by unfold maxLen; omega, rfl, rfl⟩⟩)
          have FI := Lib.hid (show 0 + d.t.ls[q].nd.kids.length ≤ maxLen ∧ (0 + d.t.ls[q].nd.kids.length) * 8 ≤ 140737488355328 from by have := HKK.out; exact ⟨by unfold maxLen; omega, by omega⟩)
          go_wp2_with (at_builtin; refine wpList_append_at _ rfl (.tmp 33) (.tmp 38) 54 rfl wr.heap.size 3 m0 (.int .i64 0) 1 8 Tryz.underlying54 hmi hm0 hm1 hm2 rfl (by decide) (some ⟨wr.heap.size, 0, none⟩) 0 0 [] rfl HOI.out d.t.ls[q].A d.t.ls[q].nd.kids.length d.t.ls[q].c (intL.all d.t.ls[q].nd.kids) rfl (intL.all_length _) (HRI.out.below (bx1 wr _)).rowAt (intL.all_one' _) FI.out.1 FI.out.2 (by simp) ?_; intro KV kvc w3 HK3 HG3 HA3; have HC3 := Lib.hid (show ∀ x, x < wr.heap.size → w3.heap[x]? = wr.heap[x]? from fun x hx => (HG3.out.block x (by simp; omega) (fun e => by have e : some x = some wr.heap.size := e; injection e with e; omega)).trans (Below.heap_alloc _ _ x hx)); have HN3 := Lib.hid (show w3.ownsRow (wo.heap.size + 1) 71 9 (.slice (some ⟨g, 0, none⟩) d.t.ls.length vc6) d.t.ls.length (ndL.all ls') from own_agree HNO.out (fun x hx => by cases hx; exact HC3.out g hg2)); have t1 := (own_at9 HN3.out q hqt').2.2.2.2.2.2.2.2; rw [HRK.out] at t1; have t2 := World.ownsRow.frozenAt HN3.out (q * 9 + 8))
          have hlw := heap_lt' HBX.out
          have hs3 : wr.heap.size + 1 ≤ w3.heap.size := by have h := HG3.out.size; simpa using h
          have HKI := Lib.hid (show w3.ownsRow wr.heap.size 3 1 (.slice KV d.t.ls[q].nd.kids.length kvc) d.t.ls[q].nd.kids.length (intL.all d.t.ls[q].nd.kids) from by have h := HK3.out; rw [Nat.zero_add, List.nil_append] at h; exact h)
          have hkeep : ∀ x, x < wr.heap.size → x ≠ g → (w3.setCell ⟨g, q * 9 + 8, none⟩ (.slice KV d.t.ls[q].nd.kids.length kvc)).heap[x]? = wr.heap[x]? := fun x h1 h2 => (Below.heap_setCell _ _ _ _ h2).trans (HC3.out x h1)
          have hk3 : ls'[q].nd = d.t.ls[q].nd := by rw [HRK.out]
          refine ⟨⟨q + 1, ls'.set q ⟨d.t.ls[q].nd, KV, kvc⟩, by omega, by go_num, Lib.hid (by rw [List.length_set]; exact HLL.out), Lib.hid ?_, Lib.hid ?_, Lib.hid ?_, Lib.hid ?_, Lib.hid ((hkeep _ hlw (by omega)).trans HBX.out), Lib.hid ?_⟩, by simp only [intOf]; omega⟩
          · rw [List.map_set, HND.out]
            apply List.ext_getElem?
            intro i
            rw [List.getElem?_set]
            by_cases e : q = i
            · subst e; rw [if_pos rfl, if_pos (by simpa using hqt)]; simp [hqt]
            · rw [if_neg e]
          · have h1 := (World.ownsRow.stored HN3.out (q * 9 + 8) (.slice KV d.t.ls[q].nd.kids.length kvc)).1
            have h2 := all_set8 ls' q hqt' KV kvc
            rw [hk3] at h2
            rw [h2] at h1
            exact h1
          · intro j hj hjk
            by_cases e : q = j
            · subst e
              rw [List.getElem_set_self]
              refine ⟨HWF.out, ?_⟩
              exact ((own_ownS HKI.out).agree ((set_agree w3 ⟨g, q * 9 + 8, none⟩ _).mono (fun x _ hx => by have hx : wr.heap.size ≤ x := hx; show x ≠ g; omega))).mono (fun x _ hx => by have hx : wr.heap.size ≤ x := hx; exact ⟨by omega, fun e => by have e : some g = some x := e; injection e with e; omega⟩)
            · rw [List.getElem_set_ne e]
              have hj' : j < ls'.length := by simpa using hj
              have h1 := (HKO2.out j hj' (by omega)).mono (T := fun x => wo.heap.size + 1 ≤ x ∧ g ≠ x ∧ x < wr.heap.size) (fun x h1 h2 => ⟨h2.1, fun e => h2.2 (by rw [e]; rfl), h1⟩)
              exact (h1.agree (fun x hx _ => hkeep x hx.2.2 (fun e => hx.2.1 e.symm))).mono (fun x _ hx => ⟨hx.1, fun e => hx.2.1 (by cases e; rfl)⟩)
          · intro j hj hj2 hjk
            rw [List.getElem_set_ne (by omega)]
            exact HRS.out j (by simpa using hj) hj2 (by omega)
          · exact Below.setCell (p := ⟨g, q * 9 + 8, none⟩) ((HBK.out.trans ((bx1 wr _).mono (by omega))).grown HG3.out (by simp; omega) (fun x hx => by have hx : some wr.heap.size = some x := hx; injection hx with hx; omega)) (by show wo.heap.size ≤ g; omega) _
        · obtain rfl : q = d.t.ls.length := by omega
          have HTO := Lib.hid (show TreeOwn wr (fun x => wo.heap.size + 1 ≤ x ∧ x < wr.heap.size) ⟨V6, vc6, ls', d.t.root⟩ from by
            have hb1 := HDM2.out.1
            refine ⟨by show ls'.length ≤ _; rw [HLL.out]; omega, ?_, fun l hl' => ?_⟩
            · show OwnS _ _ _ _ _ ls'.length vc6 _
              rw [HLL.out]
              exact (own_ownS HNO.out).mono (fun x h1 h2 => ⟨h2, h1⟩)
            · obtain ⟨j, hj, rfl⟩ := List.mem_iff_getElem.1 hl'
              exact (HKO2.out j hj (by rw [HLL.out] at hj; exact hj)).mono (fun x h1 h2 => ⟨h2.1, h1⟩))
          have HTD := Lib.hid (show Ld.df ⟨d.name, ⟨V6, vc6, ls', d.t.root⟩⟩ = d.df from by simp only [Ld.df, Lt.tr]; rw [HND.out])
          have hlw := heap_lt' HBX.out
          have HBw := Lib.hid (show Below w.heap.size w wr from HB.out.trans (HBK.out.mono (by have := HZ.out; omega)))
          have HOw := Lib.hid (own_belowA2 HOW.out HBK.out)
          have HKOw := Lib.hid (bx_kept HBK.out HKO.out); have HKAw := Lib.hid (bx_kept HBK.out HKA.out); have HKRw := Lib.hid (bx_kept HBK.out HKR.out)
          have HVL := Lib.hid (show ∀ x, blkOf V = some x → w.heap.size + 3 ≤ x ∧ x < wo.heap.size from fun x hx => own_blk HOW.out x hx)
          have HNM := Lib.hid ((HA.out.2 d HMEM.out).1)
          obtain ⟨p1, p2⟩ := blk1 HKOw.out
          obtain ⟨b1, _⟩ := blk1 HKAw.out
          obtain ⟨b2, b3, _, _⟩ := blk2 HBX.out
          have y0' := (HBK.out.cell (cellLt y0)).trans y0
          have z2 := cellLt y0'
          have hz := HZ.out
          have hzz : w.heap.size + 1 + 1 < wr.heap.size := by omega
          go_upto_region 11 with (fail)
          clear y0 y1 y2 z1 a1
          have HF := Lib.hid (show k + 1 ≤ maxLen ∧ (k + 1) * 48 ≤ 140737488355328 from ⟨by unfold maxLen; omega, by omega⟩)
          have HOW2 := Lib.hid (show (wr.drew.alloc (.cells #[.string d.name, .slice V6 d.t.ls.length vc6, .int .i64 d.t.root] 50)).ownsRow (w.heap.size + 3) 50 3 (.slice V k vc) k (dfL.all ds') from World.ownsRow.alloc (own_agree HOw.out (fun _ _ => rfl)) _)
          have HKB2 := Lib.hid (show (wr.drew.alloc (.cells #[.string d.name, .slice V6 d.t.ls.length vc6, .int .i64 d.t.root] 50)).heap[w.heap.size + 1 + 1]? = some (.cells #[.slice V k vc] 24 (0, 0)) from bx_old (w := wr.drew) (by have h := HKOw.out; exact h))
          go_region_law ((refine step_append_at (by rfl) (.tmp 43) (.tmp 55) 22 (by rfl) (w.heap.size + 3) 50 j0 (.agg #[.string ByteArray.empty, .slice none 0 0, .int .i64 0]) 3 48 Tryz.underlying22 hj hy0 hy1 hy2 hzc (by decide) V vc k (dfL.all ds') (by rfl) HOW2.out (some ⟨wr.heap.size, 0, none⟩) 1 1 [.string d.name, .slice V6 d.t.ls.length vc6, .int .i64 d.t.root] (by rfl) rfl (row_blk (bx_new wr.drew _)) (fun u hu => by simp only [List.mem_cons, List.not_mem_nil, or_false] at hu; rcases hu with rfl | rfl | rfl <;> rfl) HF.out.1 HF.out.2 (by simp; omega) ?_; intro V' vc' w7 HO7 HG7 HA7; have HK7 := Lib.hid ((HG7.out.block (w.heap.size + 1 + 1) (heap_lt' HKB2.out) (fun e => by have := HVL.out _ e.symm; omega)).trans HKB2.out); obtain ⟨t1, t2⟩ := blk1 HK7.out))
          all_goals
            clear p1 p2 b1 b2 b3 y0'
            go_wp2_with fail
            have ho7 := HO7.out
            rw [show dfL.all ds' ++ [Value.string d.name, .slice V6 d.t.ls.length vc6, .int .i64 d.t.root] = dfL.all (ds' ++ [⟨d.name, ⟨V6, vc6, ls', d.t.root⟩⟩]) by rw [dfL.all_append, dfL.all_one]; show _ = _ ++ [Value.string d.name, .slice V6 ls'.length vc6, .int .i64 d.t.root]; rw [HLL.out]] at ho7
            have hkeep : ∀ y, y < wr.heap.size → y ≠ w.heap.size + 1 + 1 → blkOf V ≠ some y → (w7.setCell ⟨w.heap.size + 1 + 1, 0, none⟩ (.slice V' (k + 1) vc')).heap[y]? = wr.heap[y]? := fun y h1 h2 h3 => (Below.heap_setCell _ _ _ _ h2).trans ((HG7.out.block y (by simp; omega) (fun e => h3 e.symm)).trans (by first | exact Below.heap_alloc wr _ y h1 | exact Below.heap_alloc wr.drew _ y h1))
            have hs7 : wr.heap.size + 1 ≤ w7.heap.size := by have h := HG7.out.size; simpa using h
            have hVV : ∀ x, x < wr.heap.size → blkOf V ≠ some x → blkOf V' ≠ some x := fun x h1 h2 e => by
              rcases HA7.out with h | h
              · exact h2 (h ▸ e)
              · rw [h] at e; injection e with e; simp at e; omega
            have h5 : Below w.heap.size w (w7.setCell ⟨w.heap.size + 1 + 1, 0, none⟩ (.slice V' (k + 1) vc')) := by
              refine Below.setCell (p := ⟨w.heap.size + 1 + 1, 0, none⟩) ?_ (by show w.heap.size ≤ w.heap.size + 1 + 1; omega) _
              have h6 : Below w.heap.size w (wr.alloc (.cells #[.string d.name, .slice V6 d.t.ls.length vc6, .int .i64 d.t.root] 50)) := HBw.out.trans ((bx1 wr _).mono (by omega))
              first
                | exact (h6.drew).grown HG7.out (by simp; omega) (fun y hy => by have := HVL.out y hy; omega)
                | exact (show Below w.heap.size w (wr.drew.alloc _) from ⟨h6.1, h6.2, h6.3, h6.4, h6.5⟩).grown HG7.out (by simp; omega) (fun y hy => by have := HVL.out y hy; omega)
            have hrel' : OwnRel w w.heap.size S (some ⟨ab, ao, none⟩) c ds (.int .i64 ((k : Int) + 1)) (w7.setCell ⟨w.heap.size + 1 + 1, 0, none⟩ (.slice V' (k + 1) vc')) := by
              refine ⟨k + 1, V', vc', ds' ++ [⟨d.name, ⟨V6, vc6, ls', d.t.root⟩⟩], by omega, by go_num, Lib.hid (by simp [HLN.out]), Lib.hid (by rw [List.map_append, HDF.out, HTK.out, ← HTD.out]; rfl), Lib.hid (own_agree ho7 (fun y hy => Below.heap_setCell _ _ _ _ (by have := (own_blk ho7 y hy).1; show y ≠ w.heap.size + 1 + 1; omega))), Lib.hid ?_, Lib.hid ((hkeep _ (by omega) (by omega) (fun e => by have := HVL.out _ e; omega)).trans HKAw.out), Lib.hid ((hkeep _ (by omega) (by omega) (fun e => by have := HVL.out _ e; omega)).trans HKRw.out), Lib.hid (set_blk1 HK7.out), Lib.hid h5, Lib.hid (by simp; omega)⟩
              obtain ⟨Q, hQ1, hQ2, hQ3, hQ4⟩ := HQ.out
              have hkl := HLN.out
              refine ⟨fun j x => if j = k then wo.heap.size + 1 ≤ x ∧ x < wr.heap.size else Q j x, fun j hj => ?_, fun j x hx => ?_, fun i j x hij hi hj => ?_, fun j x hj hx => ?_⟩
              · rw [List.length_append, List.length_singleton] at hj
                by_cases e1 : j = k
                · subst e1
                  rw [List.getElem_append_right (by omega)]
                  simp only [hkl, Nat.sub_self, List.getElem_singleton, if_true]
                  exact ⟨HNM.out, HTO.out.agree (fun x hx hxl => hkeep x hxl (by omega) (fun e => by have := HVL.out _ e; omega))⟩
                · rw [List.getElem_append_left (by omega)]
                  simp only [if_neg e1]
                  have h1 := hQ1 j (by omega)
                  exact ⟨h1.1, (h1.2.agree (fun x hx hxl => (hkeep x (by omega) (by have := (hQ2 j x hx).1; omega) (hQ2 j x hx).2.2).trans (HBK.out.block x hxl)))⟩
              · by_cases e1 : j = k
                · simp only [if_pos e1] at hx
                  exact ⟨by omega, by simp; omega, hVV x hx.2 (fun e => by have := HVL.out _ e; omega)⟩
                · simp only [if_neg e1] at hx
                  have h1 := hQ2 j x hx
                  exact ⟨h1.1, by simp; omega, hVV x (by omega) h1.2.2⟩
              · by_cases e1 : i = k
                · have e2 : ¬ j = k := fun h => hij (e1.trans h.symm)
                  simp only [if_pos e1] at hi
                  simp only [if_neg e2] at hj
                  have := hQ2 j x hj
                  omega
                · simp only [if_neg e1] at hi
                  by_cases e2 : j = k
                  · simp only [if_pos e2] at hj
                    have := hQ2 i x hi
                    omega
                  · simp only [if_neg e2] at hj
                    exact hQ3 i j x hij hi hj
              · rw [List.length_append, List.length_singleton] at hj
                have e1 : ¬ j = k := by omega
                simp only [if_neg e1] at hx
                exact hQ4 j x (by omega) hx
            refine ⟨?_, by simp only [intOf]; omega⟩
            first
              | exact hrel'
              | exact ⟨_, hrel', rfl⟩
    · obtain rfl : k = ds.length := by omega
      obtain ⟨p1, p2⟩ := blk1 HKO.out
      obtain ⟨s1, s2⟩ := blk1 HKR.out
      go_wp2_with fail
      refine bodyPost_ret (v := .agg #[.slice V ds.length vc]) (by simp [results, Tryz.results22, go_sem, s1]) rfl ?_
      have hag : ∀ T : Nat → Prop, (∀ x, T x → w.heap.size + 3 ≤ x) → Agree T wr (wr.setCell ⟨w.heap.size + 1, 0, none⟩ (.slice V ds.length vc)) := fun T hT x hx _ => Below.heap_setCell _ _ _ _ (by have := hT x hx; show x ≠ w.heap.size + 1; omega)
      refine ⟨V, vc, ds', by rw [HLN.out], by rw [HDF.out, List.take_length], ⟨by rw [HLN.out]; omega, ?_, ?_⟩, HB.out.setCell (p := ⟨w.heap.size + 1, 0, none⟩) (by simp) _⟩
      · rw [HLN.out]
        exact ((own_ownS HOW.out).agree (hag _ (fun _ h => h))).mono (fun x _ h => by have h : w.heap.size + 3 ≤ x := h; show w.heap.size ≤ x; omega)
      · obtain ⟨Q, hQ1, hQ2, hQ3, _⟩ := HQ.out
        exact ⟨Q, fun j hj => ⟨(hQ1 j hj).1, (hQ1 j hj).2.agree (hag _ (fun x hx => (hQ2 j x hx).1))⟩, fun j x hx => by have := (hQ2 j x hx).1; show w.heap.size ≤ x; omega, hQ3⟩
end Go.Proofs.YtmjkgnknfgoadaaGreatDoor
