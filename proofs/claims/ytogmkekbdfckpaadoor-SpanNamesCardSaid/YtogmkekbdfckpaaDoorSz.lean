/- The contract of bonsairef14.Parse. -/
import Derived.Test.YtogmkekbdfckpaaDoorSy
import Derived.Test.YtogmkekbdfckpaaDoorSq
import Derived.Test.YtogmkekbdfckpaaDoorNc
namespace Go.Proofs.YtogmkekbdfckpaaDoor
open Go.RowKit
set_option linter.unusedSimpArgs false
set_option linter.unusedVariables false

def lineCap (l : List UInt8) : Option Cap := match splitB 32 l with
  | [a, b, c] => some ⟨⟨a.toArray⟩, (numL b 4096).1, (numL c 4096).1⟩
  | _ => none
def lineHead (l : List UInt8) : Option Int := match splitB 32 l with
  | [_, b] => some (numL b 4096).1
  | _ => none
/-- What the reference reads out of the first lines. -/
def loN (ls : List (List UInt8)) : Nat → Outc
  | 0 => ⟨false, 0, []⟩
  | k + 1 => if k = 0 then (match lineHead (ls.getD k []) with | some n => ⟨true, n, (loN ls k).caps⟩ | none => loN ls k)
    else (match lineCap (ls.getD k []) with | some c => ⟨(loN ls k).ok, (loN ls k).to, (loN ls k).caps ++ [c]⟩ | none => loN ls k)
def loO (s : List UInt8) : Outc := loN (splitB 10 s) (splitB 10 s).length
def parseO (s : List UInt8) : Outc × Int := if mayO (loO s) 4096 = true ∧ textO (loO s) = s then (loO s, 0) else (⟨false, 0, []⟩, 4)
def ParsePost (w : World) (r : Outc × Int) (e : Ending) (w' : World) : Prop := ∃ v, e = .returned (.tuple #[v, .int .i64 r.2]) ∧ OutOwn w' w.heap.size v r.1 ∧ Below w.heap.size w w'

/-- All blocks but one are as they were. -/
structure But (b : Nat) (w w' : World) : Prop where
  size : w.heap.size ≤ w'.heap.size
  block : ∀ k, k < w.heap.size → k ≠ b → w'.heap[k]? = w.heap[k]?
theorem But.refl (b : Nat) (w : World) : But b w w := ⟨Nat.le_refl _, fun _ _ _ => rfl⟩
theorem But.trans {b : Nat} {w x y : World} (h : But b w x) (k : But b x y) : But b w y := ⟨Nat.le_trans h.size k.size, fun i hi hb => (k.block i (by have := h.size; omega) hb).trans (h.block i hi hb)⟩
theorem But.below {b : Nat} {w w' : World} (h : Below w.heap.size w w') : But b w w' := ⟨h.size, fun k hk _ => h.block k hk⟩
theorem But.alloc {b : Nat} {w x : World} (h : But b w x) (o : Obj) : But b w (x.alloc o) := h.trans (But.below (box1 x o))
theorem But.set {b i : Nat} {w x : World} (h : But b w x) (u : Value) : But b w (x.setCell ⟨b, i, none⟩ u) := h.trans ⟨by simp [World.setCell], fun k hk hb => Below.heap_setCell _ _ _ _ hb⟩
theorem But.row {b : Nat} {w w' : World} {B : Nat} {e : TypeId} {n : Nat} {v : Value} {xs : List Value} {size : Nat} (h : w.ownsRow B e size v n xs) (hb : But b w w') (hB : b < B) : w'.ownsRow B e size v n xs := by
  refine ⟨h.1, h.2.imp id ?_⟩
  rintro ⟨g, cap, cur, hv, hg, hh, r⟩
  exact ⟨g, cap, cur, hv, hg, (hb.block g (heap_lt hh) (by omega)).trans hh, r⟩
theorem But.rowAt {b : Nat} {w w' : World} {B : Nat} {A : Option Addr} {n c : Nat} {e : TypeId} {size : Nat} {xs : List Value} (h : w.ownsRow B e size (.slice A n c) n xs) (hb : But b w w') (hB : b < B) : RowAt w' A xs := RowAt.own (But.row h hb hB)

theorem map_two {ws : List ByteArray} {x : List (List UInt8)} (h : ws.map (fun b => b.data.toList) = x) : ws.length = x.length := by rw [← h]; simp
theorem ba_eta (b : ByteArray) : (⟨b.data.toList.toArray⟩ : ByteArray) = b := Lib.mk_data b

theorem loN_head_yes {ls : List (List UInt8)} {a b : ByteArray} (h : splitB 32 (ls.getD 0 []) = [a.data.toList, b.data.toList]) : loN ls 1 = ⟨true, (numL b.data.toList 4096).1, []⟩ := by
  simp only [loN, lineHead, h]; rfl
theorem loN_head_no {ls : List (List UInt8)} (h : (splitB 32 (ls.getD 0 [])).length ≠ 2) : loN ls 1 = ⟨false, 0, []⟩ := by
  simp only [loN, lineHead, if_true]
  split
  · rename_i heq; split at heq
    · rename_i h2; rw [h2] at h; exact absurd rfl h
    · cases heq
  · rfl
theorem loN_cap_yes {ls : List (List UInt8)} {k : Nat} (hk : k ≠ 0) {a b c : ByteArray} (h : splitB 32 (ls.getD k []) = [a.data.toList, b.data.toList, c.data.toList]) :
    loN ls (k + 1) = ⟨(loN ls k).ok, (loN ls k).to, (loN ls k).caps ++ [⟨a, (numL b.data.toList 4096).1, (numL c.data.toList 4096).1⟩]⟩ := by
  simp only [loN, if_neg hk, lineCap, h, ba_eta]
theorem loN_cap_no {ls : List (List UInt8)} {k : Nat} (hk : k ≠ 0) (h : (splitB 32 (ls.getD k [])).length ≠ 3) : loN ls (k + 1) = loN ls k := by
  simp only [loN, if_neg hk, lineCap]
  split
  · rename_i heq; split at heq
    · rename_i h2; rw [h2] at h; exact absurd rfl h
    · cases heq
  · rfl
theorem parse_yes {s : List UInt8} {o : Outc} (ho : loO s = o) (h1 : mayO o 4096 = true) (h2 : textO o = s) : parseO s = (o, 0) := by
  unfold parseO; rw [ho, if_pos ⟨h1, h2⟩]
theorem parse_no {s : List UInt8} {o : Outc} (ho : loO s = o) (h : mayO o 4096 = true → textO o ≠ s) : parseO s = (⟨false, 0, []⟩, 4) := by
  unfold parseO; rw [ho, if_neg (fun hh => h hh.1 hh.2)]

set_option maxRecDepth 100000 in
set_option maxHeartbeats 3200000 in
theorem rparse_any (s : ByteArray) (w : World) (hs : s.size ≤ 134217728) :
    Calls Tryd.prog 34 #[.string s] w (ParsePost w (parseO s.data.toList)) := by
  obtain ⟨i0, hi, hz0, hz1, hz2⟩ := info_parts infoCap
  have hzc : (Value.agg #[.string ByteArray.empty, .int .i64 0, .int .i64 0]).cells.size = 3 := rfl
  go_enter Tryd.func34, Tryd.ntmps34
  go_wp2_with fail
  refine (rcut_any s 10 _ (by omega)).mono ?_
  rintro e w1 ⟨ls, v, rfl, hls, hlz, hown, hb1⟩
  obtain ⟨T, tc, rfl⟩ := ownsRow_slice hown
  obtain ⟨k1, k2⟩ := kept2n hb1
  have HK2 := Lib.hid k2
  have HK1 := Lib.hid k1
  have HLS := Lib.hid hls
  have HLZ := Lib.hid hlz
  have hz1w : w.heap.size + 2 ≤ w1.heap.size := by have := hb1.size; simpa using this
  have HB1 := Lib.hid ((box2 w _ _).trans (hb1.mono (by simp; omega)))
  have HOT := Lib.hid (show w1.ownsRow (w.heap.size + 2) 9 1 (.slice T ls.length tc) ls.length (ls.map .string) by have := hown; unfold OwnStrs at this; simpa using this)
  have hln : ls.length ≤ s.size + 1 := by
    have h1 := map_two hls
    have h2 := splitB_len 10 s.data.toList
    rw [sz_data] at h2; omega
  clear hls hlz hown hb1 k1 k2
  go_wp2_with fail
  go_loopw [6, 7, 8] (fun i _ _ wr => ∃ (k : Nat) (ok : Bool) (tt : Int) (cs : List Cap) (C : Option Addr) (cp : Nat), k ≤ ls.length ∧ i = .int .i64 k ∧ cs.length ≤ k ∧ Hid (loN (ls.map fun b => b.data.toList) k = ⟨ok, tt, cs⟩) ∧ Hid (wr.heap[w.heap.size + 1]? = some (.cells #[.bool ok, .int .i64 tt, .slice C cs.length cp] 24 (0, 0))) ∧ Hid (OwnCaps wr w1.heap.size (.slice C cs.length cp) cs) ∧ Hid (But (w.heap.size + 1) w1 wr) ∧ Hid (∀ c ∈ cs, c.name.size ≤ 281474976710656) ∧ Hid (Below w.heap.size w wr)) (fun i _ _ _ => ls.length - (intOf i).toNat)
  case atStart => exact ⟨0, false, 0, [], none, 0, by omega, rfl, by simp, Lib.hid rfl, HK2, Lib.hid (World.ownsRow_nil _ _ _ _), Lib.hid (But.refl _ _), Lib.hid (by simp), HB1⟩
  case round =>
    obtain ⟨k, ok, tt, cs, C, cp, hk, rfl, hck, HLO, HBX, HO, HBT, HNM, HB⟩ := hrel
    have hzr := HBT.out.size
    by_cases hlt : k < ls.length
    · obtain ⟨ab, ao, hT, x1⟩ := strs_caps (But.rowAt HOT.out HBT.out (by omega)) k hlt
      subst hT
      have hsk := HLZ.out _ (List.getElem_mem hlt)
      have HGD := Lib.hid (show (ls.map fun b => b.data.toList).getD k [] = ls[k].data.toList by simp [List.getD, hlt])
      go_wp2_with fail
      refine (rcut_any ls[k] 32 _ (by omega)).mono ?_
      rintro e w2 ⟨ws, v, rfl, hws, hwz, hown, hb2⟩
      obtain ⟨P, pc, rfl⟩ := ownsRow_slice hown
      have HWS := Lib.hid hws
      have HWZ := Lib.hid hwz
      have HRP := Lib.hid (RowAt.own (n := ws.length) hown)
      have hz2w := hb2.size
      have HBX2 := Lib.hid ((hb2.block _ (by omega)).trans HBX.out)
      have HO2 := Lib.hid (show OwnCaps w2 w1.heap.size (.slice C cs.length cp) cs from But.row HO.out (But.below (b := w.heap.size + 1) hb2) (by omega))
      have HBT2 := Lib.hid (HBT.out.trans (But.below hb2))
      have HB2 := Lib.hid (HB.out.trans (hb2.mono HB.out.size))
      clear hws hwz hown hb2 x1
      obtain ⟨b1, b2, b3, b4, b5, b6⟩ := blk3 HBX2.out
      by_cases hk0 : k = 0
      · subst hk0
        have hl0 : (⟨ok, tt, cs⟩ : Outc) = ⟨false, 0, []⟩ := HLO.out.symm
        by_cases h2 : ws.length = 2
        · obtain ⟨a, b, rfl⟩ : ∃ a b, ws = [a, b] := by
            match ws, h2 with
            | [a, b], _ => exact ⟨a, b, rfl⟩
          clear h2
          have HN := Lib.hid (loN_head_yes (ls := ls.map fun b => b.data.toList) (a := a) (b := b) (by rw [HGD.out, ← HWS.out]; rfl))
          obtain ⟨pb, po, hP, y1⟩ := strs_caps HRP.out 1 (by simp)
          subst hP
          have hbz : b.size ≤ 281474976710656 := by have := HWZ.out b (by simp); omega
          injection hl0 with q1 q2 q3
          subst q1 q2 q3
          go_wp2_with (first | (go_at_call 49; refine (rnum_any b 4096 _ hbz (by omega) (by omega)).mono ?_; rintro e w' ⟨rfl, rfl⟩))
          exact ⟨⟨1, true, _, [], C, cp, by omega, rfl, by simp, Lib.hid HN.out, Lib.hid (heap_set (heap_set HBX2.out)), Lib.hid ((HO2.out.set (a := ⟨w.heap.size + 1, 0, none⟩) (by simp; omega) _).set (a := ⟨w.heap.size + 1, 1, none⟩) (by simp; omega) _), Lib.hid ((HBT2.out.set _).set _), HNM, Lib.hid ((HB2.out.setCell (p := ⟨w.heap.size + 1, 0, none⟩) (by simp) _).setCell (p := ⟨w.heap.size + 1, 1, none⟩) (by simp) _)⟩, by simp [intOf]; omega⟩
        · have HN := Lib.hid (loN_head_no (ls := ls.map fun b => b.data.toList) (by rw [HGD.out, ← HWS.out]; simpa using h2))
          have e2 : ((ws.length : Int) == 2) = false := by simp only [beq_eq_false_iff_ne]; omega
          have HL0 := Lib.hid (show (⟨ok, tt, cs⟩ : Outc) = ⟨false, 0, []⟩ from HLO.out.symm)
          clear h2
          go_wp2_with fail
          refine ⟨⟨1, ok, tt, cs, C, cp, by omega, rfl, by omega, Lib.hid (by rw [HN.out, HL0.out]), HBX2, HO2, HBT2, HNM, HB2⟩, by simp [intOf]; omega⟩
      · have ek0 : ((k : Int) == 0) = false := by simp only [beq_eq_false_iff_ne]; omega
        have hkp : (0 : Int) < (k : Int) := by omega
        by_cases h3 : ws.length = 3
        · obtain ⟨a, b, c, rfl⟩ : ∃ a b c, ws = [a, b, c] := by
            match ws, h3 with
            | [a, b, c], _ => exact ⟨a, b, c, rfl⟩
          clear h3
          have HN := Lib.hid (loN_cap_yes (ls := ls.map fun b => b.data.toList) (a := a) (b := b) (c := c) hk0 (by rw [HGD.out, ← HWS.out]; rfl))
          obtain ⟨pb, po, hP, y0⟩ := strs_caps HRP.out 0 (by simp)
          subst hP
          obtain ⟨_, _, hP, y1⟩ := strs_caps HRP.out 1 (by simp)
          cases hP
          obtain ⟨_, _, hP, y2⟩ := strs_caps HRP.out 2 (by simp)
          cases hP
          simp only [List.getElem_cons_zero, List.getElem_cons_succ, Nat.add_zero] at y0 y1 y2
          have hpz : pb < w2.heap.size := cellLt y0
          have hbz : b.size ≤ 281474976710656 := by have := HWZ.out b (by simp); omega
          have hcz : c.size ≤ 281474976710656 := by have := HWZ.out c (by simp); omega
          have haz : a.size ≤ 281474976710656 := by have := HWZ.out a (by simp); omega
          have hwz2 : w.heap.size + 1 < w2.heap.size := by omega
          have hrow := row_new3 (w2.alloc (.cells #[.string a, .int .i64 (numL b.data.toList 4096).1, .int .i64 (numL c.data.toList 4096).1] 33)) (.string a) (.int .i64 (numL b.data.toList 4096).1) (.int .i64 (numL c.data.toList 4096).1) 33
          simp only [World.size_alloc] at hrow
          have HROW := Lib.hid (show RowAt _ _ (cellsOf [⟨a, (numL b.data.toList 4096).1, (numL c.data.toList 4096).1⟩]) from hrow); clear hrow
          have HOX := Lib.hid (show w2.ownsRow w1.heap.size 33 3 (.slice C cs.length cp) cs.length (cellsOf cs) from HO2.out)
          generalize hf : numL b.data.toList 4096 = F at *
          generalize ht : numL c.data.toList 4096 = G at *
          obtain ⟨f1, f2⟩ := F
          obtain ⟨t1, t2⟩ := G
          have HNb := Lib.hid (fun w => rnum_any b 4096 w hbz (by omega) (by omega))
          have HNc := Lib.hid (fun w => rnum_any c 4096 w hcz (by omega) (by omega))
          rw [hf] at HNb
          rw [ht] at HNc
          clear hf ht
          simp only at HNb HNc HROW HN
          go_wp2_with fail
          refine (HNb.out _).mono ?_
          rintro e w' ⟨rfl, rfl⟩
          go_wp2_with fail
          refine (HNc.out _).mono ?_
          rintro e w' ⟨rfl, rfl⟩
          go_wp2_with (first | (at_builtin; refine wpList_append_row _ rfl (.tmp 68) (.tmp 70) _ rfl w1.heap.size 33 i0 _ 3 32 Tryd.underlying22 hi hz0 hz1 hz2 hzc (by decide) _ _ _ rfl (World.ownsRow.alloc (World.ownsRow.alloc HOX.out _) _) (some ⟨w2.heap.size + 1, 0, none⟩) 1 1 (cellsOf [⟨a, f1, t1⟩]) rfl rfl HROW.out (cellsOf_one _) ?_ ?_ ?_ ?_))
          · unfold maxLen; omega
          · omega
          · simp; omega
          intro v3 w3 hown3 hgrow3
          have HB3 := Lib.hid (((HB2.out.alloc HB2.out.size (.cells #[.string a, .int .i64 f1, .int .i64 t1] 33)).alloc (by simp; have := HB2.out.size; omega) (.cells #[.string a, .int .i64 f1, .int .i64 t1] 33)).grown hgrow3 (by simp; have := HB2.out.size; omega) (fun k e => by have := (World.ownsRow.lt HOX.out k e).1; omega))
          have HBX3 := Lib.hid ((hgrow3.block (w.heap.size + 1) (by simp; omega) (fun e => by have := (World.ownsRow.lt HOX.out _ e.symm).1; omega)).trans (heap_alloc_old (heap_alloc_old HBX2.out)))
          have HBT3 := Lib.hid (show But (w.heap.size + 1) w1 w3 from ⟨by have h1 := HBT2.out.size; have h2 := hgrow3.size; simp at h2; omega, fun j hj hb => (hgrow3.block j (by have h1 := HBT2.out.size; simp; omega) (fun e => by have := (World.ownsRow.lt HOX.out _ e.symm).1; omega)).trans
            (((Below.heap_alloc _ _ _ (by have h1 := HBT2.out.size; simp; omega)).trans (Below.heap_alloc _ _ _ (by have h1 := HBT2.out.size; omega))).trans (HBT2.out.block j hj hb))⟩)
          obtain ⟨C3, c3, rfl⟩ := ownsRow_slice hown3
          have HO3 := Lib.hid (show OwnCaps w3 w1.heap.size (.slice C3 (cs ++ [(⟨a, f1, t1⟩ : Cap)]).length c3) (cs ++ [(⟨a, f1, t1⟩ : Cap)]) by unfold OwnCaps; rw [cellsOf_append, List.length_append]; exact hown3)
          have hlc : (cs ++ [(⟨a, f1, t1⟩ : Cap)]).length = cs.length + 1 := by simp
          have HLC := Lib.hid hlc; clear hlc
          clear hown3 hgrow3 b1 b2 b3 b4 b5 b6
          obtain ⟨d1, d2, d3, d4, d5, d6⟩ := blk3 HBX3.out
          go_wp2_with fail
          exact ⟨⟨k + 1, ok, tt, cs ++ [⟨a, f1, t1⟩], C3, c3, by omega, by go_num, by have := HLC.out; omega, Lib.hid (by rw [HN.out, HLO.out]), Lib.hid (by rw [HLC.out]; exact heap_set HBX3.out), Lib.hid (HO3.out.set (a := ⟨w.heap.size + 1, 2, none⟩) (by simp; omega) _), Lib.hid (HBT3.out.set _),
            Lib.hid (fun x hx => by
              rcases List.mem_append.1 hx with hx | hx
              · exact HNM.out x hx
              · simp only [List.mem_singleton] at hx; subst hx; exact haz), Lib.hid (HB3.out.setCell (p := ⟨w.heap.size + 1, 2, none⟩) (by simp) _)⟩, by simp [intOf]; omega⟩
        · have HN := Lib.hid (loN_cap_no (ls := ls.map fun b => b.data.toList) hk0 (by rw [HGD.out, ← HWS.out]; simpa using h3))
          have e3 : ((ws.length : Int) == 3) = false := by simp only [beq_eq_false_iff_ne]; omega
          clear h3
          go_wp2_with fail
          exact ⟨⟨k + 1, ok, tt, cs, C, cp, by omega, by go_num, by omega, Lib.hid (by rw [HN.out, HLO.out]), HBX2, HO2, HBT2, HNM, HB2⟩, by simp [intOf]; omega⟩
    · have hk2 : k = ls.length := by omega
      subst hk2
      have HLE := Lib.hid (show loO s.data.toList = ⟨ok, tt, cs⟩ by unfold loO; rw [← HLS.out, List.length_map]; exact HLO.out)
      obtain ⟨b1, b2, b3, b4, b5, b6⟩ := blk3 HBX.out
      go_wp2_with fail
      refine (rsshow_any ⟨ok, tt, cs⟩ C cp _ (OwnCaps.row HO.out) HNM.out (by simp only; omega)).mono ?_
      rintro e w2 ⟨t, rfl, ht, hb2⟩
      have HB2 := Lib.hid (HB.out.trans (hb2.mono HB.out.size))
      obtain ⟨c1, c2, c3, c4, c5, c6⟩ := blk3 ((hb2.block _ (by omega)).trans ((HBT.out.block _ (by omega) (by omega)).trans HK1.out))
      obtain ⟨d1, d2, d3, d4, d5, d6⟩ := blk3 ((hb2.block _ (by omega)).trans HBX.out)
      have HOF := Lib.hid (show OwnCaps w2 w1.heap.size (.slice C cs.length cp) cs from But.row HO.out (But.below (b := w.heap.size + 1) hb2) (by omega))
      clear hb2 b1 b2 b3 b4 b5 b6
      cases hm : mayO ⟨ok, tt, cs⟩ 4096
      · have HN := Lib.hid (parse_no HLE.out (fun h => by rw [hm] at h; cases h))
        rw [show_no hm]
        clear ht hm
        go_wp2_with fail
        exact bodyPost_ret (v := .tuple #[outV none 0 ⟨false, 0, []⟩, .int .i64 4]) (by simp [results, Tryd.results34, go_sem, c1, c2, c3]) rfl (by
          unfold ParsePost; rw [HN.out]
          exact ⟨_, rfl, OutOwn.fail _ _, set3b HB2.out (by omega)⟩)
      · have hsh : showO ⟨ok, tt, cs⟩ = (textO ⟨ok, tt, cs⟩, 0) := by simp [showO, hm]
        rw [hsh] at ht ⊢
        simp only at ht ⊢
        by_cases hts : t = s
        · have HN := Lib.hid (parse_yes HLE.out hm (by rw [← ht, hts]))
          have e1 : (t.toList == s.toList) = true := by simp [hts]
          clear ht hm hsh hts
          go_wp2_with fail
          exact bodyPost_ret (v := .tuple #[outV C cp ⟨ok, tt, cs⟩, .int .i64 0]) (by simp [results, Tryd.results34, go_sem, c1, c2, c3]) rfl (by
            unfold ParsePost; rw [HN.out]
            exact ⟨_, rfl, ⟨C, cp, rfl, set3' HOF.out (by omega) (by omega)⟩, set3b HB2.out (by omega)⟩)
        · have HN := Lib.hid (parse_no HLE.out (fun _ h => hts (str_ext (by rw [ht, h]))))
          have e1 : (t.toList == s.toList) = false := by simpa [toList_inj] using hts
          clear ht hm hsh hts
          go_wp2_with fail
          exact bodyPost_ret (v := .tuple #[outV none 0 ⟨false, 0, []⟩, .int .i64 4]) (by simp [results, Tryd.results34, go_sem, c1, c2, c3]) rfl (by
            unfold ParsePost; rw [HN.out]
            exact ⟨_, rfl, OutOwn.fail _ _, set3b HB2.out (by omega)⟩)
end Go.Proofs.YtogmkekbdfckpaaDoor
