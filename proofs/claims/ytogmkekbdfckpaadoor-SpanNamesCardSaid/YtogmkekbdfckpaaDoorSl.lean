/- The contracts of Texts: package span and the reference. -/
import Derived.Test.YtogmkekbdfckpaaDoorSh
import Derived.Deep.RegionHeld3
namespace Go.Proofs.YtogmkekbdfckpaaDoor
open Go.RowKit

theorem infoStr : (Tryd.prog.info? 9).map (fun i => (i.zero, i.size, i.bytes)) = some (some (.string ⟨#[]⟩), 1, 16) := by kernel_rfl

/-- The pieces, as byte arrays. -/
def cutB (input : ByteArray) (c : Cap) : ByteArray := input.extract c.frm.toNat c.to.toNat
def textsL (l : List Cap) (input name : ByteArray) : List ByteArray := (l.filter fun c => decide (c.name = name)).map (cutB input)
def textsB (o : Outc) (input name : ByteArray) : List ByteArray := if mayO o input.size then textsL o.caps input name else []
theorem textsL_snoc (l : List Cap) (c : Cap) (input name : ByteArray) : textsL (l ++ [c]) input name = textsL l input name ++ (if c.name = name then [cutB input c] else []) := by
  unfold textsL; rw [List.filter_append, List.map_append]; by_cases h : c.name = name <;> simp [h]
theorem mayO_false_caps {o : Outc} {n : Int} (h : mayO o n = true) (hk : o.ok = false) : o.caps = [] := by
  simp [mayO, hk] at h; exact h.2.2
theorem mayO_caps {o : Outc} {n : Int} (h : mayO o n = true) : o.to ≤ n ∧ o.caps.length ≤ 65536 ∧ ∀ c ∈ o.caps, mayL c.name.data.toList = true ∧ 0 ≤ c.frm ∧ c.frm ≤ c.to ∧ c.to ≤ n := by
  obtain ⟨ok, to, l⟩ := o
  cases ok
  · have := mayO_false_caps h rfl; simp only at this; subst this
    simp [mayO] at h; exact ⟨by show to ≤ n; omega, by simp, by simp⟩
  · simp only [mayO, Bool.and_eq_true, decide_eq_true_eq, if_true, List.all_eq_true, capOk] at h
    refine ⟨by show to ≤ n; omega, by show l.length ≤ _; omega, fun c hc => ?_⟩
    have := h.2.2.2.1 c hc
    exact ⟨this.1, by omega, by omega, by omega⟩

theorem row_new1 (w : World) (x : Value) (T : TypeId) : RowAt (w.alloc (.cells #[x] T)) (some ⟨w.heap.size, 0, none⟩) [x] := fun j u hu => by
  refine ⟨_, rfl, ?_⟩
  have h := heap_alloc_new w (.cells #[x] T)
  match j, hu with
  | 0, hu => simp at hu; subst hu; rw [Addr.add_zero']; simp only [World.cell?, h]; rfl
  | n + 1, hu => simp at hu
theorem one_strs (ss : List ByteArray) : ∀ u ∈ ss.map Value.string, u.oneCell' = true := by
  intro u hu; obtain ⟨s, _, rfl⟩ := List.mem_map.1 hu; rfl
def OwnStrs (w : World) (B : Nat) (v : Value) (l : List ByteArray) : Prop := w.ownsRow B 9 1 v l.length (l.map .string)

theorem textsL_len (l : List Cap) (input name : ByteArray) : (textsL l input name).length ≤ l.length := by
  unfold textsL; rw [List.length_map]; exact List.length_filter_le _ _

set_option maxRecDepth 100000 in
set_option maxHeartbeats 1600000 in
theorem texts_any (o : Outc) (input name : ByteArray) (A : Option Addr) (c : Nat) (w : World) (hA : RowAt w A (cellsOf o.caps)) (hs : ∀ c ∈ o.caps, c.name.size ≤ 281474976710656) (hl : o.caps.length ≤ 281474976710656) (hi : input.size ≤ 281474976710656) :
    Calls Tryd.prog 23 #[outV A c o, .string input, .string name] w fun e w' => ∃ v, e = .returned v ∧ OwnStrs w' w.heap.size v (textsB o input name) ∧ Below w.heap.size w w' := by
  obtain ⟨i0, hI, hz0, hz1, hz2⟩ := info_parts infoStr
  cases hm : mayO o input.size
  · have HT := Lib.hid (show textsB o input name = [] by simp [textsB, hm])
    have HM := Lib.hid hm; clear hm
    have HA := Lib.hid (hA.below (box1 w (.cells #[.bool o.ok, .int .i64 o.to, .slice A o.caps.length c] 24)))
    go_enter Tryd.func23, Tryd.ntmps23
    go_wp2_with (first | (go_at_call 13; refine (smay_any o input.size A c _ HA.out hs hl).mono ?_; rintro e w1 ⟨he, hb⟩; rw [HM.out] at he; subst he))
    go_ret
    exact ⟨_, rfl, by rw [HT.out]; exact World.ownsRow_nil _ _ _ _, (box1 _ _).trans (hb.mono (by simp))⟩
  · have HT := Lib.hid (show textsB o input name = textsL o.caps input name by simp [textsB, hm])
    have HC := Lib.hid (mayO_caps hm)
    have HM := Lib.hid hm; clear hm
    have HA := Lib.hid (hA.below (box1 w (.cells #[.bool o.ok, .int .i64 o.to, .slice A o.caps.length c] 24)))
    go_enter Tryd.func23, Tryd.ntmps23
    go_wp2_with (first | (go_at_call 13; refine (smay_any o input.size A c _ HA.out hs hl).mono ?_; rintro e w1 ⟨he, hb⟩; rw [HM.out] at he; subst he; obtain ⟨b1, b2, b3, _, _, _⟩ := blk3 (kept1n hb); have HB := Lib.hid ((box1 w _).trans (hb.mono (by simp))); clear hb))
    clear b1 b2 b3
    go_loopw [7, 18] (fun v i wr => ∃ k : Nat, k ≤ o.caps.length ∧ i = .int .i64 k ∧ OwnStrs wr w.heap.size v (textsL (o.caps.take k) input name) ∧ Below w.heap.size w wr) (fun _ i _ => o.caps.length - (intOf i).toNat)
    case atStart => exact ⟨0, by omega, rfl, by simpa [textsL, OwnStrs] using World.ownsRow_nil w1 w.heap.size 9 1, HB.out⟩
    case round =>
      clear HB
      obtain ⟨k, hk, rfl, hown, hb⟩ := hrel
      have HO := Lib.hid hown; clear hown
      have HB := Lib.hid hb; clear hb
      by_cases hlt : k < o.caps.length
      · obtain ⟨ab, ao, rfl, x1, x2, x3⟩ := (hA.below HB.out).caps k hlt
        have hcm := HC.out.2.2 _ (List.getElem_mem hlt)
        obtain ⟨_, f0, f1, f2⟩ := hcm
        have hin := hi
        have HTk := Lib.hid (show textsL (o.caps.take (k + 1)) input name = _ by rw [List.take_succ_eq_append_getElem hlt, textsL_snoc])
        by_cases hn : o.caps[k].name = name
        · have e1 : (o.caps[k].name.toList == name.toList) = true := by simp [hn]
          have HTk2 := Lib.hid (show textsL (o.caps.take (k + 1)) input name = textsL (o.caps.take k) input name ++ [cutB input o.caps[k]] by rw [HTk.out]; simp [hn])
          clear hn
          have hrow := row_new1 (wr.alloc (.cells #[.string o.caps[k].name, .int .i64 o.caps[k].frm, .int .i64 o.caps[k].to] 33)) (.string (cutB input o.caps[k])) 9
          simp only [World.size_alloc] at hrow
          have HROW := Lib.hid hrow; clear hrow
          have HL := Lib.hid (Nat.le_trans (textsL_len (o.caps.take k) input name) (List.length_take_le k _))
          have HL2 := Lib.hid HC.out.2.1
          have hk2 : k ≤ 65536 := by have := HL2.out; omega
          go_wp2_with (first | (at_builtin; refine wpList_append_row _ rfl (.tmp 26) (.tmp 33) _ rfl w.heap.size 9 i0 _ 1 16 Tryd.underlying41 hI hz0 hz1 hz2 rfl (by decide) _ _ _ rfl (World.ownsRow.alloc (World.ownsRow.alloc HO.out _) _) (some ⟨wr.heap.size + 1, 0, none⟩) 1 1 [.string (cutB input o.caps[k])] rfl rfl HROW.out (one_strs [cutB input o.caps[k]]) ?_ ?_ ?_ ?_))
          · have := HL.out; unfold maxLen; omega
          · have := HL.out; omega
          · have := HB.out.size; simp; omega
          intro v2 w2 hown2 hgrow2
          have HB2 := Lib.hid (((HB.out.alloc HB.out.size _).alloc (by have := HB.out.size; simp; omega) _).grown hgrow2 (by have := HB.out.size; simp; omega) (fun k e => (World.ownsRow.lt HO.out k e).1))
          have HO2 := Lib.hid (show OwnStrs w2 w.heap.size v2 (textsL (o.caps.take (k + 1)) input name) by rw [HTk2.out]; unfold OwnStrs; simpa using hown2)
          clear hown2 hgrow2
          go_wp2_with fail
          exact ⟨⟨k + 1, by omega, by go_num, HO2.out, HB2.out⟩, by simp [intOf]; omega⟩
        · have e1 : (o.caps[k].name.toList == name.toList) = false := by simpa [toList_inj] using hn
          have HTk2 := Lib.hid (show textsL (o.caps.take (k + 1)) input name = textsL (o.caps.take k) input name by rw [HTk.out]; simp [hn])
          clear hn
          go_wp2_with fail
          exact ⟨⟨k + 1, by omega, by go_num, by rw [HTk2.out]; exact World.ownsRow.alloc HO.out _, HB.out.alloc HB.out.size _⟩, by simp [intOf]; omega⟩
      · have HTk := Lib.hid (show textsL (o.caps.take k) input name = textsL o.caps input name by rw [List.take_of_length_le (by omega)])
        go_wp2_with fail
        go_ret
        exact ⟨_, rfl, by rw [HT.out, ← HTk.out]; exact HO.out, HB.out⟩
theorem OwnStrs.mono {w : World} {B B' : Nat} {v : Value} {l : List ByteArray} (h : OwnStrs w B v l) (hb : B' ≤ B) : OwnStrs w B' v l :=
  ⟨h.1, h.2.imp id (fun ⟨g, cap, cur, e, hg, r⟩ => ⟨g, cap, cur, e, by omega, r⟩)⟩

set_option maxRecDepth 100000 in
set_option maxHeartbeats 1600000 in
theorem rtexts_any (o : Outc) (input name : ByteArray) (A : Option Addr) (c : Nat) (w : World) (hA : RowAt w A (cellsOf o.caps)) (hs : ∀ c ∈ o.caps, c.name.size ≤ 281474976710656) (hl : o.caps.length ≤ 281474976710656) (hi : input.size ≤ 281474976710656) :
    Calls Tryd.prog 24 #[outV A c o, .string input, .string name] w fun e w' => ∃ v, e = .returned v ∧ OwnStrs w' w.heap.size v (textsB o input name) ∧ Below w.heap.size w w' := by
  obtain ⟨i0, hI, hz0, hz1, hz2⟩ := info_parts infoStr
  cases hm : mayO o input.size
  · have HT := Lib.hid (show textsB o input name = [] by simp [textsB, hm])
    have HM := Lib.hid hm; clear hm
    have HA := Lib.hid (hA.below (box1 w (.cells #[.bool o.ok, .int .i64 o.to, .slice A o.caps.length c] 24)))
    go_enter Tryd.func24, Tryd.ntmps24
    go_wp2_with (first | (go_at_call 20; refine (rsmay_any o input.size A c _ HA.out hs hl).mono ?_; rintro e w1 ⟨he, hb⟩; rw [HM.out] at he; subst he))
    go_ret
    exact ⟨_, rfl, by rw [HT.out]; exact World.ownsRow_nil _ _ _ _, (box1 _ _).trans (hb.mono (by simp))⟩
  · have HT := Lib.hid (show textsB o input name = textsL o.caps input name by simp [textsB, hm])
    have HC := Lib.hid (mayO_caps hm)
    have HM := Lib.hid hm; clear hm
    have HA := Lib.hid (hA.below (box1 w (.cells #[.bool o.ok, .int .i64 o.to, .slice A o.caps.length c] 24)))
    go_enter Tryd.func24, Tryd.ntmps24
    go_wp2_with (first | (go_at_call 20; refine (rsmay_any o input.size A c _ HA.out hs hl).mono ?_; rintro e w1 ⟨he, hb⟩; rw [HM.out] at he; subst he; obtain ⟨b1, b2, b3, _, _, _⟩ := blk3 (kept1n hb); have HB := Lib.hid hb; clear hb))
    clear b1 b2 b3
    go_loopw [7, 8] (fun v i wr => ∃ k : Nat, k ≤ o.caps.length ∧ i = .int .i64 k ∧ OwnStrs wr (w.heap.size + 1) v (textsL (o.caps.take k) input name) ∧ Below (w.alloc (.cells #[.bool o.ok, .int .i64 o.to, .slice A o.caps.length c] 24)).heap.size (w.alloc (.cells #[.bool o.ok, .int .i64 o.to, .slice A o.caps.length c] 24)) wr) (fun _ i _ => o.caps.length - (intOf i).toNat)
    case atStart => exact ⟨0, by omega, rfl, by simpa [textsL, OwnStrs] using World.ownsRow_nil w1 (w.heap.size + 1) 9 1, HB.out⟩
    case round =>
      clear HB
      obtain ⟨k, hk, rfl, hown, hb⟩ := hrel
      have HO := Lib.hid hown; clear hown
      obtain ⟨b1, b2, b3, _, _, _⟩ := blk3 (kept1n hb)
      have HB := Lib.hid hb; clear hb
      have hwz : w.heap.size + 1 ≤ wr.heap.size := by have := HB.out.size; simpa using this
      have HB0 := Lib.hid ((box1 w _).trans (HB.out.mono (by simp)))
      by_cases hlt : k < o.caps.length
      · obtain ⟨ab, ao, rfl, x1, x2, x3⟩ := (hA.below HB0.out).caps k hlt
        have hcm := HC.out.2.2 _ (List.getElem_mem hlt)
        obtain ⟨_, f0, f1, f2⟩ := hcm
        have hin := hi
        have HTk := Lib.hid (show textsL (o.caps.take (k + 1)) input name = _ by rw [List.take_succ_eq_append_getElem hlt, textsL_snoc])
        by_cases hn : o.caps[k].name = name
        · have e1 : (o.caps[k].name.toList == name.toList) = true := by simp [hn]
          have HTk2 := Lib.hid (show textsL (o.caps.take (k + 1)) input name = textsL (o.caps.take k) input name ++ [cutB input o.caps[k]] by rw [HTk.out]; simp [hn])
          clear hn
          have hrow := row_new1 (wr.alloc (.cells #[.string o.caps[k].name, .int .i64 o.caps[k].frm, .int .i64 o.caps[k].to] 33)) (.string (cutB input o.caps[k])) 9
          simp only [World.size_alloc] at hrow
          have HROW := Lib.hid hrow; clear hrow
          have HL := Lib.hid (Nat.le_trans (textsL_len (o.caps.take k) input name) (List.length_take_le k _))
          have HL2 := Lib.hid HC.out.2.1
          have hk2 : k ≤ 65536 := by have := HL2.out; omega
          go_wp2_with (first | (at_builtin; refine wpList_append_row _ rfl (.tmp 31) (.tmp 38) _ rfl (w.heap.size + 1) 9 i0 _ 1 16 Tryd.underlying41 hI hz0 hz1 hz2 rfl (by decide) _ _ _ rfl (World.ownsRow.alloc (World.ownsRow.alloc HO.out _) _) (some ⟨wr.heap.size + 1, 0, none⟩) 1 1 [.string (cutB input o.caps[k])] rfl rfl HROW.out (one_strs [cutB input o.caps[k]]) ?_ ?_ ?_ ?_))
          · have := HL.out; unfold maxLen; omega
          · have := HL.out; omega
          · simp; omega
          intro v2 w2 hown2 hgrow2
          have HB2 := Lib.hid (((HB.out.alloc HB.out.size _).alloc (by have := HB.out.size; simp; omega) _).grown hgrow2 (by have := HB.out.size; simp; omega) (fun k e => by have := (World.ownsRow.lt HO.out k e).1; simp; omega))
          have HO2 := Lib.hid (show OwnStrs w2 (w.heap.size + 1) v2 (textsL (o.caps.take (k + 1)) input name) by rw [HTk2.out]; unfold OwnStrs; simpa using hown2)
          clear hown2 hgrow2
          go_wp2_with fail
          exact ⟨⟨k + 1, by omega, by go_num, HO2.out, HB2.out⟩, by simp [intOf]; omega⟩
        · have e1 : (o.caps[k].name.toList == name.toList) = false := by simpa [toList_inj] using hn
          have HTk2 := Lib.hid (show textsL (o.caps.take (k + 1)) input name = textsL (o.caps.take k) input name by rw [HTk.out]; simp [hn])
          clear hn
          go_wp2_with fail
          exact ⟨⟨k + 1, by omega, by go_num, by rw [HTk2.out]; exact World.ownsRow.alloc HO.out _, HB.out.alloc HB.out.size _⟩, by simp [intOf]; omega⟩
      · have HTk := Lib.hid (show textsL (o.caps.take k) input name = textsL o.caps input name by rw [List.take_of_length_le (by omega)])
        go_wp2_with fail
        go_ret
        exact ⟨_, rfl, by rw [HT.out, ← HTk.out]; exact OwnStrs.mono HO.out (by omega), HB0.out⟩
end Go.Proofs.YtogmkekbdfckpaaDoor
