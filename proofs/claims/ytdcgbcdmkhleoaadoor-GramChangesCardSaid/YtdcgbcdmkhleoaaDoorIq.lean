/- The contract of gram.Names. -/
import Derived.Test.YtdcgbcdmkhleoaaDoorHe
import Derived.Test.YtdcgbcdmkhleoaaDoorDw
namespace Go.Proofs.YtdcgbcdmkhleoaaDoor
open Go.RowKit
set_option linter.unusedSimpArgs false
set_option linter.unusedVariables false

theorem infoText : (Tryd.prog.info? 9).map (fun i => (i.zero, i.size, i.bytes)) = some (some (.string ByteArray.empty), 1, 16) := by kernel_rfl
def textsV (l : List ByteArray) : List Value := l.map Value.string
def NamesPost (l : List ByteArray) (w : World) (e : Ending) (w' : World) : Prop := ∃ V c, e = .returned (.slice V l.length c) ∧ w'.ownsRow w.heap.size 9 1 (.slice V l.length c) l.length (textsV l) ∧ Below w.heap.size w w'
def NamesRel (w : World) (H : Nat) (A : Option Addr) (c : Nat) (ds : List Ld) (i l : Value) (wr : World) : Prop :=
  ∃ (k : Nat) (V : Option Addr) (vc : Nat), k ≤ ds.length ∧ i = .int .i64 k ∧ l = .slice V k vc ∧ Hid (wr.ownsRow (H + 1) 9 1 (.slice V k vc) k (textsV ((ds.take k).map Ld.name))) ∧ Hid (wr.heap[H]? = some (.cells #[.slice A ds.length c] 50 (0, 0))) ∧ Hid (Below H w wr) ∧ Hid (H + 1 ≤ wr.heap.size)
set_option maxRecDepth 100000 in
set_option maxHeartbeats 3200000 in
theorem gnames_any (A : Option Addr) (c : Nat) (ds : List Ld) (S : Nat → Prop) (w : World) (hT : dfL.row w S A ds) (hl : ds.length ≤ 4294967296) :
    Calls Tryd.prog 64 #[.agg #[.slice A ds.length c]] w (NamesPost (ds.map Ld.name) w) := by
  obtain ⟨i0, hi, hz0, hz1, hz2⟩ := info_parts infoText
  have HT := Lib.hid hT; clear hT
  unfold NamesPost
  go_enter Tryd.func64, Tryd.ntmps64
  have HB0 := Lib.hid (bx1 w (.cells #[.slice A ds.length c] 50))
  have HK0 := Lib.hid (bx_new w (.cells #[.slice A ds.length c] 50))
  go_wp2_with fail
  go_loopw [9, 3] (fun i l wr => NamesRel w w.heap.size A c ds i l wr) (fun i _ _ => ds.length - (intOf i).toNat)
  case atStart => exact ⟨0, none, 0, Nat.zero_le _, rfl, rfl, Lib.hid (World.ownsRow_nil _ _ _ _), HK0, HB0, Lib.hid (by simp)⟩
  case round =>
    clear HK0 HB0
    obtain ⟨k, V, vc, hk, rfl, rfl, HO, HK, HB, HZ⟩ := hrel
    by_cases hlt : k < ds.length
    · have i1 : (k : Int) < (ds.length : Int) := by omega
      have i2 : (0 : Int) ≤ (k : Int) := by omega
      obtain ⟨b, o, rfl, _, _, x0, x1, x2⟩ := dfRow (HT.out.below HB.out) k hlt
      have HTK := Lib.hid (show (ds.take (k + 1)).map Ld.name = (ds.take k).map Ld.name ++ [ds[k].name] from by rw [List.take_succ_eq_append_getElem hlt, List.map_append]; rfl)
      generalize ds[k] = d at *
      have HF := Lib.hid (show k + 1 ≤ maxLen ∧ (k + 1) * 16 ≤ 140737488355328 from ⟨by unfold maxLen; omega, by omega⟩)
      go_wp2_with (at_builtin; refine wpList_append_at _ rfl (.tmp 13) (.tmp 16) 43 rfl (w.heap.size + 1) 9 i0 _ 1 16 Tryd.underlying43 hi hz0 hz1 hz2 rfl (by decide) V vc k (textsV ((ds.take k).map Ld.name)) rfl (World.ownsRow.alloc (World.ownsRow.alloc HO.out _) _) (some ⟨wr.heap.size + 1, 0, none⟩) 1 1 [.string d.name] rfl rfl (by have h := bx_new (wr.alloc (.cells #[.string d.name, .slice d.t.A d.t.ls.length d.t.c, .int .i64 d.t.root] 47)) (.cells #[.string d.name] 9); rw [World.size_alloc] at h; exact row_blk (cs := [.string d.name]) h) (fun u hu => by simp only [List.mem_singleton] at hu; subst hu; rfl) HF.out.1 HF.out.2 (by have := HZ.out; simp; omega) ?_; intro V' vc' w3 HO3 HG3 HA3)
      have hz := HZ.out
      have hbk := fun x hx => (own_blk HO.out x hx).1
      have h2 : Below wr.heap.size wr ((wr.alloc (.cells #[.string d.name, .slice d.t.A d.t.ls.length d.t.c, .int .i64 d.t.root] 47)).alloc (.cells #[.string d.name] 9)) := bx2 wr _ _
      refine ⟨⟨k + 1, V', vc', hlt, by go_num, rfl, Lib.hid ?_, Lib.hid ((HG3.out.block _ (by simp; omega) (fun e => by have := hbk _ e.symm; omega)).trans ((h2.block _ (by omega)).trans HK.out)), Lib.hid ((Below.step HB.out h2).grown HG3.out (by simp; omega) (fun x hx => by have := hbk x hx; omega)), Lib.hid (by have h := HG3.out.size; simp at h; omega)⟩, by simp only [intOf]; omega⟩
      rw [HTK.out]
      have e : textsV ((ds.take k).map Ld.name ++ [d.name]) = textsV ((ds.take k).map Ld.name) ++ [.string d.name] := by simp [textsV]
      rw [e]; exact HO3.out
    · obtain rfl : k = ds.length := by omega
      have HL := Lib.hid (show (ds.map Ld.name).length = ds.length from by simp)
      as_aux_lemma =>
        go_wp2_with fail
        go_ret
        refine ⟨V, vc, by rw [HL.out]; rfl, ?_, HB.out⟩
        rw [HL.out]
        have h := HO.out
        rw [List.take_length] at h
        exact own_mono h (by omega)
end Go.Proofs.YtdcgbcdmkhleoaaDoor
