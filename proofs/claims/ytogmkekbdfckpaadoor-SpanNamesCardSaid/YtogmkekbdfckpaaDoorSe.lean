/- The contracts of package span: Join, Cap. -/
import Derived.Test.YtogmkekbdfckpaaDoorSd
namespace Go.Proofs.YtogmkekbdfckpaaDoor
open Go.RowKit

theorem set3' {w' : World} {b : Nat} {x y z : Value} {B : Nat} {v : Value} {l : List Cap} (h : OwnCaps w' B v l) (hb : b < B) {B' : Nat} (hB : B' ≤ B) :
    OwnCaps (((w'.setCell ⟨b, 0, none⟩ x).setCell ⟨b, 1, none⟩ y).setCell ⟨b, 2, none⟩ z) B' v l :=
  (((h.set (a := ⟨b, 0, none⟩) hb _).set (a := ⟨b, 1, none⟩) hb _).set (a := ⟨b, 2, none⟩) hb _).mono hB

set_option maxHeartbeats 4000000 in
theorem join_any (a b : Outc) (A B : Option Addr) (c d : Nat) (w : World) (hA : RowAt w A (cellsOf a.caps)) (hB : RowAt w B (cellsOf b.caps)) (hl : a.caps.length + b.caps.length ≤ 4294967296) :
    Calls Tryd.prog 11 #[outV A c a, outV B d b] w fun e w' => ∃ v, e = .returned v ∧ OutOwn w' w.heap.size v (joinO a b) ∧ Below w.heap.size w w' := by
  obtain ⟨ak, at', al⟩ := a
  obtain ⟨bk, bt, bl⟩ := b
  simp only at hA hB hl
  cases ak
  · go_enter Tryd.func11, Tryd.ntmps11
    go_wp2_with (first | (go_at_call 18; refine (fail_any _).mono ?_; rintro e w1 ⟨rfl, hb⟩; obtain ⟨k1, k2, k3⟩ := kept3n hb; have f3 := blk3 k3))
    exact bodyPost_ret (v := outV none 0 ⟨false, 0, []⟩) (by simp [results, Tryd.results11, go_sem, f3]) rfl ⟨_, rfl, OutOwn.fail _ _, set3 ((box3 w _ _ _).trans (hb.mono (by simp; omega))) (by omega)⟩
  · cases bk
    · go_enter Tryd.func11, Tryd.ntmps11
      go_wp2_with (first | (go_at_call 18; refine (fail_any _).mono ?_; rintro e w1 ⟨rfl, hb⟩; obtain ⟨k1, k2, k3⟩ := kept3n hb; have f3 := blk3 k3))
      exact bodyPost_ret (v := outV none 0 ⟨false, 0, []⟩) (by simp [results, Tryd.results11, go_sem, f3]) rfl ⟨_, rfl, OutOwn.fail _ _, set3 ((box3 w _ _ _).trans (hb.mono (by simp; omega))) (by omega)⟩
    · go_enter Tryd.func11, Tryd.ntmps11
      go_wp2_with fail
      go_region_with (go_at_call 36; refine (together_any al bl A B c d _ (hA.below (box3 _ _ _ _).drew) (hB.below (box3 _ _ _ _).drew) hl).mono ?_; rintro e w' ⟨C, k, rfl, hown, hb⟩; obtain ⟨k1, k2, k3⟩ := kept3d hb; have f2 := blk3 k2; have f3 := blk3 k3)
      all_goals
        go_wp2_with fail
        exact bodyPost_ret (v := outV C k ⟨true, bt, al ++ bl⟩) (by simp [results, Tryd.results11, go_sem, f3]) rfl ⟨_, rfl, ⟨C, k, rfl, set3' hown (by simp) (by simp; omega)⟩, set3 ((box3 w _ _ _).drew.trans (hb.mono (by simp; omega))) (by omega)⟩

theorem row_new3 (w : World) (x y z : Value) (T : TypeId) : RowAt (w.alloc (.cells #[x, y, z] T)) (some ⟨w.heap.size, 0, none⟩) [x, y, z] := fun j u hu => by
  refine ⟨_, rfl, ?_⟩
  have h := blk3 (heap_alloc_new w (.cells #[x, y, z] T))
  match j, hu with
  | 0, hu => simp at hu; subst hu; exact h.1
  | 1, hu => simp at hu; subst hu; rw [Addr.add_lit]; simp [h.2.1]
  | 2, hu => simp at hu; subst hu; rw [Addr.add_lit]; simp [h.2.2.1]
  | n + 3, hu => simp at hu

set_option maxHeartbeats 4000000 in
theorem cap_any (s : ByteArray) (frm : Int) (o : Outc) (A : Option Addr) (c : Nat) (w : World) (hA : RowAt w A (cellsOf o.caps)) (hl : o.caps.length ≤ 4294967290) :
    Calls Tryd.prog 15 #[.string s, .int .i64 frm, outV A c o] w fun e w' => ∃ v, e = .returned v ∧ OutOwn w' w.heap.size v (capO s frm o) ∧ Below w.heap.size w w' := by
  obtain ⟨ok, to, l⟩ := o
  simp only at hA hl
  cases ok
  · go_enter Tryd.func15, Tryd.ntmps15
    go_wp2_with (first | (go_at_call 18; refine (fail_any _).mono ?_; rintro e w1 ⟨rfl, hb⟩; obtain ⟨k1, k2⟩ := kept2n hb; have f3 := blk3 k2))
    exact bodyPost_ret (v := outV none 0 ⟨false, 0, []⟩) (by simp [results, Tryd.results15, go_sem, f3]) rfl ⟨_, rfl, OutOwn.fail _ _, set3 ((box2 w _ _).trans (hb.mono (by simp; omega))) (by omega)⟩
  · go_enter Tryd.func15, Tryd.ntmps15
    go_wp2_with fail
    have hrow : RowAt (((w.alloc (.cells #[.bool true, .int .i64 to, .slice A l.length c] 24)).alloc (.cells #[.bool false, .int .i64 0, .slice none 0 0] 24)).alloc (.cells #[.string s, .int .i64 frm, .int .i64 to] 33)).drew (some ⟨w.heap.size + 1 + 1, 0, none⟩) (cellsOf [⟨s, frm, to⟩]) := by
      have h := row_new3 ((w.alloc (.cells #[.bool true, .int .i64 to, .slice A l.length c] 24)).alloc (.cells #[.bool false, .int .i64 0, .slice none 0 0] 24)) (.string s) (.int .i64 frm) (.int .i64 to) 33
      simp only [World.size_alloc] at h
      exact h
    go_region_with (go_at_call 36; refine (together_any [⟨s, frm, to⟩] l (some ⟨w.heap.size + 1 + 1, 0, none⟩) A 1 c _ hrow (hA.below (box3 _ _ _ _).drew) (by simp; omega)).mono ?_; rintro e w' ⟨C, k, rfl, hown, hb⟩; obtain ⟨k1, k2, k3⟩ := kept3d hb; have f1 := blk3 k1; have f2 := blk3 k2)
    all_goals
      go_wp2_with fail
      exact bodyPost_ret (v := outV C k ⟨true, to, ⟨s, frm, to⟩ :: l⟩) (by simp [results, Tryd.results15, go_sem, f2]) rfl ⟨_, rfl, ⟨C, k, rfl, set3' hown (by simp) (by simp; omega)⟩, set3 ((box3 w _ _ _).drew.trans (hb.mono (by simp; omega))) (by omega)⟩
end Go.Proofs.YtogmkekbdfckpaaDoor
