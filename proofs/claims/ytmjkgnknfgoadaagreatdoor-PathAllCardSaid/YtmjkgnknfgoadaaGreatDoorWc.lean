/- slices.Compare over ints; path.Compare; the reference's side and Compare of places. -/
import Derived.Test.YtmjkgnknfgoadaaGreatDoorDa
import Derived.Test.YtmjkgnknfgoadaaGreatDoorQm
import Derived.WalkSpells
import Derived.Deep.RegionHeld3
import Derived.Deep.Cut
import Derived.Test.YtmjkgnknfgoadaaGreatDoorDj
namespace Go.Proofs.YtmjkgnknfgoadaaGreatDoor
open Go.RowKit
set_option linter.unusedSimpArgs false
set_option linter.unusedVariables false

/-- How two rows of numbers stand. -/
def cmpL : List Int → List Int → Int
  | [], [] => 0
  | [], _ :: _ => -1
  | _ :: _, [] => 1
  | x :: xs, y :: ys => if x = y then cmpL xs ys else Lib.compareInt x y
theorem cmpL_step {l m : List Int} {k : Nat} (hl : k < l.length) (hm : k < m.length) : cmpL (l.drop k) (m.drop k) = if l[k] = m[k] then cmpL (l.drop (k + 1)) (m.drop (k + 1)) else Lib.compareInt l[k] m[k] := by
  rw [List.drop_eq_getElem_cons hl, List.drop_eq_getElem_cons hm]; rfl
theorem cmpL_right {l m : List Int} {k : Nat} (hl : k < l.length) (hm : m.length ≤ k) : cmpL (l.drop k) (m.drop k) = 1 := by
  rw [List.drop_eq_getElem_cons hl, List.drop_eq_nil_of_le hm]; rfl
theorem cmpL_left {l m : List Int} {k : Nat} (hl : l.length ≤ k) (hm : k < m.length) : cmpL (l.drop k) (m.drop k) = -1 := by
  rw [List.drop_eq_getElem_cons hm, List.drop_eq_nil_of_le hl]; rfl
theorem cmpL_end {l m : List Int} {k : Nat} (hl : l.length ≤ k) (hm : m.length ≤ k) : cmpL (l.drop k) (m.drop k) = 0 := by
  rw [List.drop_eq_nil_of_le hm, List.drop_eq_nil_of_le hl]; rfl
theorem compareInt_zero {x y : Int} : (Lib.compareInt x y != 0) = true ↔ x ≠ y := by
  unfold Lib.compareInt; split
  · simp; omega
  · split
    · simp; omega
    · simp; omega

set_option maxRecDepth 100000 in
set_option maxHeartbeats 1600000 in
theorem cmp_ints (l m : List Int) (A B : Option Addr) (c d : Nat) (S T : Nat → Prop) (w : World) (hA : intL.row w S A l) (hB : intL.row w T B m) (hl : l.length ≤ 281474976710656) (hm : m.length ≤ 281474976710656) :
    Calls Tryz.prog 88 #[.slice A l.length c, .slice B m.length d] w fun e w' => e = .returned (.int .i64 (cmpL l m)) ∧ w' = w := by
  have HTA := Lib.hid hA; have HTB := Lib.hid hB; clear hA hB
  go_enter Tryz.func88, Tryz.ntmps88
  go_wp2_with fail
  go_loopw [11] (fun i wr => ∃ k : Nat, k ≤ l.length ∧ k ≤ m.length ∧ i = .int .i64 k ∧ Hid (cmpL l m = cmpL (l.drop k) (m.drop k)) ∧ Hid (wr = w)) (fun i _ => l.length - (intOf i).toNat)
  case atStart => exact ⟨0, by omega, by omega, rfl, Lib.hid rfl, Lib.hid rfl⟩
  case round =>
    obtain ⟨k, hk, hk2, rfl, HE, HW⟩ := hrel
    have hW := HW.out; subst hW; clear HW
    by_cases hlt : k < l.length
    · obtain ⟨b, o, rfl, _, _, x0⟩ := intRow HTA.out k hlt
      have i1 : (k : Int) < (l.length : Int) := by omega
      by_cases hmt : k < m.length
      · obtain ⟨b', o', rfl, _, _, y0⟩ := intRow HTB.out k hmt
        have i2 : (k : Int) < (m.length : Int) := by omega
        have i3 : decide ((m.length : Int) ≤ (k : Int)) = false := by simp; omega
        have HN := Lib.hid (HE.out.trans (cmpL_step hlt hmt))
        by_cases he : l[k] = m[k]
        · have e1 : (Lib.compareInt l[k] m[k] != 0) = false := by
            cases h : (Lib.compareInt l[k] m[k] != 0)
            · rfl
            · exact absurd he (compareInt_zero.1 h)
          have HX := Lib.hid (HN.out.trans (if_pos he)); clear he
          go_wp2_with (go_at_call 87; refine (Tryz.cmp_Compare_int l[k] m[k] _).mono ?_; rintro e w' ⟨rfl, rfl⟩)
          exact ⟨⟨k + 1, by omega, by omega, by go_num, HX, Lib.hid trivial⟩, by simp [intOf]; omega⟩
        · have e1 := compareInt_zero.2 he
          have HX := Lib.hid (HN.out.trans (if_neg he)); clear he
          go_wp2_with (go_at_call 87; refine (Tryz.cmp_Compare_int l[k] m[k] _).mono ?_; rintro e w' ⟨rfl, rfl⟩)
          go_ret
          exact ⟨ret_int HX.out.symm, rfl⟩
      · have i3 : decide ((m.length : Int) ≤ (k : Int)) = true := by simp; omega
        have HX := Lib.hid (HE.out.trans (cmpL_right hlt (by omega)))
        go_wp2_with fail
        go_ret
        exact ⟨ret_int HX.out.symm, rfl⟩
    · by_cases hmt : l.length < m.length
      · have HX := Lib.hid (HE.out.trans (cmpL_left (by omega) (by omega)))
        go_wp2_with fail
        go_ret
        exact ⟨ret_int HX.out.symm, rfl⟩
      · have HX := Lib.hid (HE.out.trans (cmpL_end (by omega) (by omega)))
        go_wp2_with fail
        go_ret
        exact ⟨ret_int HX.out.symm, rfl⟩

/-- How two places stand. -/
def cmpP (r : Int) (p : List Int) (s : Int) (q : List Int) : Int := if r = s then cmpL p q else Lib.compareInt r s
set_option maxRecDepth 100000 in
set_option maxHeartbeats 1600000 in
theorem cmpP_any (r s : Int) (p q : List Int) (A B : Option Addr) (c d : Nat) (S T : Nat → Prop) (w : World) (hA : intL.row w S A p) (hB : intL.row w T B q) (hl : p.length ≤ 281474976710656) (hm : q.length ≤ 281474976710656) :
    Calls Tryz.prog 38 #[.agg #[.int .i64 r, .slice A p.length c], .agg #[.int .i64 s, .slice B q.length d]] w fun e w' => e = .returned (.int .i64 (cmpP r p s q)) ∧ Below w.heap.size w w' := by
  have HTA := Lib.hid hA; have HTB := Lib.hid hB; clear hA hB
  by_cases he : r = s
  · have e1 : (Lib.compareInt r s != 0) = false := by
      cases h : (Lib.compareInt r s != 0)
      · rfl
      · exact absurd he (compareInt_zero.1 h)
    have HX := Lib.hid (show cmpP r p s q = cmpL p q from if_pos he); clear he
    go_enter Tryz.func38, Tryz.ntmps38
    go_wp2_with (first
      | (go_at_call 87; refine (Tryz.cmp_Compare_int r s _).mono ?_; rintro e w' ⟨rfl, rfl⟩)
      | (go_at_call 88; refine (cmp_ints p q A B c d S T _ (HTA.out.below (bx2 w _ _)) (HTB.out.below (bx2 w _ _)) hl hm).mono ?_; rintro e w' ⟨rfl, rfl⟩))
    go_ret
    exact ⟨ret_int HX.out.symm, bx2 w _ _⟩
  · have e1 := compareInt_zero.2 he
    have HX := Lib.hid (show cmpP r p s q = Lib.compareInt r s from if_neg he); clear he
    go_enter Tryz.func38, Tryz.ntmps38
    go_wp2_with (first
      | (go_at_call 87; refine (Tryz.cmp_Compare_int r s _).mono ?_; rintro e w' ⟨rfl, rfl⟩))
    go_ret
    exact ⟨ret_int HX.out.symm, bx2 w _ _⟩
end Go.Proofs.YtmjkgnknfgoadaaGreatDoor

/- The reference's side, Compare and Same of places. -/
namespace Go.Proofs.YtmjkgnknfgoadaaGreatDoor
open Go.RowKit
set_option linter.unusedSimpArgs false
set_option linter.unusedVariables false

end Go.Proofs.YtmjkgnknfgoadaaGreatDoor
/- Rows of places; the reference's Same of places. -/
namespace Go.Proofs.YtmjkgnknfgoadaaGreatDoor
open Go.RowKit
set_option linter.unusedSimpArgs false
set_option linter.unusedVariables false
/-- A place as it lies in memory. -/
structure Pl where
  r : Int
  A : Option Addr
  c : Nat
  li : List Int
def Pl.pl (p : Pl) : Int × List Int := (p.r, p.li)
def plL : Lay Pl where
  size := 2
  cells p := [.int .i64 p.r, .slice p.A p.li.length p.c]
  len _ := rfl
  one _ u hu := by
    simp only [List.mem_cons, List.not_mem_nil, or_false] at hu
    rcases hu with rfl | rfl <;> rfl
  inn w S p := p.li.length ≤ 281474976710656 ∧ intL.row w S p.A p.li
  agree h hg := ⟨h.1, h.2.agree hg⟩
  mono h hS := ⟨h.1, h.2.mono hS⟩
theorem plRow {w : World} {S : Nat → Prop} {A : Option Addr} {l : List Pl} (h : plL.row w S A l) (i : Nat) (hi : i < l.length) : ∃ b o, A = some ⟨b, o, none⟩ ∧ S b ∧ b < w.heap.size ∧ w.cell? ⟨b, o + i * 2, none⟩ = some (.int .i64 l[i].r) ∧ w.cell? ⟨b, o + i * 2 + 1, none⟩ = some (.slice l[i].A l[i].li.length l[i].c) := by
  obtain ⟨b, o, e, hS, hl, hc⟩ := h.at (by decide) i hi
  refine ⟨b, o, e, hS, hl, ?_, ?_⟩
  · have := hc 0 _ rfl
    simpa [plL] using this
  · have := hc 1 _ rfl
    simpa [plL, Nat.add_assoc] using this
theorem plAt {w : World} {S : Nat → Prop} {b o : Nat} {l : List Pl} (h : plL.row w S (some ⟨b, o, none⟩) l) (i : Nat) (hi : i < l.length) : w.cell? ⟨b, o + i * 2, none⟩ = some (.int .i64 l[i].r) ∧ w.cell? ⟨b, o + i * 2 + 1, none⟩ = some (.slice l[i].A l[i].li.length l[i].c) := by
  obtain ⟨b', o', e, _, _, h⟩ := plRow h i hi
  cases e; exact h
theorem plSub {w : World} {S : Nat → Prop} {A : Option Addr} {l : List Pl} (h : plL.row w S A l) (i : Nat) (hi : i < l.length) : l[i].li.length ≤ 281474976710656 ∧ intL.row w S l[i].A l[i].li := h.2 _ (List.getElem_mem hi)
theorem cmpL_zero : ∀ l m : List Int, cmpL l m = 0 ↔ l = m
  | [], [] => by simp [cmpL]
  | [], _ :: _ => by simp [cmpL]
  | _ :: _, [] => by simp [cmpL]
  | x :: xs, y :: ys => by
    rw [cmpL]
    by_cases h : x = y
    · rw [if_pos h, cmpL_zero xs ys]; simp [h]
    · rw [if_neg h]
      have := compareInt_zero.2 h
      simp at this
      simp [h, this]
theorem cmpP_zero {r s : Int} {p q : List Int} : cmpP r p s q = 0 ↔ r = s ∧ p = q := by
  unfold cmpP
  by_cases h : r = s
  · rw [if_pos h, cmpL_zero]; simp [h]
  · rw [if_neg h]
    have := compareInt_zero.2 h
    simp at this
    simp [h, this]

end Go.Proofs.YtmjkgnknfgoadaaGreatDoor