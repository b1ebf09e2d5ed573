/- Plain laws of layer 2: the names that are tried, the map of those that are used; no walk in sight. -/
import Derived.Test.YtjbeblbiajegmaaDoorPn
import Derived.Maps.Own
import Derived.Maps.Views
import Derived.IntWalk
namespace Go.Proofs.YtjbeblbiajegmaaDoor
open Go.RowKit Go.Maps

/-- The i-th name that is tried: the stem, the stem and 2, the stem and 3 .. -/
def cand (stem : List UInt8) (i : Nat) : List UInt8 := if i = 0 then stem else stem ++ Lib.itoa ((i : Int) + 1)

/-- A free name: the first one tried that may be and is not used; none, if one that is tried may not be and all ahead are used. -/
def FreeIs (stem : List UInt8) (used : List (List UInt8)) (out : List UInt8) : Prop :=
  ∃ k, (∀ i, i < k → mayL (cand stem i) = true ∧ cand stem i ∈ used) ∧
    ((mayL (cand stem k) = true ∧ cand stem k ∉ used ∧ out = cand stem k) ∨ (mayL (cand stem k) = false ∧ out = []))

theorem FreeIs.unique {stem : List UInt8} {used : List (List UInt8)} {a b : List UInt8} (ha : FreeIs stem used a) (hb : FreeIs stem used b) : a = b := by
  obtain ⟨k, hk, h⟩ := ha
  obtain ⟨j, hj, h'⟩ := hb
  rcases Nat.lt_trichotomy k j with hl | rfl | hl
  · have := hj k hl
    rcases h with ⟨_, h, _⟩ | ⟨h, _⟩
    · exact absurd this.2 h
    · rw [h] at this; cases this.1
  · rcases h with ⟨h1, h2, rfl⟩ | ⟨h1, rfl⟩ <;> rcases h' with ⟨h3, h4, rfl⟩ | ⟨h3, rfl⟩
    · rfl
    · rw [h1] at h3; cases h3
    · rw [h1] at h3; cases h3
    · rfl
  · have := hk j hl
    rcases h' with ⟨_, h', _⟩ | ⟨h', _⟩
    · exact absurd this.2 h'
    · rw [h'] at this; cases this.1

/-! ### numbers' texts part -/
theorem decVal_digits (m : Nat) : decVal (Lib.decDigits m) = m := by
  induction m using Nat.strongRecOn with
  | _ m ih =>
    by_cases h : m < 10
    · rw [Lib.decDigits_one h]
      have : (UInt8.ofNat (48 + m)).toNat = 48 + m := by simp; omega
      simp [decVal]; omega
    · have e : Lib.decDigits m = Lib.decDigits (m / 10) ++ [UInt8.ofNat (48 + m % 10)] := by conv => { lhs; rw [Lib.decDigits, dif_neg h] }
      have : (UInt8.ofNat (48 + m % 10)).toNat = 48 + m % 10 := by simp; omega
      rw [e, decVal_snoc, ih (m / 10) (by omega), this]; omega
theorem itoa_nat (i : Nat) : Lib.itoa (i : Int) = Lib.decDigits i := by simp [Lib.itoa]
theorem cand_inj (stem : List UInt8) {i j : Nat} (h : cand stem i = cand stem j) : i = j := by
  have e : ∀ i : Nat, Lib.itoa ((i : Int) + 1) = Lib.decDigits (i + 1) := fun i => by rw [← itoa_nat]; congr 1
  have pos : ∀ i, Lib.decDigits i ≠ [] := fun i h => by
    have := Lib.decDigits_length i; rw [h] at this; have := Lib.nDigits_pos i; simp at *; omega
  unfold cand at h
  split at h <;> split at h
  · omega
  · rw [e] at h; have := List.self_eq_append_right.1 h; exact absurd this (pos _)
  · rw [e] at h; have := List.self_eq_append_right.1 h.symm; exact absurd this (pos _)
  · rw [e, e] at h; have := List.append_cancel_left h
    have := congrArg decVal this; rw [decVal_digits, decVal_digits] at this; omega

theorem snocRec {α : Type} {motive : List α → Prop} (l : List α) (nil : motive []) (snoc : ∀ l x, motive l → motive (l ++ [x])) : motive l := by
  rw [← List.reverse_reverse l]
  induction l.reverse with
  | nil => exact nil
  | cons x r ih => rw [List.reverse_cons]; exact snoc _ _ ih

/-! ### the map of the names that are used -/
def numOf : DataW Unit → Int
  | .lit (.int _ c) => c
  | _ => 0
def bumpS (D : DataW Unit) (k : List UInt8) : DataW Unit := D.put (.string k) (.lit (.int .i64 (wrap64 (numOf (D.atKey (.string k) (.lit (.int .i64 0))) + 1))))
def takenD (ss : List (List UInt8)) : DataW Unit := ss.foldl bumpS (.map [])
theorem takenD_snoc (ss : List (List UInt8)) (s : List UInt8) : takenD (ss ++ [s]) = bumpS (takenD ss) s := by simp [takenD]
theorem takenD_map (ss : List (List UInt8)) : IsMap (takenD ss) := by
  induction ss using snocRec with
  | nil => exact isMap_empty
  | snoc ss s ih => rw [takenD_snoc]; exact ih.put _ _
/-- What the map tells of a text: how often it is there: not 0 just if it is. -/
theorem takenD_at (ss : List (List UInt8)) (hl : (ss.length : Int) ≤ 9223372036854775807) (k : List UInt8) :
    ∃ c : Int, (takenD ss).atKey (.string k) (.lit (.int .i64 0)) = .lit (.int .i64 c) ∧ 0 ≤ c ∧ c ≤ ss.length ∧ (c = 0 ↔ k ∉ ss) := by
  induction ss using snocRec with
  | nil => exact ⟨0, rfl, by omega, by simp, by simp⟩
  | snoc ss s ih =>
    obtain ⟨c, hc, h0, h1, h2⟩ := ih (by simp at hl; omega)
    rw [takenD_snoc, bumpS]
    by_cases hk : k = s
    · subst hk
      refine ⟨wrap64 (c + 1), ?_, ?_⟩
      · rw [atKey_put_same (takenD_map ss) (by trivial), hc]; rfl
      · have hw : wrap64 (c + 1) = c + 1 := IntWalk.wrap64_in _ (by simp at hl; omega)
        rw [hw]; simp; omega
    · refine ⟨c, ?_, h0, by simp; omega, by rw [h2]; simp [hk]⟩
      rw [atKey_put_other (by simp [hk]), hc]
end Go.Proofs.YtjbeblbiajegmaaDoor
