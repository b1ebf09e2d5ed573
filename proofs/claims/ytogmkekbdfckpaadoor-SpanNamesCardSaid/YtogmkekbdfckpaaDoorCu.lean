/- strings.Cut at a separator of one byte: its contract, and the plain law. -/
import Derived.Test.YtogmkekbdfckpaaDoorPn
import Derived.Test.YtogmkekbdfckpaaDoorShelf
import Derived.WalkKit
import Derived.WalkSpells
import Derived.WalkLawsBesides
import Derived.Below
import Derived.Lib.IndexBytes
import Derived.RegionTactic
import Derived.BigQuiet
import Derived.Deep.QuietTactic
namespace Go.Proofs.YtogmkekbdfckpaaDoor
open Go.RowKit
set_option linter.unusedSimpArgs false
set_option linter.unusedVariables false

/-- A text's part ahead of the first c, what is behind it, and whether there is one. -/
def cut1 (c : UInt8) : List UInt8 → List UInt8 × List UInt8 × Bool
  | [] => ([], [], false)
  | b :: l => if b = c then ([], l, true) else (b :: (cut1 c l).1, (cut1 c l).2.1, (cut1 c l).2.2)
theorem cut1_index (c : UInt8) : ∀ (l : List UInt8), (Lib.indexByte l c < 0 ∧ cut1 c l = (l, [], false)) ∨ ∃ k : Nat, Lib.indexByte l c = k ∧ k < l.length ∧ cut1 c l = (l.take k, l.drop (k + 1), true)
  | [] => .inl ⟨by simp [Lib.indexByte], rfl⟩
  | b :: l => by
    by_cases h : b = c
    · subst h; exact .inr ⟨0, by simp [Lib.indexByte], by simp, by simp [cut1]⟩
    · have h1 : (b == c) = false := by simpa using h
      rcases cut1_index c l with ⟨h2, h3⟩ | ⟨k, h2, h3, h4⟩
      · refine .inl ⟨?_, by simp [cut1, h, h3]⟩
        have : Lib.indexByte l c = -1 ∨ 0 ≤ Lib.indexByte l c := by
          have := Lib.indexByte_ge l c
          omega
        simp only [Lib.indexByte, h1]
        rcases this with e | e
        · simp [e]
        · omega
      · refine .inr ⟨k + 1, ?_, by simp only [List.length_cons]; omega, by simp [cut1, h, h4]⟩
        simp only [Lib.indexByte, h1, h2]
        have : ((k : Int) == -1) = false := by simp only [beq_eq_false_iff_ne]; omega
        simp [this]

def CutPost (s : ByteArray) (c : UInt8) (w : World) (e : Ending) (w' : World) : Prop := ∃ a b : ByteArray, e = .returned (.tuple #[.string a, .string b, .bool (cut1 c s.data.toList).2.2]) ∧ a.data.toList = (cut1 c s.data.toList).1 ∧ b.data.toList = (cut1 c s.data.toList).2.1 ∧ Below w.heap.size w w'

set_option maxRecDepth 100000 in
set_option maxHeartbeats 800000 in
theorem slcut_any (s : ByteArray) (c : UInt8) (w : World) (hs : s.size ≤ 281474976710656) :
    Calls Tryd.prog 65 #[.string s, .string ⟨#[c]⟩] w (CutPost s c w) := by
  have hsd := sz_data s
  rcases cut1_index c s.data.toList with ⟨h1, h2⟩ | ⟨k, h1, h2, h3⟩
  · have HC := Lib.hid h2
    have HI := Lib.hid h1; clear h1 h2 hsd
    go_enter Tryd.func65, Tryd.ntmps65
    go_wp2_with (go_at_call 69; refine (Tryd.stringslite_Index_one s c _).mono ?_; rintro e w' ⟨rfl, rfl⟩; have hi := HI.out; generalize Lib.indexByte s.data.toList c = z at hi ⊢)
    refine bodyPost_ret (v := .tuple #[.string s, .string ⟨#[]⟩, .bool false]) (by simp [results, Tryd.results65, go_sem]) rfl ?_
    unfold CutPost; rw [HC.out]
    exact ⟨s, ⟨#[]⟩, rfl, rfl, rfl, Below.refl _ _⟩
  · have HC := Lib.hid h3
    have HI := Lib.hid h1
    have hk : k < s.size := by omega
    clear h1 h2 h3 hsd
    go_enter Tryd.func65, Tryd.ntmps65
    have hk0 : (0 : Int) ≤ (k : Int) := by omega
    have hk1 : (k : Int) ≤ (s.size : Int) := by omega
    have hk2 : (k : Int) + 1 ≤ (s.size : Int) := by omega
    have e1 : ByteArray.size ⟨#[c]⟩ = 1 := rfl
    go_wp2_with (go_at_call 69; refine (Tryd.stringslite_Index_one s c _).mono ?_; rintro e w' ⟨rfl, rfl⟩; rw [HI.out])
    have hw : IntKind.i64.wrap ((k : Int) + 1) = (k : Int) + 1 := IntWalk.i64_in _ (by omega)
    have ht1 : ((k : Int) + 1).toNat = k + 1 := by omega
    have h10 : (0 : Int) ≤ (k : Int) + 1 := by omega
    go_region
    all_goals
      clear hw ht1
      go_wp2_with fail
      go_ret3
      unfold CutPost; rw [HC.out]
      exact ⟨_, _, rfl, by simp, by rw [Lib.extract_to_end], (Below.refl _ _).drew⟩

theorem cut_any (s : ByteArray) (c : UInt8) (w : World) (hs : s.size ≤ 281474976710656) :
    Calls Tryd.prog 57 #[.string s, .string ⟨#[c]⟩] w (CutPost s c w) := by
  go_enter Tryd.func57, Tryd.ntmps57
  go_wp2_with fail
  refine (slcut_any s c w hs).mono ?_
  rintro e w' ⟨a, b, rfl, ha, hb, hB⟩
  have H := Lib.hid (And.intro ha hb); clear ha hb
  obtain ⟨f, hf⟩ : ∃ f, f = (cut1 c s.data.toList).2.2 := ⟨_, rfl⟩
  rw [← hf]
  have HF := Lib.hid hf; clear hf
  go_wp2_with fail
  go_ret3
  exact ⟨a, b, by rw [← HF.out]; rfl, H.out.1, H.out.2, hB⟩
theorem cut1_len (c : UInt8) (l : List UInt8) : (cut1 c l).1.length ≤ l.length ∧ (cut1 c l).2.1.length ≤ l.length := by
  rcases cut1_index c l with ⟨_, h⟩ | ⟨k, _, _, h⟩ <;> rw [h] <;> simp <;> omega
end Go.Proofs.YtogmkekbdfckpaaDoor
