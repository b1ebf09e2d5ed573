/- strings.Cut at a separator of one byte: its contract, and the plain law. -/
import Derived.Test.YtabncmckojlllaaDoorPn
import Derived.Test.YtabncmckojlllaaDoorQb
import Derived.Test.YtabncmckojlllaaDoorShelf
import Derived.WalkKit
import Derived.WalkSpells
import Derived.WalkLawsBesides
import Derived.Below
import Derived.Lib.IndexBytes
import Derived.RegionTactic
import Derived.BigQuiet
import Derived.Deep.QuietTactic
namespace Go.Proofs.YtabncmckojlllaaDoor
open Go.RowKit
set_option linter.unusedSimpArgs false
set_option linter.unusedVariables false

def CutPost (s : ByteArray) (c : UInt8) (w : World) (e : Ending) (w' : World) : Prop := ∃ a b : ByteArray, e = .returned (.tuple #[.string a, .string b, .bool (cut1 c s.data.toList).2.2]) ∧ a.data.toList = (cut1 c s.data.toList).1 ∧ b.data.toList = (cut1 c s.data.toList).2.1 ∧ Below w.heap.size w w'

set_option maxRecDepth 100000 in
set_option maxHeartbeats 800000 in
theorem slcut_any (s : ByteArray) (c : UInt8) (w : World) (hs : s.size ≤ 281474976710656) :
    Calls Tryd.prog 124 #[.string s, .string ⟨#[c]⟩] w (CutPost s c w) := by
  have hsd := sz_data s
  rcases cut1_index c s.data.toList with ⟨h1, h2⟩ | ⟨k, h1, h2, h3⟩
  · have HC := Lib.hid h2
    have HI := Lib.hid h1; clear h1 h2 hsd
    go_enter Tryd.func124, Tryd.ntmps124
    go_wp2_with (go_at_call 140; refine (Tryd.stringslite_Index_one s c _).mono ?_; rintro e w' ⟨rfl, rfl⟩; have hi := HI.out; generalize Lib.indexByte s.data.toList c = z at hi ⊢)
    refine bodyPost_ret (v := .tuple #[.string s, .string ⟨#[]⟩, .bool false]) (by simp [results, Tryd.results124, go_sem]) rfl ?_
    unfold CutPost; rw [HC.out]
    exact ⟨s, ⟨#[]⟩, rfl, rfl, rfl, Below.refl _ _⟩
  · have HC := Lib.hid h3
    have HI := Lib.hid h1
    have hk : k < s.size := by omega
    clear h1 h2 h3 hsd
    go_enter Tryd.func124, Tryd.ntmps124
    have hk0 : (0 : Int) ≤ (k : Int) := by omega
    have hk1 : (k : Int) ≤ (s.size : Int) := by omega
    have hk2 : (k : Int) + 1 ≤ (s.size : Int) := by omega
    have e1 : ByteArray.size ⟨#[c]⟩ = 1 := rfl
    go_wp2_with (go_at_call 140; refine (Tryd.stringslite_Index_one s c _).mono ?_; rintro e w' ⟨rfl, rfl⟩; rw [HI.out])
    have hw : IntKind.i64.wrap ((k : Int) + 1) = (k : Int) + 1 := IntWalk.i64_in _ (by omega)
    have ht1 : ((k : Int) + 1).toNat = k + 1 := by omega
    have h10 : (0 : Int) ≤ (k : Int) + 1 := by omega
    go_region
    all_goals
      clear hw ht1
      go_wp2_with fail
      go_ret3
      unfold CutPost; rw [HC.out]
      exact ⟨_, _, rfl, by simp, by rw [Lib.extract_to_end], (Below.refl _ _).drew⟩

theorem cut_any (s : ByteArray) (c : UInt8) (w : World) (hs : s.size ≤ 281474976710656) :
    Calls Tryd.prog 111 #[.string s, .string ⟨#[c]⟩] w (CutPost s c w) := by
  go_enter Tryd.func111, Tryd.ntmps111
  go_wp2_with fail
  refine (slcut_any s c w hs).mono ?_
  rintro e w' ⟨a, b, rfl, ha, hb, hB⟩
  have H := Lib.hid (And.intro ha hb); clear ha hb
  obtain ⟨f, hf⟩ : ∃ f, f = (cut1 c s.data.toList).2.2 := ⟨_, rfl⟩
  rw [← hf]
  have HF := Lib.hid hf; clear hf
  go_wp2_with fail
  go_ret3
  exact ⟨a, b, by rw [← HF.out]; rfl, H.out.1, H.out.2, hB⟩
end Go.Proofs.YtabncmckojlllaaDoor
