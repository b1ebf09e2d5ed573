/- The contracts of the reference of package name: Show. -/
import Derived.Test.YtdcgbcdmkhleoaaDoorNr
import Derived.Maps.AppendAt
import Derived.Laws.BytesArg
namespace Go.Proofs.YtdcgbcdmkhleoaaDoor
open Go.RowKit

theorem wrap_neg (n : Int) (hn : n < 0) (h0 : -9223372036854775808 ≤ n) : IntKind.u64.wrap (-IntKind.u64.wrap n) = (n.natAbs : Int) := by
  simp [IntKind.wrap, IntKind.signed, IntKind.bits]; omega

theorem cell_new1 (W : World) (v : Value) (t : TypeId) : (W.alloc (.cells #[v] t)).cell? ⟨W.heap.size, 0, none⟩ = some v := by
  simp
theorem conv1 (w : World) (x : Int) : (convert 75 9 (.slice (some ⟨w.heap.size, 0, none⟩) 1 1)).run Tryd.prog (w.alloc (.cells #[.int .u8 x] 5)) = .ok (.string (strOfNums [x])) (w.alloc (.cells #[.int .u8 x] 5)) := by
  refine run_convert_bytes_arg _ _ _ Tryd.underlying75 Tryd.underlying5 _ _ _ _ [x] rfl ?_ _ Tryd.underlying9
  intro i hi
  obtain rfl : i = 0 := by simp at hi; omega
  exact cell_new1 w _ _

theorem decDigits_len20 (m : Nat) (h : (m : Int) ≤ 9223372036854775808) : (Lib.decDigits m).length ≤ 20 := by
  rw [Lib.decDigits_length]; exact Lib.nDigits_le20 m (by omega)
theorem decDigits_step (k : Nat) (h : 9 < k) : Lib.decDigits k = Lib.decDigits (k / 10) ++ [UInt8.ofNat (48 + k % 10)] := by
  conv => { lhs; rw [Lib.decDigits, dif_neg (by omega)] }
theorem shown (m k : Nat) (t : ByteArray) (h : Lib.decDigits m = Lib.decDigits k ++ t.data.toList) (hk : 9 < k) (z : Int) (hz : z = 48 + (k : Int) % 10) :
    Lib.decDigits m = Lib.decDigits (k / 10) ++ (strOfNums [z] ++ t).data.toList := by
  rw [h, decDigits_step k hk]
  have : z.toNat = 48 + k % 10 := by omega
  simp [strOfNums, this]
theorem shown_end (m k : Nat) (t : ByteArray) (h : Lib.decDigits m = Lib.decDigits k ++ t.data.toList) (hk : k ≤ 9) (z : Int) (hz : z = 48 + (k : Int)) (sg : List UInt8) :
    ((⟨sg.toArray⟩ : ByteArray) ++ strOfNums [z] ++ t).data.toList = sg ++ Lib.decDigits m := by
  rw [h, Lib.decDigits_one (by omega)]
  have : z.toNat = 48 + k := by omega
  simp [strOfNums, this]

set_option maxHeartbeats 1000000 in
theorem rshow_any (n : Int) (w : World) (h0 : -9223372036854775808 ≤ n) (h1 : n ≤ 9223372036854775807) :
    Calls Tryd.prog 59 #[.int .i64 n] w fun e w' => ∃ t : ByteArray, e = .returned (.string t) ∧ t.data.toList = Lib.itoa n ∧ Below w.heap.size w w' := by
  obtain ⟨m, hm, hm2⟩ : ∃ m : Nat, (m : Int) ≤ 9223372036854775808 ∧ Hid (m = n.natAbs) := ⟨n.natAbs, by omega, Lib.hid rfl⟩
  have hl := decDigits_len20 m hm
  have HL := Lib.hid hl; clear hl
  have hcv := conv1
  have hs1 : ∀ x : Int, (strOfNums [x]).size = 1 := fun x => strOfNums_size [x]
  by_cases hn : n < 0
  · have hu := Lib.hid (show IntKind.u64.wrap (-IntKind.u64.wrap n) = (m : Int) by rw [hm2.out]; exact wrap_neg n hn h0)
    have HI := Lib.hid (show Lib.itoa n = [45] ++ Lib.decDigits m by rw [hm2.out]; simp [Lib.itoa, hn])
    go_enter Tryd.func59, Tryd.ntmps59
    go_wp2
    rw [hu.out]
    go_loopw [3, 5] (fun u s wr => ∃ (k : Nat) (t : ByteArray), k ≤ m ∧ u = .int .u64 k ∧ s = .string t ∧ Hid (Lib.decDigits m = Lib.decDigits k ++ t.data.toList) ∧ Below w.heap.size w wr) (fun u _ _ => (intOf u).toNat)
    case atStart => exact ⟨m, ByteArray.empty, by omega, rfl, rfl, Lib.hid (by simp), Below.refl _ _⟩
    case round =>
      obtain ⟨k, t, hk, rfl, rfl, HT, hb⟩ := hrel
      have hts : t.size ≤ 20 := by have := HT.out; have h2 := HL.out; rw [this] at h2; simp at h2; have := sz_data t; simp at this; omega
      by_cases h9 : 9 < k
      · go_wp2
        exact ⟨⟨k / 10, _, by omega, by go_num, rfl, Lib.hid (shown m k t HT.out h9 _ rfl), hb.alloc hb.size _⟩, by simp [intOf]; omega⟩
      · go_wp2
        go_ret
        exact ⟨_, rfl, by rw [HI.out]; exact shown_end m k t HT.out (by omega) _ rfl [45], hb.alloc hb.size _⟩
  · have HI := Lib.hid (show Lib.itoa n = [] ++ Lib.decDigits m by rw [hm2.out]; simp [Lib.itoa, hn]; congr 1; omega)
    obtain ⟨n', hn'⟩ : ∃ n' : Int, n' = n := ⟨n, rfl⟩
    have hmn : n = (m : Int) := by have := hm2.out; omega
    subst hmn
    go_enter Tryd.func59, Tryd.ntmps59
    go_wp2
    go_loopw [3, 5] (fun u s wr => ∃ (k : Nat) (t : ByteArray), k ≤ m ∧ u = .int .u64 k ∧ s = .string t ∧ Hid (Lib.decDigits m = Lib.decDigits k ++ t.data.toList) ∧ Below w.heap.size w wr) (fun u _ _ => (intOf u).toNat)
    case atStart => exact ⟨m, ByteArray.empty, by omega, rfl, rfl, Lib.hid (by simp), Below.refl _ _⟩
    case round =>
      obtain ⟨k, t, hk, rfl, rfl, HT, hb⟩ := hrel
      have hts : t.size ≤ 20 := by have := HT.out; have h2 := HL.out; rw [this] at h2; simp at h2; have := sz_data t; simp at this; omega
      by_cases h9 : 9 < k
      · go_wp2
        exact ⟨⟨k / 10, _, by omega, by go_num, rfl, Lib.hid (shown m k t HT.out h9 _ rfl), hb.alloc hb.size _⟩, by simp [intOf]; omega⟩
      · go_wp2
        go_ret
        exact ⟨_, rfl, by rw [HI.out]; exact shown_end m k t HT.out (by omega) _ rfl [], hb.alloc hb.size _⟩
end Go.Proofs.YtdcgbcdmkhleoaaDoor
