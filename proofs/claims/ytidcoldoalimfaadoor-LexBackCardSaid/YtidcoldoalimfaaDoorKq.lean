/- The contract of the law's own long. -/
import Derived.Test.YtidcoldoalimfaaDoorKo
namespace Go.Proofs.YtidcoldoalimfaaDoor
open Go.RowKit Go.Shelf
set_option linter.unusedSimpArgs false
set_option linter.unusedVariables false

def LongRel (w : World) (ls : List Wd) (n i : Value) (wr : World) : Prop :=
  ∃ k m : Nat, k ≤ ls.length ∧ n = .int .i64 (m : Int) ∧ i = .int .i64 (k : Int) ∧ 5 * k ≤ m ∧ m < 20000 ∧ Hid (∀ x ∈ ls.take k, min 5000 x.text.length + 5 ≤ m) ∧ Hid (Below w.heap.size w wr)
def LongPost (ls : List Wd) (w : World) (e : Ending) (w' : World) : Prop := (∃ b, e = .returned (.bool b) ∧ (b = false → ls.length ≤ 1000 ∧ ∀ x ∈ ls, x.text.length < 5000)) ∧ Below w.heap.size w w'
set_option maxRecDepth 100000 in
set_option maxHeartbeats 1600000 in
theorem long_z (ls : List Wd) (A : Option Addr) (f t : Nat → Int) (c : Nat) (w : World) (hA : WRowZ w A ls f t) (hl : ls.length ≤ 140737488355328) : Calls Tryd.prog 12 #[.slice A ls.length c] w (LongPost ls w) := by
  have HA := Lib.hid hA
  clear hA
  go_enter Tryd.func12, Tryd.ntmps12
  go_wp2_with fail
  go_loopw [3, 4] (fun n i wr => LongRel w ls n i wr) (fun _ i _ => ls.length - (intOf i).toNat)
  case atStart => exact ⟨0, 0, by omega, rfl, rfl, by omega, by omega, Lib.hid (fun x hx => by simp at hx), Lib.hid (Below.refl _ _)⟩
  case round =>
    obtain ⟨k, m, hk, rfl, rfl, h5, hm, HMI, HB⟩ := hrel
    by_cases hlt : k < ls.length
    · have i1 : (k : Int) < (ls.length : Int) := by omega
      by_cases hm5 : m < 5000
      · have i2 : (m : Int) < 5000 := by omega
        obtain ⟨g, o, rfl, hg, x0, x1, x2, x3, x4, x5, x6, x7, x8, x9⟩ := (HA.out.below HB.out) k hlt
        have HMN := Lib.hid (show ∀ x ∈ ls.take (k + 1), min 5000 x.text.length + 5 ≤ m + 5 + min 5000 ls[k].text.length from fun x hx => by
          rw [List.take_succ_eq_append_getElem hlt] at hx
          rcases List.mem_append.1 hx with hx | hx
          · have := HMI.out x hx; omega
          · rw [List.mem_singleton.1 hx]; omega)
        clear HMI
        generalize ls[k].text = T at *
        go_upto_region 5 with fail
        go_wp2_with fail
        have hmn : m + 5 + min 5000 T.length < 20000 ∧ 5 * (k + 1) ≤ m + 5 + min 5000 T.length := by omega
        exact ⟨⟨k + 1, m + 5 + min 5000 T.length, by omega, by congr 1; omega, by go_num, hmn.2, hmn.1, HMN, HB⟩, by simp only [intOf]; omega⟩
      · have i2 : ¬ (m : Int) < 5000 := by omega
        go_wp2_with fail
        exact bodyPost_ret (v := .bool true) (by simp [results, Tryd.results12, go_sem]) rfl ⟨⟨true, rfl, (fun h => by cases h)⟩, HB.out⟩
    · have i1 : ¬ (k : Int) < (ls.length : Int) := by omega
      obtain rfl : k = ls.length := by omega
      rw [List.take_length] at HMI
      go_wp2_with fail
      exact bodyPost_ret (v := .bool (decide ((5000 : Int) ≤ (m : Int)))) (by simp [results, Tryd.results12, go_sem]) rfl ⟨⟨_, rfl, fun h => by
        have hm5 : m < 5000 := by have := of_decide_eq_false h; omega
        exact ⟨by omega, fun x hx => by have := HMI.out x hx; omega⟩⟩, HB.out⟩
end Go.Proofs.YtidcoldoalimfaaDoor
