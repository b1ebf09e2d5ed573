/- The contract of the law's own exact. -/
import Derived.Test.YtidcoldoalimfaaMj
import Derived.Test.YtidcoldoalimfaaKg
namespace Go.Proofs.Ytidcoldoalimfaa
open Go.RowKit Go.Shelf
set_option linter.unusedSimpArgs false
set_option linter.unusedVariables false

set_option maxRecDepth 100000 in
set_option maxHeartbeats 1600000 in
theorem exact_eq (ls : List Wd) (A B : Option Addr) (c d : Nat) (w : World) (hA : WRow w A ls) (hB : WRow w B ls) (hl : ls.length ≤ 4294967296) :
    Calls Try.prog 9 #[.slice A ls.length c, .slice B ls.length d] w fun e w' => e = .returned (.bool true) ∧ Below w.heap.size w w' := by
  have HA := Lib.hid hA; have HB' := Lib.hid hB; clear hA hB
  go_enter Try.func9, Try.ntmps9
  go_wp2_with fail
  go_loopw [5] (fun i wr => ∃ k : Nat, k ≤ ls.length ∧ i = .int .i64 k ∧ Hid (Below w.heap.size w wr)) (fun i _ => ls.length - (intOf i).toNat)
  case atStart => exact ⟨0, by omega, rfl, Lib.hid (Below.refl _ _)⟩
  case round =>
    obtain ⟨k, hk, rfl, HB⟩ := hrel
    by_cases hlt : k < ls.length
    · obtain ⟨g, o, rfl, hg, x0, x1, x2, x3, x4, x5, x6, x7, x8, x9⟩ := (HA.out.below HB.out) k hlt
      obtain ⟨g', o', rfl, hg', y0, y1, y2, y3, y4, y5, y6, y7, y8, y9⟩ := (HB'.out.below HB.out) k hlt
      have i1 : (k : Int) < (ls.length : Int) := by omega
      have i0 : (0 : Int) ≤ (k : Int) := by omega
      generalize ls[k] = X at *
      obtain ⟨kx, fx, tx, sx, p0, p1, p2, p3, lx, mx⟩ := X
      have heq : ∀ w, (Op.equalIn 9999 33 (.agg #[.int .u64 (p0 : Int), .int .u64 (p1 : Int), .int .u64 (p2 : Int), .int .u64 (p3 : Int)]) (.agg #[.int .u64 (p0 : Int), .int .u64 (p1 : Int), .int .u64 (p2 : Int), .int .u64 (p3 : Int)])).run Try.prog w = .ok true w := fun w => by rw [equal_sets, decide_eq_true (by simp)]
      go_upto_region 6 with fail
      go_quiet (fail)
      go_wp2_with fail
      exact ⟨⟨k + 1, by omega, by go_num, Lib.hid (drewN_below HB.out _)⟩, by simp only [intOf]; omega⟩
    · go_wp2_with fail
      exact bodyPost_ret (v := .bool true) (by simp [results, Try.results9, go_sem]) rfl ⟨rfl, HB.out⟩
end Go.Proofs.Ytidcoldoalimfaa
