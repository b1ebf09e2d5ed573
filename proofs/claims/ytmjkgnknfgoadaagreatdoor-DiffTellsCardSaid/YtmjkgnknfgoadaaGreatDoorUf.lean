/- The contracts of bonsairef01's power, Has and Runs. -/
import Derived.Test.YtmjkgnknfgoadaaGreatDoorGh
import Derived.Test.YtmjkgnknfgoadaaGreatDoorUd
import Derived.Deep.RegionHeld3
import Derived.BigQuiet
namespace Go.Proofs.YtmjkgnknfgoadaaGreatDoor
open Go.RowKit
set_option linter.unusedSimpArgs false
set_option linter.unusedVariables false
set_option maxHeartbeats 800000 in
theorem power_any (n : Nat) (hn : n < 64) (w : World) :
    Calls Tryz.prog 196 #[.int .i64 n] w fun e w' => w = w' ∧ e = .returned (.int .u64 ((2 ^ n : Nat) : Int)) := by
  go_enter Tryz.func196, Tryz.ntmps196
  go_wp2_with fail
  go_loop [3, 4] (fun v3 v4 => ∃ k : Nat, k ≤ n ∧ v4 = .int .i64 k ∧ v3 = .int .u64 ((2 ^ k : Nat) : Int)) (fun _ v4 => n - (intOf v4).toNat)
  case atStart => exact ⟨0, Nat.zero_le _, rfl, rfl⟩
  case round =>
    obtain ⟨k, hk, rfl, rfl⟩ := hrel
    by_cases hlt : k < n
    · have hp : (2 ^ k : Nat) * 2 = 2 ^ (k + 1) := by rw [Nat.pow_succ]
      have hb : (2 : Nat) ^ (k + 1) ≤ 2 ^ 63 := Nat.pow_le_pow_right (by decide) (by omega)
      rw [← hp] at hb
      have HP := Lib.hid hp
      clear hp
      generalize (2 : Nat) ^ k = p at *
      have hb2 : p * 2 ≤ 9223372036854775808 := hb
      clear hb
      have hi : (k : Int) < (n : Int) := by omega
      go_wp2_with fail
      exact ⟨⟨k + 1, hlt, by go_num, by rw [← HP.out]; go_num⟩, by simp [intOf]; omega⟩
    · obtain rfl : k = n := by omega
      go_wp2_with fail
      go_ret
      exact ⟨rfl, rfl⟩
theorem power_at (z : Int) (n : Nat) (hz : z = (n : Int)) (hn : n < 64) (w : World) :
    Calls Tryz.prog 196 #[.int .i64 z] w fun e w' => w = w' ∧ e = .returned (.int .u64 ((2 ^ n : Nat) : Int)) := by
  subst hz; exact power_any n hn w
theorem hasW_eq (w0 w1 w2 w3 : Nat) (b : Nat) : hasW [w0, w1, w2, w3] b = ((([w0, w1, w2, w3].getD (b / 64) 0) / 2 ^ (b % 64)) % 2 == 1) := by
  unfold hasW
  rw [Nat.testBit_eq_decide_div_mod_eq]
  rfl
set_option maxRecDepth 100000 in
set_option maxHeartbeats 1600000 in
theorem has_any (w0 w1 w2 w3 : Nat) (h0 : u64N w0) (h1 : u64N w1) (h2 : u64N w2) (h3 : u64N w3) (b : Nat) (hb : b < 256) (w : World) :
    Calls Tryz.prog 189 #[wordsV w0 w1 w2 w3, .int .u8 b] w fun e w' => e = .returned (.bool (hasW [w0, w1, w2, w3] b)) ∧ Below w.heap.size w w' := by
  have HQ := Lib.hid (hasW_eq w0 w1 w2 w3 b)
  have HPW := Lib.hid (fun (z : Int) (hz : z = ((b % 64 : Nat) : Int)) (w : World) => power_at z (b % 64) hz (by omega) w)
  have hp : (2 : Nat) ^ (b % 64) ≤ 2 ^ 63 := Nat.pow_le_pow_right (by decide) (by omega)
  have hp0 : 0 < (2 : Nat) ^ (b % 64) := Nat.pos_of_ne_zero (by simp)
  generalize (2 : Nat) ^ (b % 64) = p at *
  have hp3 : (p : Int) ≤ 9223372036854775808 := by
    have : (2 : Nat) ^ 63 = 9223372036854775808 := by decide
    omega
  have hp1 : ((p : Int) == 0) = false := by rw [beq_eq_false_iff_ne]; omega
  clear hp
  unfold u64N at *
  unfold wordsV
  have HK0 := Lib.hid (bx_new w (.cells #[.int .u64 (w0 : Int), .int .u64 (w1 : Int), .int .u64 (w2 : Int), .int .u64 (w3 : Int)] 69))
  have HB0 := Lib.hid (bx1 w (.cells #[.int .u64 (w0 : Int), .int .u64 (w1 : Int), .int .u64 (w2 : Int), .int .u64 (w3 : Int)] 69))
  go_enter Tryz.func189, Tryz.ntmps189
  go_wp2_with fail
  have hsz : w.heap.size < (w.alloc (.cells #[.int .u64 (w0 : Int), .int .u64 (w1 : Int), .int .u64 (w2 : Int), .int .u64 (w3 : Int)] 69)).heap.size := by simp
  generalize (w.alloc (.cells #[.int .u64 (w0 : Int), .int .u64 (w1 : Int), .int .u64 (w2 : Int), .int .u64 (w3 : Int)] 69)) = W at *
  have hq4 : b / 64 < 4 := by omega
  have hq4 : b / 64 < 4 := by omega
  obtain ⟨x, hx, hx2, HX, HC⟩ : ∃ x : Nat, x < 18446744073709551616 ∧ ((x / p : Nat) : Int) < 18446744073709551616 ∧ Hid (hasW [w0, w1, w2, w3] b = (x / p % 2 == 1)) ∧ W.cell? ⟨w.heap.size, b / 64, none⟩ = some (.int .u64 (x : Int)) := by
    obtain ⟨c0, c1, c2, c3, _⟩ := blk4 HK0.out
    have hdiv : ∀ x : Nat, x < 18446744073709551616 → ((x / p : Nat) : Int) < 18446744073709551616 := fun x h => by have := Nat.div_le_self x p; omega
    have hq : b / 64 = 0 ∨ b / 64 = 1 ∨ b / 64 = 2 ∨ b / 64 = 3 := by omega
    rcases hq with h | h | h | h
    · exact ⟨w0, h0, hdiv _ h0, Lib.hid (by rw [HQ.out, h]; rfl), by rw [h]; exact c0⟩
    · exact ⟨w1, h1, hdiv _ h1, Lib.hid (by rw [HQ.out, h]; rfl), by rw [h]; exact c1⟩
    · exact ⟨w2, h2, hdiv _ h2, Lib.hid (by rw [HQ.out, h]; rfl), by rw [h]; exact c2⟩
    · exact ⟨w3, h3, hdiv _ h3, Lib.hid (by rw [HQ.out, h]; rfl), by rw [h]; exact c3⟩
  obtain ⟨q, hq⟩ : ∃ q, q = b / 64 := ⟨_, rfl⟩
  rw [← hq] at HC hq4
  obtain ⟨r, hr⟩ : ∃ r, r = b % 64 := ⟨_, rfl⟩
  rw [← hr] at HPW
  have i7 : (b : Int).tdiv 64 = (q : Int) := by rw [Int.tdiv_eq_ediv_of_nonneg (by omega)]; omega
  have i6 : (b : Int).tmod 64 = (r : Int) := by rw [Int.tmod_eq_emod_of_nonneg (by omega)]; omega
  have i5 : (b : Int) / 64 = (q : Int) := by omega
  have i4 : (b : Int) % 64 = (r : Int) := by omega
  have i8 : (q : Int) < 4 := by omega
  have hal : Tryz.prog.arrayLen 69 = 4 := by kernel_rfl
  have i9 : (0 : Int) ≤ (q : Int) := by omega
  have k1 : IntKind.i64.wrap (b : Int) = b := by simp [IntKind.wrap, IntKind.signed, IntKind.bits]; omega
  have k2 : IntKind.i64.wrap (q : Int) = q := by simp [IntKind.wrap, IntKind.signed, IntKind.bits]; omega
  have k3 : IntKind.i64.wrap (r : Int) = r := by simp [IntKind.wrap, IntKind.signed, IntKind.bits]; omega
  obtain ⟨y, hy⟩ : ∃ y : Nat, y = x / p := ⟨_, rfl⟩
  obtain ⟨z, hz⟩ : ∃ z : Nat, z = y % 2 := ⟨_, rfl⟩
  rw [← hy] at HX hx2
  rw [← hz] at HX
  have j1 : (x : Int).tdiv (p : Int) = (y : Int) := by rw [Int.tdiv_eq_ediv_of_nonneg (by omega), hy]; rfl
  have j5 : ¬ p = 0 := by omega
  have j7 : (p == 0) = false := by rw [beq_eq_false_iff_ne]; omega
  have j6 : ((x : Int) / (p : Int)) = (y : Int) := by rw [hy]; rfl
  have j2 : IntKind.u64.wrap (y : Int) = y := by simp [IntKind.wrap, IntKind.signed, IntKind.bits]; omega
  have j3 : (y : Int).tmod 2 = (z : Int) := by rw [Int.tmod_eq_emod_of_nonneg (by omega)]; omega
  have j4 : IntKind.u64.wrap (z : Int) = z := by simp [IntKind.wrap, IntKind.signed, IntKind.bits]; omega
  have HZ := Lib.hid (show ((z : Int) == 1) = hasW [w0, w1, w2, w3] b from by rw [HX.out, Bool.eq_iff_iff, beq_iff_eq, beq_iff_eq]; omega)
  clear hq hq4 hr i4 i5 hx2 hy hz
  go_region_held3 (fun w' => w'.cell? ⟨w.heap.size, q, none⟩ = some (.int .u64 (x : Int)))
    (exact HC)
    (((go_at_call 196; (with_reducible refine (HPW.out _ rfl _).mono ?_); rintro e wa ⟨rfl, rfl⟩)))
  go_wp2_with fail
  go_ret
  exact ⟨ret_bool HZ.out, HB0.out.drew⟩
end Go.Proofs.YtmjkgnknfgoadaaGreatDoor
/- The contract of bonsairef01.Runs. -/
namespace Go.Proofs.YtmjkgnknfgoadaaGreatDoor
open Go.RowKit
set_option linter.unusedSimpArgs false
set_option linter.unusedVariables false
theorem own_stay {w w' : World} {base : Nat} {e : TypeId} {size n c : Nat} {V : Option Addr} {xs : List Value} (h : w.ownsRow base e size (.slice V n c) n xs) (hb : Below w.heap.size w w') : w'.ownsRow base e size (.slice V n c) n xs :=
  own_agree h fun k hk => hb.block k (own_blk h k hk).2
theorem has_at (w0 w1 w2 w3 : Nat) (h0 : u64N w0) (h1 : u64N w1) (h2 : u64N w2) (h3 : u64N w3) (z : Int) (b : Nat) (hz : z = (b : Int)) (hb : b < 256) (w : World) :
    Calls Tryz.prog 189 #[.agg #[.int .u64 (w0 : Int), .int .u64 (w1 : Int), .int .u64 (w2 : Int), .int .u64 (w3 : Int)], .int .u8 z] w fun e w' => e = .returned (.bool (hasW [w0, w1, w2, w3] b)) ∧ Below w.heap.size w w' := by
  subst hz; exact has_any w0 w1 w2 w3 h0 h1 h2 h3 b hb w
theorem all_next {F : Nat → Bool} {n y : Nat} (h : ∀ b, n ≤ b → b ≤ y → F b = true) (h2 : F (y + 1) = true) : ∀ b, n ≤ b → b ≤ y + 1 → F b = true := fun b h3 h4 => by
  rcases Nat.lt_or_ge y b with h5 | h5
  · rw [show b = y + 1 by omega]; exact h2
  · exact h b h3 h5
def RunsOut (f : Nat → Bool) (W : World) (v3 v4 : Value) (wr : World) : Prop :=
  ∃ (n : Nat) (R : List (Nat × Nat)) (V : Option Addr) (c : Nat), n ≤ 256 ∧ v4 = .int .i64 n ∧ v3 = .slice V R.length c ∧ Hid (RunInv f n R) ∧ Hid (wr.ownsRow W.heap.size 210 2 (.slice V R.length c) R.length (runsV R)) ∧ Hid (Below W.heap.size W wr)
set_option maxRecDepth 100000 in
set_option maxHeartbeats 6400000 in
theorem rruns_any (w0 w1 w2 w3 : Nat) (h0 : u64N w0) (h1 : u64N w1) (h2 : u64N w2) (h3 : u64N w3) (w : World) :
    Calls Tryz.prog 179 #[wordsV w0 w1 w2 w3] w fun e w' => ∃ (V : Option Addr) (c : Nat), e = .returned (.slice V (runsF (hasW [w0, w1, w2, w3])).length c) ∧
      w'.ownsRow (w.heap.size + 1) 210 2 (.slice V (runsF (hasW [w0, w1, w2, w3])).length c) (runsF (hasW [w0, w1, w2, w3])).length (runsV (runsF (hasW [w0, w1, w2, w3]))) ∧ Below w.heap.size w w' := by
  obtain ⟨j0, hj, hy0, hy1, hy2⟩ := info_parts infoPair
  have HB0 := Lib.hid (bx1 w (.cells #[.int .u64 (w0 : Int), .int .u64 (w1 : Int), .int .u64 (w2 : Int), .int .u64 (w3 : Int)] 69))
  have HK0 := Lib.hid (bx_new w (.cells #[.int .u64 (w0 : Int), .int .u64 (w1 : Int), .int .u64 (w2 : Int), .int .u64 (w3 : Int)] 69))
  have HH := Lib.hid (fun z b hz hb w => has_at w0 w1 w2 w3 h0 h1 h2 h3 z b hz hb w)
  generalize hF : hasW [w0, w1, w2, w3] = F at *
  unfold wordsV
  clear hF h0 h1 h2 h3
  go_enter Tryz.func179, Tryz.ntmps179
  go_upto_region 1 with (fail)
  have hsz : w.heap.size + 1 = (w.alloc (.cells #[.int .u64 (w0 : Int), .int .u64 (w1 : Int), .int .u64 (w2 : Int), .int .u64 (w3 : Int)] 69)).heap.size := by simp
  have HSZ := Lib.hid hsz
  clear hsz
  generalize (w.alloc (.cells #[.int .u64 (w0 : Int), .int .u64 (w1 : Int), .int .u64 (w2 : Int), .int .u64 (w3 : Int)] 69)) = W at *
  have HS := Lib.hid (show ∀ w', Below W.heap.size W w' → w'.cell? ⟨w.heap.size, 0, none⟩ = some (.int .u64 (w0 : Int)) ∧ w'.cell? ⟨w.heap.size, 1, none⟩ = some (.int .u64 (w1 : Int)) ∧ w'.cell? ⟨w.heap.size, 2, none⟩ = some (.int .u64 (w2 : Int)) ∧ w'.cell? ⟨w.heap.size, 3, none⟩ = some (.int .u64 (w3 : Int)) from fun w' hb => by
    obtain ⟨a, b, c, d, _⟩ := blk4 (bx_kept hb HK0.out); exact ⟨a, b, c, d⟩)
  go_wp2_with fail
  go_loopw [3, 4] (fun v3 v4 wr => RunsOut F W v3 v4 wr) (fun _ v4 _ => 256 - (intOf v4).toNat)
  case atStart => exact ⟨0, [], none, 0, by omega, rfl, rfl, Lib.hid (RunInv.zero F), Lib.hid (World.ownsRow_nil _ _ _ _), Lib.hid (Below.refl _ _)⟩
  case round =>
    obtain ⟨n, R, V, c, hn, rfl, rfl, HR, HO, HB⟩ := hrel
    obtain ⟨wo, rfl⟩ : ∃ wo, wo = wr := ⟨_, rfl⟩
    obtain ⟨a0, a1, a2, a3⟩ := HS.out wo HB.out
    by_cases hlt : n < 256
    · have i1 : (n : Int) < 256 := by omega
      have k1 : IntKind.u8.wrap (n : Int) = n := by simp [IntKind.wrap, IntKind.signed, IntKind.bits]; omega
      have hrl := Lib.hid (HR.out.len hn)
      cases hf : F n
      · have HSA := Lib.hid (RunInv.same HR.out (by omega) (.inl hf))
        as_aux_lemma =>
          go_wp2_with (go_at_call 189; refine (HH.out _ n (by omega) hlt _).mono ?_; rintro e w5 ⟨rfl, hb5⟩; have HB5 := Lib.hid hb5; clear hb5; rw [hf])
          exact ⟨⟨n + 1, R, V, c, hlt, by go_num, rfl, HSA, Lib.hid (own_stay HO.out HB5.out), Lib.hid (HB.out.trans (HB5.out.mono HB.out.size))⟩, by simp [intOf]; omega⟩
      · by_cases hn0 : n = 0
        · have hn1 : ¬ (0 : Int) < (n : Int) := by omega
          have hp : n = 0 ∨ F (n - 1) = false := .inl hn0
          have HP := Lib.hid hp
          clear hn0 hp
          as_aux_lemma =>
            go_wp2_with (go_at_call 189; refine (HH.out _ n (by omega) hlt _).mono ?_; rintro e w5 ⟨rfl, hb5⟩; have HBS := Lib.hid hb5; clear hb5; rw [hf])
            go_loopw [5] (fun v5 wq => ∃ y : Nat, n ≤ y ∧ y ≤ 255 ∧ v5 = .int .i64 y ∧ Hid (∀ b, n ≤ b → b ≤ y → F b = true) ∧ Hid (Below wo.heap.size wo wq)) (fun v5 _ => 255 - (intOf v5).toNat)
            case atStart => exact ⟨n, Nat.le_refl _, by omega, rfl, Lib.hid (fun b h1 h2 => by rw [show b = n by omega]; exact hf), HBS⟩
            case round =>
              obtain ⟨y, hy, hy5, rfl, HALL, HBQ⟩ := hrel
              clear a0 a1 a2 a3
              obtain ⟨a0, a1, a2, a3⟩ := HS.out wr (HB.out.trans (HBQ.out.mono HB.out.size))
              by_cases hyl : y < 255
              · have i5 : (y : Int) < 255 := by omega
                have k3 : IntKind.u8.wrap ((y : Int) + 1) = (y : Int) + 1 := by simp [IntKind.wrap, IntKind.signed, IntKind.bits]; omega
                have k4 : IntKind.u8.wrap (1 + (y : Int)) = 1 + (y : Int) := by simp [IntKind.wrap, IntKind.signed, IntKind.bits]; omega
                cases hf2 : F (y + 1)
                · have hend : y = 255 ∨ F (y + 1) = false := .inr hf2
                  have HSN := Lib.hid (RunInv.new HR.out hf HP.out y hy hy5 HALL.out hend)
                  have k2 : IntKind.u8.wrap (y : Int) = y := by simp [IntKind.wrap, IntKind.signed, IntKind.bits]; omega
                  clear hend
                  go_wp2_with (first | (go_at_call 189; refine (HH.out _ (y + 1) (by omega) (by omega) _).mono ?_; rintro e w6 ⟨rfl, hb6⟩; have HBZ := Lib.hid (HBQ.out.trans (hb6.mono HBQ.out.size)); clear hb6; rw [hf2]; clear hf2; have HO2 := Lib.hid (own_stay HO.out HBZ.out); have HBY := Lib.hid (HB.out.trans (HBZ.out.mono HB.out.size))) | (at_builtin; refine wpList_append_row _ rfl (.tmp 38) (.tmp 44) _ rfl W.heap.size 210 j0 (.agg #[.int .u8 0, .int .u8 0]) 2 2 Tryz.underlying208 hj hy0 hy1 hy2 rfl (by decide) (.slice V R.length c) R.length (runsV R) rfl (World.ownsRow.alloc HO2.out _) (some ⟨w6.heap.size, 0, none⟩) 1 1 [.int .u8 (n : Int), .int .u8 (y : Int)] rfl rfl (rowB_blk (bx_new w6 _)) (by simp [Value.oneCell']) (by have := hrl.out; unfold maxLen; omega) (by have := hrl.out; omega) (by have := HBY.out.size; simp; omega) ?_; intro v' w7 hown' hgrow'; obtain ⟨V', c', rfl⟩ := ownsRow_slice hown'; have HON := Lib.hid hown'; have HGR := Lib.hid hgrow'; clear hown' hgrow'))
                  exact ⟨⟨n + 1, R ++ [(n, y)], V', c', hlt, by go_num, by rw [List.length_append]; rfl, HSN, Lib.hid (by rw [List.length_append, runsV_append]; exact HON.out), Lib.hid ((HBY.out.alloc HBY.out.size _).grown HGR.out (by have := HBY.out.size; simp; omega) (fun k e => (World.ownsRow.lt HO2.out k e).1))⟩, by simp [intOf]; omega⟩
                · go_wp2_with (go_at_call 189; refine (HH.out _ (y + 1) (by omega) (by omega) _).mono ?_; rintro e w6 ⟨rfl, hb6⟩; have HBZ := Lib.hid (HBQ.out.trans (hb6.mono HBQ.out.size)); clear hb6; rw [hf2])
                  exact ⟨⟨y + 1, by omega, by omega, by go_num, Lib.hid (all_next HALL.out hf2), HBZ⟩, by simp [intOf]; omega⟩
              · have i5 : ¬ (y : Int) < 255 := by omega
                have hend : y = 255 ∨ F (y + 1) = false := .inl (by omega)
                have HBZ := HBQ
                have HSN := Lib.hid (RunInv.new HR.out hf HP.out y hy hy5 HALL.out hend)
                have k2 : IntKind.u8.wrap (y : Int) = y := by simp [IntKind.wrap, IntKind.signed, IntKind.bits]; omega
                clear hend
                have HO2 := Lib.hid (own_stay HO.out HBZ.out)
                have HBY := Lib.hid (HB.out.trans (HBZ.out.mono HB.out.size))
                go_wp2_with (first | (at_builtin; refine wpList_append_row _ rfl (.tmp 38) (.tmp 44) _ rfl W.heap.size 210 j0 (.agg #[.int .u8 0, .int .u8 0]) 2 2 Tryz.underlying208 hj hy0 hy1 hy2 rfl (by decide) (.slice V R.length c) R.length (runsV R) rfl (World.ownsRow.alloc HO2.out _) (some ⟨wr.heap.size, 0, none⟩) 1 1 [.int .u8 (n : Int), .int .u8 (y : Int)] rfl rfl (rowB_blk (bx_new wr _)) (by simp [Value.oneCell']) (by have := hrl.out; unfold maxLen; omega) (by have := hrl.out; omega) (by have := HBY.out.size; simp; omega) ?_; intro v' w7 hown' hgrow'; obtain ⟨V', c', rfl⟩ := ownsRow_slice hown'; have HON := Lib.hid hown'; have HGR := Lib.hid hgrow'; clear hown' hgrow'))
                exact ⟨⟨n + 1, R ++ [(n, y)], V', c', hlt, by go_num, by rw [List.length_append]; rfl, HSN, Lib.hid (by rw [List.length_append, runsV_append]; exact HON.out), Lib.hid ((HBY.out.alloc HBY.out.size _).grown HGR.out (by have := HBY.out.size; simp; omega) (fun k e => (World.ownsRow.lt HO2.out k e).1))⟩, by simp [intOf]; omega⟩
        · have hn1 : (0 : Int) < (n : Int) := by omega
          have k5 : IntKind.u8.wrap ((n : Int) - 1) = (n : Int) - 1 := by simp [IntKind.wrap, IntKind.signed, IntKind.bits]; omega
          cases hf1 : F (n - 1)
          · have HP := Lib.hid (show n = 0 ∨ F (n - 1) = false from .inr hf1)
            as_aux_lemma =>
              go_wp2_with (first | (go_at_call 189; refine (HH.out _ n (by omega) hlt _).mono ?_; rintro e w5 ⟨rfl, hb5⟩; have HB5 := Lib.hid hb5; clear hb5; rw [hf]; clear a0 a1 a2 a3; obtain ⟨a0, a1, a2, a3⟩ := HS.out w5 (HB.out.trans (HB5.out.mono HB.out.size))) | (go_at_call 189; refine (HH.out _ (n - 1) (by omega) (by omega) _).mono ?_; rintro e w6 ⟨rfl, hb6⟩; have HBS := Lib.hid (HB5.out.trans (hb6.mono HB5.out.size)); clear hb6; rw [hf1]))
              clear hf1
              go_loopw [5] (fun v5 wq => ∃ y : Nat, n ≤ y ∧ y ≤ 255 ∧ v5 = .int .i64 y ∧ Hid (∀ b, n ≤ b → b ≤ y → F b = true) ∧ Hid (Below wo.heap.size wo wq)) (fun v5 _ => 255 - (intOf v5).toNat)
              case atStart => exact ⟨n, Nat.le_refl _, by omega, rfl, Lib.hid (fun b h1 h2 => by rw [show b = n by omega]; exact hf), HBS⟩
              case round =>
                obtain ⟨y, hy, hy5, rfl, HALL, HBQ⟩ := hrel
                clear a0 a1 a2 a3
                obtain ⟨a0, a1, a2, a3⟩ := HS.out wr (HB.out.trans (HBQ.out.mono HB.out.size))
                by_cases hyl : y < 255
                · have i5 : (y : Int) < 255 := by omega
                  have k3 : IntKind.u8.wrap ((y : Int) + 1) = (y : Int) + 1 := by simp [IntKind.wrap, IntKind.signed, IntKind.bits]; omega
                  have k4 : IntKind.u8.wrap (1 + (y : Int)) = 1 + (y : Int) := by simp [IntKind.wrap, IntKind.signed, IntKind.bits]; omega
                  cases hf2 : F (y + 1)
                  · have hend : y = 255 ∨ F (y + 1) = false := .inr hf2
                    have HSN := Lib.hid (RunInv.new HR.out hf HP.out y hy hy5 HALL.out hend)
                    have k2 : IntKind.u8.wrap (y : Int) = y := by simp [IntKind.wrap, IntKind.signed, IntKind.bits]; omega
                    clear hend
                    go_wp2_with (first | (go_at_call 189; refine (HH.out _ (y + 1) (by omega) (by omega) _).mono ?_; rintro e w6 ⟨rfl, hb6⟩; have HBZ := Lib.hid (HBQ.out.trans (hb6.mono HBQ.out.size)); clear hb6; rw [hf2]; clear hf2; have HO2 := Lib.hid (own_stay HO.out HBZ.out); have HBY := Lib.hid (HB.out.trans (HBZ.out.mono HB.out.size))) | (at_builtin; refine wpList_append_row _ rfl (.tmp 38) (.tmp 44) _ rfl W.heap.size 210 j0 (.agg #[.int .u8 0, .int .u8 0]) 2 2 Tryz.underlying208 hj hy0 hy1 hy2 rfl (by decide) (.slice V R.length c) R.length (runsV R) rfl (World.ownsRow.alloc HO2.out _) (some ⟨w6.heap.size, 0, none⟩) 1 1 [.int .u8 (n : Int), .int .u8 (y : Int)] rfl rfl (rowB_blk (bx_new w6 _)) (by simp [Value.oneCell']) (by have := hrl.out; unfold maxLen; omega) (by have := hrl.out; omega) (by have := HBY.out.size; simp; omega) ?_; intro v' w7 hown' hgrow'; obtain ⟨V', c', rfl⟩ := ownsRow_slice hown'; have HON := Lib.hid hown'; have HGR := Lib.hid hgrow'; clear hown' hgrow'))
                    exact ⟨⟨n + 1, R ++ [(n, y)], V', c', hlt, by go_num, by rw [List.length_append]; rfl, HSN, Lib.hid (by rw [List.length_append, runsV_append]; exact HON.out), Lib.hid ((HBY.out.alloc HBY.out.size _).grown HGR.out (by have := HBY.out.size; simp; omega) (fun k e => (World.ownsRow.lt HO2.out k e).1))⟩, by simp [intOf]; omega⟩
                  · go_wp2_with (go_at_call 189; refine (HH.out _ (y + 1) (by omega) (by omega) _).mono ?_; rintro e w6 ⟨rfl, hb6⟩; have HBZ := Lib.hid (HBQ.out.trans (hb6.mono HBQ.out.size)); clear hb6; rw [hf2])
                    exact ⟨⟨y + 1, by omega, by omega, by go_num, Lib.hid (all_next HALL.out hf2), HBZ⟩, by simp [intOf]; omega⟩
                · have i5 : ¬ (y : Int) < 255 := by omega
                  have hend : y = 255 ∨ F (y + 1) = false := .inl (by omega)
                  have HBZ := HBQ
                  have HSN := Lib.hid (RunInv.new HR.out hf HP.out y hy hy5 HALL.out hend)
                  have k2 : IntKind.u8.wrap (y : Int) = y := by simp [IntKind.wrap, IntKind.signed, IntKind.bits]; omega
                  clear hend
                  have HO2 := Lib.hid (own_stay HO.out HBZ.out)
                  have HBY := Lib.hid (HB.out.trans (HBZ.out.mono HB.out.size))
                  go_wp2_with (first | (at_builtin; refine wpList_append_row _ rfl (.tmp 38) (.tmp 44) _ rfl W.heap.size 210 j0 (.agg #[.int .u8 0, .int .u8 0]) 2 2 Tryz.underlying208 hj hy0 hy1 hy2 rfl (by decide) (.slice V R.length c) R.length (runsV R) rfl (World.ownsRow.alloc HO2.out _) (some ⟨wr.heap.size, 0, none⟩) 1 1 [.int .u8 (n : Int), .int .u8 (y : Int)] rfl rfl (rowB_blk (bx_new wr _)) (by simp [Value.oneCell']) (by have := hrl.out; unfold maxLen; omega) (by have := hrl.out; omega) (by have := HBY.out.size; simp; omega) ?_; intro v' w7 hown' hgrow'; obtain ⟨V', c', rfl⟩ := ownsRow_slice hown'; have HON := Lib.hid hown'; have HGR := Lib.hid hgrow'; clear hown' hgrow'))
                  exact ⟨⟨n + 1, R ++ [(n, y)], V', c', hlt, by go_num, by rw [List.length_append]; rfl, HSN, Lib.hid (by rw [List.length_append, runsV_append]; exact HON.out), Lib.hid ((HBY.out.alloc HBY.out.size _).grown HGR.out (by have := HBY.out.size; simp; omega) (fun k e => (World.ownsRow.lt HO2.out k e).1))⟩, by simp [intOf]; omega⟩
          · have HSA := Lib.hid (RunInv.same HR.out (by omega) (.inr ⟨by omega, hf1⟩))
            as_aux_lemma =>
              go_wp2_with (first | (go_at_call 189; refine (HH.out _ n (by omega) hlt _).mono ?_; rintro e w5 ⟨rfl, hb5⟩; have HB5 := Lib.hid hb5; clear hb5; rw [hf]; clear a0 a1 a2 a3; obtain ⟨a0, a1, a2, a3⟩ := HS.out w5 (HB.out.trans (HB5.out.mono HB.out.size))) | (go_at_call 189; refine (HH.out _ (n - 1) (by omega) (by omega) _).mono ?_; rintro e w6 ⟨rfl, hb6⟩; have HBS := Lib.hid (HB5.out.trans (hb6.mono HB5.out.size)); clear hb6; rw [hf1]))
              exact ⟨⟨n + 1, R, V, c, hlt, by go_num, rfl, HSA, Lib.hid (own_stay HO.out HBS.out), Lib.hid (HB.out.trans (HBS.out.mono HB.out.size))⟩, by simp [intOf]; omega⟩
    · obtain rfl : n = 256 := by omega
      have HD := Lib.hid (HR.out.done)
      have HBW := Lib.hid (HB0.out.trans (HB.out.mono HB0.out.size))
      obtain rfl := HD.out
      go_wp2_with fail
      go_ret
      exact ⟨V, c, rfl, by rw [HSZ.out]; exact HO.out, HBW.out⟩
end Go.Proofs.YtmjkgnknfgoadaaGreatDoor
