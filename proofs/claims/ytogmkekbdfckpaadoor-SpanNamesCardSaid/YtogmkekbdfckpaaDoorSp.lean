/- long, the law's guard of layer 14. -/
import Derived.Test.YtogmkekbdfckpaaDoorSo
namespace Go.Proofs.YtogmkekbdfckpaaDoor
open Go.RowKit
set_option linter.unusedSimpArgs false
set_option linter.unusedVariables false

/-- An outcome as it stands in memory. -/
structure OV where
  A : Option Addr
  c : Nat
  o : Outc
def ovCells (x : OV) : List Value := [.bool x.o.ok, .int .i64 x.o.to, .slice x.A x.o.caps.length x.c]
def cellsOV (l : List OV) : List Value := l.flatMap ovCells
theorem cellsOV_at : (l : List OV) → (k : Nat) → (hk : k < l.length) → (cellsOV l)[k * 3]? = some (.bool l[k].o.ok) ∧ (cellsOV l)[k * 3 + 2]? = some (.slice l[k].A l[k].o.caps.length l[k].c)
  | c :: r, 0, _ => ⟨rfl, rfl⟩
  | c :: r, k + 1, hk => by
    have ih := cellsOV_at r k (by simpa using hk)
    have e : ∀ j, (cellsOV (c :: r))[j + 3]? = (cellsOV r)[j]? := fun j => rfl
    rw [show (k + 1) * 3 = k * 3 + 3 by omega, show k * 3 + 3 + 2 = (k * 3 + 2) + 3 by omega, e, e]
    exact ih
theorem RowAt.ovs {w : World} {A : Option Addr} {l : List OV} (h : RowAt w A (cellsOV l)) (k : Nat) (hk : k < l.length) :
    ∃ b o, A = some ⟨b, o, none⟩ ∧ w.cell? ⟨b, o + k * 3 + 2, none⟩ = some (.slice l[k].A l[k].o.caps.length l[k].c) := by
  obtain ⟨_, e2⟩ := cellsOV_at l k hk
  obtain ⟨e0, _⟩ := cellsOV_at l 0 (by omega)
  obtain ⟨⟨b, o, sp⟩, rfl, h0⟩ := h _ _ e0
  rw [Nat.zero_mul, Addr.add_zero'] at h0
  obtain rfl := cellSpot h0
  obtain ⟨_, e, h1⟩ := h _ _ e2
  cases e
  rw [Addr.add_lit] at h1
  exact ⟨b, o, rfl, h1⟩

def LongPost (w : World) (l : List OV) (e : Ending) (w' : World) : Prop := ∃ b : Bool, e = .returned (.bool b) ∧ w = w' ∧ (b = false → ∀ (i : Nat) (h : i < l.length), l[i].o.caps.length < 900)

set_option maxRecDepth 100000 in
set_option maxHeartbeats 1600000 in
theorem long_any (l : List OV) (A : Option Addr) (c : Nat) (w : World) (hA : RowAt w A (cellsOV l)) (hR : ∀ (i : Nat) (h : i < l.length), RowAt w l[i].A (cellsOf l[i].o.caps)) (hl : l.length ≤ 1000) (hc : ∀ (i : Nat) (h : i < l.length), l[i].o.caps.length ≤ 281474976710656) :
    Calls Tryd.prog 10 #[.slice A l.length c] w (LongPost w l) := by
  go_enter Tryd.func10, Tryd.ntmps10
  have HR := Lib.hid hR; clear hR
  have HC := Lib.hid hc; clear hc
  go_wp2_with fail
  go_loop [3, 4, 5] (fun n i _ => ∃ (k : Nat) (m : Int), k ≤ l.length ∧ i = .int .i64 k ∧ n = .int .i64 m ∧ 0 ≤ m ∧ m ≤ 4000 ∧ (m < 900 → ∀ (i : Nat) (h : i < l.length), i < k → l[i].o.caps.length < 900)) (fun _ i _ => l.length - (intOf i).toNat)
  case atStart => exact ⟨0, 0, by omega, rfl, rfl, by omega, by omega, fun _ i _ h => by omega⟩
  case round =>
    obtain ⟨k, m, hk, rfl, rfl, hm0, hm1, hall⟩ := hrel
    have HAL := Lib.hid hall; clear hall
    by_cases hlt : k < l.length
    · by_cases hm : m < 900
      · obtain ⟨ab, ao, rfl, x1⟩ := hA.ovs k hlt
        have hck := HC.out k hlt
        have HRk := Lib.hid (HR.out k hlt)
        generalize hL : l[k].o.caps = L at x1 hck HRk
        generalize hLA : l[k].A = LA at x1 HRk
        have HLL := Lib.hid hL; clear hL hLA
        have HX1 := Lib.hid x1
        have hall0 := Lib.hid (show ∀ m' : Int, m + min 900 (L.length : Int) ≤ m' → m' < 900 → ∀ (i : Nat) (h : i < l.length), i < k + 1 → l[i].o.caps.length < 900 from fun m' hm1 hm2 i h hi => by
          by_cases e : i = k
          · subst e; rw [HLL.out]; omega
          · exact HAL.out hm i h (by omega))
        clear HAL
        by_cases h9 : L.length < 900
        · have hmin : min 900 (L.length : Int) = L.length := by omega
          go_wp2_with fail
          clear hmin
          go_loop [3, 5] (fun n j => ∃ (q : Nat) (m' : Int), q ≤ L.length ∧ j = .int .i64 q ∧ n = .int .i64 m' ∧ 0 ≤ m' ∧ m' ≤ 4000 ∧ m + min 900 (L.length : Int) ≤ m') (fun _ j => L.length - (intOf j).toNat)
          case atStart => exact ⟨0, _, by omega, rfl, rfl, by omega, by omega, by omega⟩
          case round =>
            obtain ⟨q, m', hq, rfl, rfl, hm0', hm1', hmm⟩ := hrel
            have HMM := Lib.hid hmm; clear hmm
            by_cases hql : q < L.length
            · by_cases hm9 : m' < 900
              · obtain ⟨bb, bo, rfl, y1, _, _⟩ := HRk.out.caps q hql
                have hq2 : (q : Int) < (L.length : Int) := by omega
                have d1 : 0 ≤ min 900 (L[q].name.size : Int) / 40 := by omega
                have d2 : min 900 (L[q].name.size : Int) / 40 ≤ 900 := by omega
                have d3 : 0 ≤ min 900 (L[q].name.size : Int) := by omega
                go_wp2_with fail
                exact ⟨⟨q + 1, _, by omega, by go_num, rfl, by omega, by omega, by have := HMM.out; omega⟩, by simp [intOf]; omega⟩
              · go_wp2_with fail
                exact ⟨⟨k + 1, m', by omega, by go_num, rfl, by omega, by omega, fun h => by omega⟩, by simp [intOf]; omega⟩
            · have hq3 : q = L.length := by omega
              subst hq3
              go_wp2_with fail
              exact ⟨⟨k + 1, m', by omega, by go_num, rfl, by omega, by omega, hall0.out m' HMM.out⟩, by simp [intOf]; omega⟩
        · have hmin : min 900 (L.length : Int) = 900 := by omega
          go_wp2_with fail
          clear hmin
          go_loop [3, 5] (fun n j => ∃ (m' : Int), n = .int .i64 m' ∧ 900 ≤ m' ∧ m' ≤ 4000 ∧ ∃ q : Nat, q ≤ L.length ∧ j = .int .i64 q) (fun _ j => 0)
          case atStart => exact ⟨_, rfl, by omega, by omega, 0, by omega, rfl⟩
          case round =>
            obtain ⟨m', rfl, hm0', hm1', q, hq, rfl⟩ := hrel
            go_wp2_with fail
            all_goals exact ⟨⟨k + 1, m', by omega, by go_num, rfl, by omega, by omega, fun h => by omega⟩, by simp [intOf]; omega⟩
      · go_wp2_with fail
        go_ret
        exact ⟨_, rfl, rfl, fun h => by simp at h <;> omega⟩
    · have hk2 : k = l.length := by omega
      subst hk2
      go_wp2_with fail
      go_ret
      exact ⟨_, rfl, rfl, fun h i hi => HAL.out (by simp at h; omega) i hi hi⟩
end Go.Proofs.YtogmkekbdfckpaaDoor
