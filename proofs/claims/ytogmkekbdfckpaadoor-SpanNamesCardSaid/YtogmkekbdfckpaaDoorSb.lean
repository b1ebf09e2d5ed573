/- Captures in memory; two captures compared; slices.Equal. -/
import Derived.Test.YtogmkekbdfckpaaDoorRows
import Derived.Test.YtogmkekbdfckpaaDoorSa
import Derived.Test.YtogmkekbdfckpaaDoorApp
import Derived.WalkKit
import Derived.WalkSpells
import Derived.WalkLawsBesides
import Derived.Laws.StructEq
import Derived.BigQuiet
import Derived.Deep.QuietTactic
import Derived.Deep.Cut
namespace Go.Proofs.YtogmkekbdfckpaaDoor
open Go.RowKit

abbrev capV (c : Cap) : Value := .agg #[.string c.name, .int .i64 c.frm, .int .i64 c.to]
abbrev outV (A : Option Addr) (c : Nat) (o : Outc) : Value := .agg #[.bool o.ok, .int .i64 o.to, .slice A o.caps.length c]

theorem toList_inj (a b : ByteArray) : a.toList = b.toList ↔ a = b := by
  refine ⟨fun h => ?_, fun h => by rw [h]⟩
  rw [ByteArray.toList_eq, ByteArray.toList_eq] at h
  obtain ⟨⟨x⟩⟩ := a
  obtain ⟨⟨y⟩⟩ := b
  simpa using h

theorem eqFields_cap (w : World) (a b : Cap) : ((Op.equalIn 10000 33 (capV a) (capV b)).run Tryd.prog w) = .ok (decide (a = b)) w := by
  have u3 := Tryd.underlying3
  have u9 := Tryd.underlying9
  have a3 := Tryd.isAgg3
  have z3 := Tryd.sizeOf3
  have a9 := Tryd.isAgg9
  have z9 := Tryd.sizeOf9
  have hS : Tryd.prog.underlying 33 = some (.struct (Tryd.prog.fieldsOf 33)) := by kernel_rfl
  have hp : Tryd.prog.stoodInHeld 33 = false := by kernel_rfl
  rw [show (10000 : Nat) = 9999 + 1 from rfl, run_equalIn_agg w 9999 33 _ _ hS hp]
  simp only [Program.fieldsOf, Tryd.underlying33]
  go_simp
  obtain ⟨n, f, t⟩ := a
  obtain ⟨n', f', t'⟩ := b
  simp only [Cap.mk.injEq]
  have hb := toList_inj n n'
  by_cases h1 : n = n' <;> by_cases h2 : f = f' <;> by_cases h3 : t = t' <;> simp [h1, h2, h3, hb]

theorem cellSpot {w : World} {b o : Nat} {sp : Option Nat} {v : Value} (h : w.cell? ⟨b, o, sp⟩ = some v) : sp = none := by
  cases sp with
  | none => rfl
  | some x =>
    unfold World.cell? at h
    split at h <;> simp at h

theorem RowAt.caps {w : World} {A : Option Addr} {l : List Cap} (h : RowAt w A (cellsOf l)) (k : Nat) (hk : k < l.length) :
    ∃ b o, A = some ⟨b, o, none⟩ ∧ w.cell? ⟨b, o + k * 3, none⟩ = some (.string l[k].name) ∧ w.cell? ⟨b, o + k * 3 + 1, none⟩ = some (.int .i64 l[k].frm) ∧ w.cell? ⟨b, o + k * 3 + 2, none⟩ = some (.int .i64 l[k].to) := by
  obtain ⟨e1, e2, e3⟩ := cellsOf_at l k hk
  obtain ⟨e0, _, _⟩ := cellsOf_at l 0 (by omega)
  obtain ⟨⟨b, o, sp⟩, rfl, h0⟩ := h _ _ e0
  rw [Nat.zero_mul, Addr.add_zero'] at h0
  obtain rfl := cellSpot h0
  obtain ⟨_, e, h1⟩ := h _ _ e1
  cases e
  obtain ⟨_, e, h2⟩ := h _ _ e2
  cases e
  obtain ⟨_, e, h3⟩ := h _ _ e3
  cases e
  rw [Addr.add_lit] at h1 h2 h3
  exact ⟨b, o, rfl, h1, h2, h3⟩

theorem take_caps {l m : List Cap} {k : Nat} (hl : k < l.length) (hm : k < m.length) (h : l.take k = m.take k) (e : l[k] = m[k]) : l.take (k + 1) = m.take (k + 1) := by
  rw [List.take_succ_eq_append_getElem hl, List.take_succ_eq_append_getElem hm, h, e]

set_option maxHeartbeats 400000 in
theorem equal_any (l m : List Cap) (A B : Option Addr) (c d : Nat) (w : World) (hA : RowAt w A (cellsOf l)) (hB : RowAt w B (cellsOf m)) (hl : l.length ≤ 281474976710656) (hm : m.length ≤ 281474976710656) :
    Calls Tryd.prog 37 #[.slice A l.length c, .slice B m.length d] w fun e w' => e = .returned (.bool (decide (l = m))) ∧ ∃ n, w' = w.drewN n := by
  go_enter Tryd.func37, Tryd.ntmps37
  by_cases hlen : l.length = m.length
  · have hle : ((l.length : Int) != (m.length : Int)) = false := by simp [hlen]
    have HL := Lib.hid hlen; clear hlen
    go_wp2
    clear hle
    go_loopw [13] (fun i wr => ∃ k : Nat, k ≤ l.length ∧ i = .int .i64 k ∧ l.take k = m.take k ∧ ∃ n, wr = w.drewN n) (fun i _ => l.length - (intOf i).toNat)
    case atStart => exact ⟨0, by omega, rfl, by simp, 0, rfl⟩
    case round =>
      obtain ⟨k, hk, rfl, hT, n, rfl⟩ := hrel
      have HT := Lib.hid hT; clear hT
      by_cases hlt : k < l.length
      · obtain ⟨ab, ao, rfl, x1, x2, x3⟩ := hA.caps k hlt
        obtain ⟨bb, bo, rfl, y1, y2, y3⟩ := hB.caps k (by have := HL.out; omega)
        have hE0 := fun w => eqFields_cap w l[k] (m[k]'(by have := HL.out; omega))
        have i1 : (k : Int) < (l.length : Int) := by omega
        have i2 : (k : Int) < (m.length : Int) := by have := HL.out; omega
        by_cases he : l[k] = m[k]'(by have := HL.out; omega)
        · have hE : ∀ w, ((Op.equalIn 10000 33 (.agg #[.string l[k].name, .int .i64 l[k].frm, .int .i64 l[k].to]) (.agg #[.string (m[k]'(by have := HL.out; omega)).name, .int .i64 (m[k]'(by have := HL.out; omega)).frm, .int .i64 (m[k]'(by have := HL.out; omega)).to])).run Tryd.prog w) = .ok true w := fun w => by rw [hE0 w, decide_eq_true he]
          clear hE0
          have HN := Lib.hid (take_caps hlt (by have := HL.out; omega) HT.out he); clear he
          go_wp2
          go_region
          go_wp2
          exact ⟨⟨k + 1, by omega, by go_num, HN.out, _, rfl⟩, by simp [intOf]; omega⟩
        · have hE : ∀ w, ((Op.equalIn 10000 33 (.agg #[.string l[k].name, .int .i64 l[k].frm, .int .i64 l[k].to]) (.agg #[.string (m[k]'(by have := HL.out; omega)).name, .int .i64 (m[k]'(by have := HL.out; omega)).frm, .int .i64 (m[k]'(by have := HL.out; omega)).to])).run Tryd.prog w) = .ok false w := fun w => by rw [hE0 w, decide_eq_false he]
          clear hE0
          have HN := Lib.hid (show l ≠ m from fun e => he (by subst e; rfl))
          go_wp2
          go_region
          go_wp2
          go_ret
          exact ⟨ret_bool (by simp [HN.out]), _, rfl⟩
      · have HE := Lib.hid (show l = m by rw [← List.take_of_length_le (l := l) (i := k) (by omega), HT.out, List.take_of_length_le (by have := HL.out; omega)])
        go_wp2
        go_ret
        exact ⟨ret_bool (by simp [HE.out]), _, rfl⟩
  · have hle : ((l.length : Int) != (m.length : Int)) = true := by simp; omega
    have HE := Lib.hid (show l ≠ m from fun e => hlen (by rw [e])); clear hlen
    go_wp2
    go_ret
    exact ⟨ret_bool (by simp [HE.out]), 0, rfl⟩
end Go.Proofs.YtogmkekbdfckpaaDoor
