/- The contracts of package bonsairef14: Same, Join, Cap. -/
import Derived.Test.YtogmkekbdfckpaaDoorSe
import Derived.Deep.RegionLaw
namespace Go.Proofs.YtogmkekbdfckpaaDoor
open Go.RowKit

/-- append onto a row of the call's own, as a step of a region that draws its order. -/
theorem step_append_row {P : Program} {ops : Array Oper} {o : Oper} {a : Act} {w : World} {K : Act → World → Prop} {Q : Exit → Act → World → Prop} {E : Prop}
    (hgd : o.guard = none) (s x : Operand) (t : TypeId) (ho : o.op = .call { callee := .builtin .append, args := #[s, x], argTypes := #[t, t] })
    (base : Nat) (e : TypeId) (i : TypeInfo) (z : Value) (size bytes : Nat) (ht : P.underlying t = some (.slice e)) (hi : P.info? e = some i) (hz : i.zero = some z)
    (hsize : i.size = size) (hby : i.bytes = bytes) (hzs : z.cells.size = size) (hsz : 0 < size)
    (v : Value) (n : Nat) (xs : List Value) (hs : a.eval s = v) (hown : w.ownsRow base e size v n xs)
    (A : Option Addr) (m c : Nat) (news : List Value) (hx : a.eval x = .slice A m c) (hl : news.length = m * size) (hr : RowAt w A news) (h1 : ∀ u ∈ news, u.oneCell' = true)
    (h63 : n + m ≤ maxLen) (hbytes : (n + m) * bytes ≤ 140737488355328) (hbase : base ≤ w.heap.size)
    (hK : ∀ v' w', w'.ownsRow base e size v' (n + m) (xs ++ news) → w.grownBy w' v.ownBlock → K (a.put o.dst v') w') :
    if Region.wanted o (yielded ops a.tmps) = true then Oper.wp P o a w K Q else E := by
  have hw : Region.wanted o (yielded ops a.tmps) = true := by simp [Region.wanted, hgd]
  rw [if_pos hw]
  obtain ⟨v', w', hrun, h2, h3⟩ := run_append_row (P := P) w base t o.type e i z size bytes ht hi hz hsize hby hzs hsz v n xs hown A m c news hl hr h1 h63 hbytes hbase
  unfold Oper.wp
  simp [execOp, ho, resolve, invoke, builtin, hs, hx, hrun, Result.andThen]
  exact hK _ _ h2 h3

set_option maxHeartbeats 800000 in
theorem rsame_any (a b : Outc) (A B : Option Addr) (c d : Nat) (w : World) (hA : RowAt w A (cellsOf a.caps)) (hB : RowAt w B (cellsOf b.caps)) (hl : a.caps.length ≤ 281474976710656) (hm : b.caps.length ≤ 281474976710656) :
    Calls Tryd.prog 21 #[outV A c a, outV B d b] w fun e w' => e = .returned (.bool (decide (a = b))) ∧ Below w.heap.size w w' := by
  obtain ⟨ak, at', l⟩ := a
  obtain ⟨bk, bt, m⟩ := b
  simp only at hA hB hl hm
  go_enter Tryd.func21, Tryd.ntmps21
  by_cases h1 : ak = bk
  · have e1 : (ak == bk) = true := by simp [h1]
    by_cases h2 : at' = bt
    · have e2 : (at' != bt) = false := by simp [h2]
      by_cases h3 : l.length = m.length
      · have e3 : ((l.length : Int) != (m.length : Int)) = false := by simp [h3]
        have H := Lib.hid (And.intro h1 h2); clear h1 h2
        have HL := Lib.hid h3; clear h3
        go_wp2_with fail
        clear e1 e2 e3
        go_loopw [5] (fun i wr => ∃ k : Nat, k ≤ l.length ∧ i = .int .i64 k ∧ l.take k = m.take k ∧ wr.heap[w.heap.size]? = some (.cells #[.bool ak, .int .i64 at', .slice A l.length c] 24 (0, 0)) ∧ wr.heap[w.heap.size + 1]? = some (.cells #[.bool bk, .int .i64 bt, .slice B m.length d] 24 (0, 0)) ∧ Below w.heap.size w wr) (fun i _ => l.length - (intOf i).toNat)
        case atStart =>
          obtain ⟨k1, k2⟩ := kept2n (w := w) (o := .cells #[.bool ak, .int .i64 at', .slice A l.length c] 24) (p := .cells #[.bool bk, .int .i64 bt, .slice B m.length d] 24) (Below.refl _ _)
          exact ⟨0, by omega, rfl, by simp, k1, k2, box2 _ _ _⟩
        case round =>
          obtain ⟨k, hk, rfl, hT, k1, k2, hb⟩ := hrel
          have HT := Lib.hid hT; clear hT
          obtain ⟨p1, p2, p3, _, _, _⟩ := blk3 k1
          obtain ⟨q1, q2, q3, _, _, _⟩ := blk3 k2
          have HK1 := Lib.hid k1; clear k1
          have HK2 := Lib.hid k2; clear k2
          have HB := Lib.hid hb; clear hb
          by_cases hlt : k < l.length
          · obtain ⟨ab, ao, rfl, x1, x2, x3⟩ := (hA.below HB.out).caps k hlt
            obtain ⟨bb, bo, rfl, y1, y2, y3⟩ := (hB.below HB.out).caps k (by have := HL.out; omega)
            have hE0 := fun w => eqFields_cap w l[k] (m[k]'(by have := HL.out; omega))
            have i1 : (k : Int) < (l.length : Int) := by omega
            have i2 : (k : Int) < (m.length : Int) := by have := HL.out; omega
            by_cases he : l[k] = m[k]'(by have := HL.out; omega)
            · have hE : ∀ w, ((Op.equalIn 10000 33 (.agg #[.string l[k].name, .int .i64 l[k].frm, .int .i64 l[k].to]) (.agg #[.string (m[k]'(by have := HL.out; omega)).name, .int .i64 (m[k]'(by have := HL.out; omega)).frm, .int .i64 (m[k]'(by have := HL.out; omega)).to])).run Tryd.prog w) = .ok true w := fun w => by rw [hE0 w, decide_eq_true he]
              clear hE0
              have HN := Lib.hid (take_caps hlt (by have := HL.out; omega) HT.out he); clear he
              go_wp2_with fail
              go_region
              go_wp2_with fail
              exact ⟨⟨k + 1, by omega, by go_num, HN.out, HK1.out, HK2.out, HB.out.drew⟩, by simp [intOf]; omega⟩
            · have hE : ∀ w, ((Op.equalIn 10000 33 (.agg #[.string l[k].name, .int .i64 l[k].frm, .int .i64 l[k].to]) (.agg #[.string (m[k]'(by have := HL.out; omega)).name, .int .i64 (m[k]'(by have := HL.out; omega)).frm, .int .i64 (m[k]'(by have := HL.out; omega)).to])).run Tryd.prog w) = .ok false w := fun w => by rw [hE0 w, decide_eq_false he]
              clear hE0
              have HN := Lib.hid (show l ≠ m from fun e => he (by subst e; rfl))
              go_wp2_with fail
              go_region
              go_wp2_with fail
              go_ret
              exact ⟨ret_bool (by simp [HN.out]), HB.out.drew⟩
          · have HE := Lib.hid (show l = m by rw [← List.take_of_length_le (l := l) (i := k) (by omega), HT.out, List.take_of_length_le (by have := HL.out; omega)])
            go_wp2_with fail
            go_ret
            exact ⟨ret_bool (by simp [HE.out, H.out]), HB.out⟩
      · have e3 : ((l.length : Int) != (m.length : Int)) = true := by simp; omega
        have HE := Lib.hid (show l ≠ m from fun e => h3 (by rw [e])); clear h1 h2 h3
        go_wp2_with fail
        go_ret
        exact ⟨ret_bool (by simp [HE.out]), box2 _ _ _⟩
    · have e2 : (at' != bt) = true := by simp [h2]
      have H := Lib.hid h2; clear h1 h2
      go_wp2_with fail
      go_ret
      exact ⟨ret_bool (by simp [H.out]), box2 _ _ _⟩
  · have e1 : (ak == bk) = false := by simp [h1]
    have H := Lib.hid h1; clear h1
    go_wp2_with fail
    go_ret
    exact ⟨ret_bool (by simp [H.out]), box2 _ _ _⟩
end Go.Proofs.YtogmkekbdfckpaaDoor
