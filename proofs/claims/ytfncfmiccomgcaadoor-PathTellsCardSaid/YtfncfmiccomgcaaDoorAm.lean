/- The contracts of path.down and path.last. -/
import Derived.Test.YtfncfmiccomgcaaDoorAk
import Derived.Test.YtfncfmiccomgcaaDoorAl
namespace Go.Proofs.YtfncfmiccomgcaaDoor
open Go.RowKit
set_option linter.unusedSimpArgs false
set_option linter.unusedVariables false

theorem goDown_depth {l : List Nd} (hA : Ahead l) : ∀ (p : List Int) (k : Nat) (r : List (Nat × Nat) × Nat), goDown l k p = some r → r.1.length + r.2 ≤ k
  | [], k, r, h => by simp only [goDown, Option.some.injEq] at h; subst h; simp
  | z :: p, k, r, h => by
    simp only [goDown] at h
    split at h
    · obtain ⟨c, hc, h⟩ := Option.bind_eq_some_iff.1 h
      obtain ⟨s, hs, rfl⟩ := Option.map_eq_some_iff.1 h
      have h1 := goDown_depth hA p c s hs
      have h2 := hA k c (List.mem_of_getElem? hc)
      simp only [List.length_cons]; omega
    · cases h
/-- The cells of a row of nodes, each with a kid's place. -/
def abAll : List (Nat × Nat) → List Value
  | [] => []
  | a :: l => .int .i64 (a.1 : Int) :: .int .i64 (a.2 : Int) :: abAll l
theorem abAll_append : ∀ a b, abAll (a ++ b) = abAll a ++ abAll b
  | [], _ => rfl
  | x :: a, b => by simp only [List.cons_append, abAll, abAll_append a b]
theorem abAll_length : ∀ a, (abAll a).length = a.length * 2
  | [] => rfl
  | x :: a => by simp only [abAll, List.length_cons, abAll_length a]; omega
theorem infoAbove : (Tryd.prog.info? 84).map (fun i => (i.zero, i.size, i.bytes)) = some (some (.agg #[.int .i64 0, .int .i64 0]), 2, 16) := by kernel_rfl
def DownPost (l : List Nd) (root : Nat) (p : List Int) (w : World) (e : Ending) (w' : World) : Prop :=
  (∀ r, goDown l root p = some r → ∃ V c, e = .returned (.tuple #[.slice V r.1.length c, .int .i64 r.2, .bool true]) ∧ OwnS w' (w.heap.size ≤ ·) 84 2 V r.1.length c (abAll r.1) ∧ Below w.heap.size w w') ∧
  (goDown l root p = none → e = .returned (.tuple #[.slice none 0 0, .int .i64 0, .bool false]) ∧ Below w.heap.size w w')
def DownRel (W : World) (l : List Nd) (root : Nat) (p : List Int) (H : Nat) (v7 v8 v16 : Value) (wr : World) : Prop :=
  ∃ (j : Nat) (a : List (Nat × Nat)) (k : Nat) (V : Option Addr) (c : Nat), j ≤ p.length ∧ v16 = .int .i64 (j : Int) ∧ v8 = .int .i64 (k : Int) ∧ v7 = .slice V a.length c ∧ Hid (goDown l root (p.take j) = some (a, k)) ∧
    Hid (wr.ownsRow (H + 1) 84 2 (.slice V a.length c) a.length (abAll a)) ∧ Hid (Below (H + 1) W wr) ∧ Hid (H + 1 ≤ wr.heap.size)
set_option maxRecDepth 100000 in
set_option maxHeartbeats 3200000 in
theorem down_any (A : Option Addr) (c : Nat) (ls : List Ln) (root : Nat) (PA : Option Addr) (pc : Nat) (p : List Int) (S S' : Nat → Prop) (w : World) (hT : ndL.row w S A ls) (hP : intL.row w S' PA p) (hZ : AheadZ (ls.map Ln.nd)) (hr : root < ls.length) (hl : ls.length ≤ 4294967296) (hpl : p.length ≤ 4611686018427387904) :
    Calls Tryd.prog 25 #[.agg #[.slice A ls.length c, .int .i64 root], .slice PA p.length pc] w (DownPost (ls.map Ln.nd) root p w) := by
  obtain ⟨i0, hi, hz0, hz1, hz2⟩ := info_parts infoAbove
  have hzc : (Value.agg #[.int .i64 0, .int .i64 0]).cells.size = 2 := rfl
  have HT := Lib.hid hT; have HP := Lib.hid hP; have HZ := Lib.hid hZ; clear hT hP hZ
  have HBX := Lib.hid (bx_new w (.cells #[.slice A ls.length c, .int .i64 root] 24))
  have HB0 := Lib.hid (bx1 w (.cells #[.slice A ls.length c, .int .i64 root] 24))
  have HW0 := Lib.hid (show (w.alloc (.cells #[.slice A ls.length c, .int .i64 root] 24)).heap.size = w.heap.size + 1 from by simp)
  obtain ⟨k0, k1, k2, k3⟩ := blk2 HBX.out
  go_enter Tryd.func25, Tryd.ntmps25
  go_upto_region 4 with (fail)
  generalize w.alloc (.cells #[.slice A ls.length c, .int .i64 root] 24) = W at *
  clear k0 k1 k2 k3
  go_loopw [7, 8, 16] (fun v7 v8 v16 wr => DownRel W (ls.map Ln.nd) root p w.heap.size v7 v8 v16 wr) (fun _ _ v16 _ => p.length - (intOf v16).toNat)
  case atStart => exact ⟨0, [], root, none, 0, Nat.zero_le _, rfl, rfl, rfl, Lib.hid rfl, Lib.hid (World.ownsRow_nil _ _ _ _), Lib.hid (Below.refl _ _), Lib.hid (by have := HW0.out; omega)⟩
  case round =>
    obtain ⟨wo, rfl⟩ : ∃ wo : World, wo = wr := ⟨_, rfl⟩
    obtain ⟨j, a, k, V, vc, hj, rfl, rfl, rfl, HD, HO, HB, HWS⟩ := hrel
    have HBw := Lib.hid (show Below w.heap.size w wo from HB0.out.trans (HB.out.mono (Nat.le_succ _)))
    have hKB := (HB.out.block w.heap.size (Nat.lt_succ_self _)).trans HBX.out
    obtain ⟨k0, k1, k2, k3⟩ := blk2 hKB
    clear hKB
    have hA : Ahead (ls.map Ln.nd) := HZ.out.ahead
    have hkl := (goDown_lt hA _ _ _ HD.out).1
    have hdep := goDown_depth hA _ _ _ HD.out
    simp only at hkl hdep
    clear hA
    by_cases hjl : j < p.length
    · obtain ⟨zb, zo, hzA, _, _, z0⟩ := intRow (HP.out.agree (below_all HBw.out)) j hjl
      have HTK := Lib.hid (show p.take (j + 1) = p.take j ++ [p[j]] from List.take_succ_eq_append_getElem hjl)
      have HTD := Lib.hid (show p = p.take j ++ p[j] :: p.drop (j + 1) from by rw [← List.drop_eq_getElem_cons hjl, List.take_append_drop])
      generalize p[j] = z at *
      have i1 : (j : Int) < (p.length : Int) := by omega
      have i2 : (0 : Int) ≤ (j : Int) := by omega
      have hk : k < ls.length := by omega
      obtain ⟨ab, ao, hab, _, hab2, x0, x1, x2, x3, x4, x5, x6, x7, x8⟩ := ndRow (HT.out.below HBw.out) k hk
      have HKA := Lib.hid (show kidsAt (ls.map Ln.nd) k = ls[k].nd.kids.map Int.toNat from by simp [kidsAt, hk])
      have HKZ := Lib.hid (show ∀ q ∈ ls[k].nd.kids, 0 ≤ q ∧ q < (k : Int) from fun q hq => HZ.out k ls[k].nd (by simp [hk]) q hq)
      have HKR := Lib.hid (ndSub HT.out k hk)
      generalize ls[k] = x at *
      clear x0 x1 x2 x3 x4 x5 x6 x7
      have i3 : (k : Int) < (ls.length : Int) := by omega
      have i4 : (0 : Int) ≤ (k : Int) := by omega
      subst hab
      subst hzA
      by_cases hz : z < 0
      · have HN := Lib.hid (show goDown (ls.map Ln.nd) root p = none from by rw [HTD.out]; exact goDown_stop HD.out (.inl hz) _)
        go_wp2_with fail
        refine bodyPost_ret (v := .tuple #[.slice none 0 0, .int .i64 0, .bool false]) (by simp [results, Tryd.results25, go_sem]) rfl ?_
        exact ⟨fun r hr => (by rw [HN.out] at hr; cases hr), fun _ => ⟨rfl, HBw.out⟩⟩
      · have hz' : 0 ≤ z := by omega
        by_cases hzk : (x.nd.kids.length : Int) ≤ z
        · have HN := Lib.hid (show goDown (ls.map Ln.nd) root p = none from by rw [HTD.out]; exact goDown_stop HD.out (.inr (by rw [HKA.out, List.length_map]; omega)) _)
          go_wp2_with fail
          refine bodyPost_ret (v := .tuple #[.slice none 0 0, .int .i64 0, .bool false]) (by simp [results, Tryd.results25, go_sem]) rfl ?_
          exact ⟨fun r hr => (by rw [HN.out] at hr; cases hr), fun _ => ⟨rfl, HBw.out⟩⟩
        · obtain ⟨zn, rfl⟩ := Int.eq_ofNat_of_zero_le hz'
          have hzn : zn < x.nd.kids.length := by omega
          have HN := Lib.hid (show goDown (ls.map Ln.nd) root (p.take (j + 1)) = some (a ++ [(k, zn)], (x.nd.kids[zn]).toNat) from by
            rw [HTK.out]
            exact goDown_snoc (r := (a, k)) HD.out hz' (by show (kidsAt _ k)[_]? = _; rw [HKA.out]; simp [hzn]))
          have hq := HKZ.out x.nd.kids[zn] (List.getElem_mem hzn)
          obtain ⟨kb, ko, hkA, _, hkb, y0⟩ := intRow HKR.out zn hzn
          have HHK := Lib.hid (show ∀ w', Below w.heap.size w w' → w'.cell? ⟨kb, ko + zn, none⟩ = some (.int .i64 x.nd.kids[zn]) from fun w' h => (h.cell (p := ⟨kb, ko + zn, none⟩) hkb).trans y0)
          generalize x.nd.kids[zn] = q at *
          obtain ⟨qn, rfl⟩ := Int.eq_ofNat_of_zero_le hq.1
          simp only [Int.toNat_natCast] at HN
          have i5 : ¬ ((x.nd.kids.length : Int) ≤ (zn : Int)) := by omega
          have i6 : (zn : Int) < (x.nd.kids.length : Int) := by omega
          have i7 : (0 : Int) ≤ (zn : Int) := by omega
          have i8 : ¬ ((zn : Int) < 0) := by omega
          have F4 := Lib.hid (show a.length + 1 ≤ maxLen ∧ (a.length + 1) * 16 ≤ 140737488355328 ∧ w.heap.size + 1 ≤ (wo.alloc (.cells #[.int .i64 (k : Int), .int .i64 (zn : Int)] 84)).heap.size from ⟨by unfold maxLen; omega, by omega, by have := HWS.out; simp; omega⟩)
          clear y0
          rw [hkA] at x8
          clear hkA
          go_wp2_with (at_builtin; refine wpList_append_at _ rfl (.tmp 34) (.tmp 38) 60 rfl (w.heap.size + 1) 84 i0 (.agg #[.int .i64 0, .int .i64 0]) 2 16 Tryd.underlying60 hi hz0 hz1 hz2 hzc (by decide) V vc a.length (abAll a) rfl (World.ownsRow.alloc HO.out _) (some ⟨wo.heap.size, 0, none⟩) 1 1 [.int .i64 (k : Int), .int .i64 (zn : Int)] rfl rfl (row_blk (bx_new wo _)) (fun u hu => by simp only [List.mem_cons, List.not_mem_nil, or_false] at hu; rcases hu with rfl | rfl <;> rfl) F4.out.1 F4.out.2.1 F4.out.2.2 ?_; intro V' vc' w6 HO6 HG6 HA6; have HB6 := Lib.hid (show Below (w.heap.size + 1) wo w6 from ((Below.refl _ wo).alloc HWS.out _).trans (below_grownA (World.ownsRow.alloc HO.out _) HG6.out (Nat.le_refl _) F4.out.2.2)); have y1 := HHK.out w6 (HBw.out.trans (HB6.out.mono (Nat.le_succ _))))
          exact ⟨⟨j + 1, a ++ [(k, zn)], qn, V', vc', by omega, by go_num, rfl, by simp, HN, Lib.hid (by rw [abAll_append, List.length_append]; exact HO6.out), Lib.hid (HB.out.trans HB6.out), Lib.hid (by have := HG6.out.size; have := F4.out.2.2; omega)⟩, by simp [intOf]; omega⟩
    · obtain rfl : j = p.length := by omega
      have HN := HD.out
      rw [List.take_length] at HN
      have HN := Lib.hid HN
      have i1 : ¬ (p.length : Int) < (p.length : Int) := by omega
      go_wp2_with fail
      refine bodyPost_ret (v := .tuple #[.slice V a.length vc, .int .i64 k, .bool true]) (by simp [results, Tryd.results25, go_sem]) rfl ?_
      refine ⟨fun r hr => ?_, fun h => (by rw [HN.out] at h; cases h)⟩
      rw [HN.out] at hr
      cases hr
      exact ⟨V, vc, rfl, own_ownS (own_mono HO.out (Nat.le_succ _)), HBw.out⟩
end Go.Proofs.YtfncfmiccomgcaaDoor
