/- The walk of the statement SpanTells: the parts ahead of the loop. -/
import Derived.Test.YtogmkekbdfckpaaDoorRh
import Derived.Test.YtogmkekbdfckpaaDoorSv
import Derived.Test.YtogmkekbdfckpaaDoorSk
namespace Go.Proofs.YtogmkekbdfckpaaDoor
open Go.RowKit
set_option linter.unusedSimpArgs false
set_option linter.unusedVariables false

theorem calls_at {P : Program} {f : Nat} {args : Array Value} {w W : World} {X : Value} (h : Calls P f args w fun e w' => e = .returned X ∧ Below w.heap.size w w') (hb : Below W.heap.size W w) :
    Calls P f args w fun e w' => e = .returned X ∧ Hid (Below W.heap.size W w') :=
  h.mono fun e w' ⟨he, hb'⟩ => ⟨he, Lib.hid (hb.trans (hb'.mono hb.size))⟩
theorem textsB_len (o : Outc) (i n : ByteArray) : (textsB o i n).length ≤ o.caps.length := by
  unfold textsB; split
  · exact textsL_len _ _ _
  · simp
theorem long2 (o p : Outc) (A B : Option Addr) (c d : Nat) (w : World) (hA : RowAt w A (cellsOf o.caps)) (hB : RowAt w B (cellsOf p.caps)) (hl : o.caps.length ≤ 281474976710656) (hm : p.caps.length ≤ 281474976710656) :
    Calls Tryd.prog 10 #[.slice (some ⟨w.heap.size, 0, none⟩) 2 2] (w.alloc (.cells #[.bool o.ok, .int .i64 o.to, .slice A o.caps.length c, .bool p.ok, .int .i64 p.to, .slice B p.caps.length d] 24)) fun e w' => ∃ b : Bool, e = .returned (.bool b) ∧ (w.alloc (.cells #[.bool o.ok, .int .i64 o.to, .slice A o.caps.length c, .bool p.ok, .int .i64 p.to, .slice B p.caps.length d] 24)) = w' ∧ (b = false → o.caps.length < 900 ∧ p.caps.length < 900) := by
  refine (long_any [⟨A, c, o⟩, ⟨B, d, p⟩] (some ⟨w.heap.size, 0, none⟩) 2 _ (RowAt.blk (heap_alloc_new w _)) (fun i h => ?_) (by simp) (fun i h => ?_)).mono ?_
  · have : i = 0 ∨ i = 1 := by simp at h; omega
    rcases this with rfl | rfl
    · exact hA.below (box1 _ _)
    · exact hB.below (box1 _ _)
  · have : i = 0 ∨ i = 1 := by simp at h; omega
    rcases this with rfl | rfl
    · exact hl
    · exact hm
  · rintro e w' ⟨b, he, hw, hb⟩
    exact ⟨b, he, hw, fun h => ⟨hb h 0 (by simp), hb h 1 (by simp)⟩⟩

def TellInv (xa xb : Value) (oa ob : Outc) (B : Nat) (V : World) (A0 : Act) (listed : Array Bool) (a : Act) (w' : World) : Prop :=
  listed.size = 8 ∧ Below B V w' ∧ B ≤ w'.heap.size ∧ ∃ v38 v39 v40 v41 v13 v14 : Value,
    a = ((((((A0.put (some 38) v38).put (some 39) v39).put (some 40) v40).put (some 41) v41).put (some 13) v13).put (some 14) v14) ∧
    (listed.getD 0 false = true → v38 = xa) ∧
    (listed.getD 1 false = true → OutOwn w' B v39 oa) ∧
    (listed.getD 2 false = true → v40 = xb) ∧
    (listed.getD 3 false = true → OutOwn w' B v41 ob) ∧
    (listed.getD 4 false = true → BoxF w' B v13 (listed.getD 6 false = true) v39) ∧
    (listed.getD 5 false = true → BoxF w' B v14 (listed.getD 7 false = true) v41) ∧
    (listed.getD 4 false = true → listed.getD 5 false = true → v13 ≠ v14) ∧
    (listed.getD 6 false = true → listed.getD 1 false = true ∧ listed.getD 4 false = true) ∧
    (listed.getD 7 false = true → listed.getD 3 false = true ∧ listed.getD 5 false = true)
def TellInv9 (vx vy vn vi : Value) (oj oc od : Outc) (B : Nat) (V : World) (A0 : Act) (listed : Array Bool) (a : Act) (w' : World) : Prop :=
  listed.size = 15 ∧ Below B V w' ∧ B ≤ w'.heap.size ∧ ∃ v94 v95 v96 v97 v98 v99 v100 v101 v102 v16 v17 v18 : Value,
    a = ((((((((((((A0.put (some 94) v94).put (some 95) v95).put (some 96) v96).put (some 97) v97).put (some 98) v98).put (some 99) v99).put (some 100) v100).put (some 101) v101).put (some 102) v102).put (some 16) v16).put (some 17) v17).put (some 18) v18) ∧
    (listed.getD 0 false = true → v94 = vx) ∧
    (listed.getD 1 false = true → v95 = vy) ∧
    (listed.getD 2 false = true → OutOwn w' B v96 oj) ∧
    (listed.getD 3 false = true → v97 = vn) ∧
    (listed.getD 4 false = true → v98 = vi) ∧
    (listed.getD 5 false = true → v99 = vx) ∧
    (listed.getD 6 false = true → OutOwn w' B v100 oc) ∧
    (listed.getD 7 false = true → v101 = vx) ∧
    (listed.getD 8 false = true → OutOwn w' B v102 od) ∧
    (listed.getD 9 false = true → BoxF w' B v16 (listed.getD 12 false = true) v96) ∧
    (listed.getD 10 false = true → BoxF w' B v17 (listed.getD 13 false = true) v100) ∧
    (listed.getD 11 false = true → BoxF w' B v18 (listed.getD 14 false = true) v102) ∧
    (listed.getD 9 false = true → listed.getD 10 false = true → v16 ≠ v17) ∧
    (listed.getD 9 false = true → listed.getD 11 false = true → v16 ≠ v18) ∧
    (listed.getD 10 false = true → listed.getD 11 false = true → v17 ≠ v18) ∧
    (listed.getD 12 false = true → listed.getD 2 false = true ∧ listed.getD 9 false = true) ∧
    (listed.getD 13 false = true → listed.getD 6 false = true ∧ listed.getD 10 false = true) ∧
    (listed.getD 14 false = true → listed.getD 8 false = true ∧ listed.getD 11 false = true) ∧
    (listed.getD 2 false = true → listed.getD 6 false = true → SepO v96 v100) ∧
    (listed.getD 2 false = true → listed.getD 8 false = true → SepO v96 v102) ∧
    (listed.getD 6 false = true → listed.getD 8 false = true → SepO v100 v102)

set_option maxRecDepth 100000 in
set_option maxHeartbeats 3200000 in
theorem spanTells_walk (oa ob : Outc) (n by' : Int) (name input : ByteArray) (A B : Option Addr) (c d : Nat) (w : World) (hA : RowAt w A (cellsOf oa.caps)) (hB : RowAt w B (cellsOf ob.caps))
    (hsa : ∀ c ∈ oa.caps, c.name.size ≤ 281474976710656) (hsb : ∀ c ∈ ob.caps, c.name.size ≤ 281474976710656)
    (hla : oa.caps.length ≤ 281474976710656) (hlb : ob.caps.length ≤ 281474976710656) (hby : -9223372036854775808 ≤ by' ∧ by' ≤ 9223372036854775807) (ht : Tab w) :
    Calls Tryd.prog 5 #[outV A c oa, outV B d ob, .int .i64 n, .int .i64 by', .string name, .string input] w fun e w' => e = .returned (.bool true) ∧ Below w.heap.size w w' := by
  obtain ⟨ak, at', al⟩ := oa
  obtain ⟨bk, bt, bl⟩ := ob
  simp only at hA hB hsa hsb hla hlb
  go_enter Tryd.func5, Tryd.ntmps5
  have HT := Lib.hid ht; clear ht
  have HSA := Lib.hid hsa; have HSB' := Lib.hid hsb
  have HBY := Lib.hid hby
  clear hsa hsb hby
  have HLW := long2 ⟨ak, at', al⟩ ⟨bk, bt, bl⟩ A B c d ((w.alloc (.cells #[.bool ak, .int .i64 at', .slice A al.length c] 24)).alloc (.cells #[.bool bk, .int .i64 bt, .slice B bl.length d] 24)) (hA.below (box2 _ _ _)) (hB.below (box2 _ _ _)) hla hlb
  simp only [World.size_alloc] at HLW
  go_wp2_with fail
  generalize hW : ((w.alloc (.cells #[.bool ak, .int .i64 at', .slice A al.length c] 24)).alloc (.cells #[.bool bk, .int .i64 bt, .slice B bl.length d] 24)) = W at *
  have HWZ := Lib.hid (show W.heap.size = w.heap.size + 2 by rw [← hW]; simp)
  have HWB := Lib.hid (show Below w.heap.size w W by rw [← hW]; exact box2 _ _ _)
  have HK := Lib.hid (kept2 (w := w) (o := (.cells #[.bool ak, .int .i64 at', .slice A al.length c] 24)) (p := (.cells #[.bool bk, .int .i64 bt, .slice B bl.length d] 24)) (w' := W) (Below.refl _ W) (by rw [← hW]))
  clear hW
  have HRA := Lib.hid (hA.below HWB.out); have HRB := Lib.hid (hB.below HWB.out)
  clear hA hB
  have HTW := Lib.hid (HT.out.below HWB.out); clear HT
  have HF := Lib.hid (show ∀ w', Below W.heap.size W w' → (w'.cell? ⟨w.heap.size, 0, none⟩ = some (.bool ak) ∧ w'.cell? ⟨w.heap.size, 1, none⟩ = some (.int .i64 at') ∧ w'.cell? ⟨w.heap.size, 2, none⟩ = some (.slice A al.length c)) ∧ (w'.cell? ⟨w.heap.size + 1, 0, none⟩ = some (.bool bk) ∧ w'.cell? ⟨w.heap.size + 1, 1, none⟩ = some (.int .i64 bt) ∧ w'.cell? ⟨w.heap.size + 1, 2, none⟩ = some (.slice B bl.length d)) from fun w' hb => by
    have hz := HWZ.out
    have h1 := blk3 ((hb.block _ (by omega)).trans HK.out.1)
    have h2 := blk3 ((hb.block _ (by omega)).trans HK.out.2)
    exact ⟨⟨h1.1, h1.2.1, h1.2.2.1⟩, h2.1, h2.2.1, h2.2.2.1⟩)
  refine HLW.mono ?_
  clear HLW
  rintro e w2 ⟨b, rfl, rfl, hlong⟩
  have HLG := Lib.hid hlong; clear hlong
  have HB2 := Lib.hid (show Below W.heap.size W (W.alloc (.cells #[.bool ak, .int .i64 at', .slice A al.length c, .bool bk, .int .i64 bt, .slice B bl.length d] 24)) from box1 _ _)
  generalize (W.alloc (.cells #[.bool ak, .int .i64 at', .slice A al.length c, .bool bk, .int .i64 bt, .slice B bl.length d] 24)) = w2 at *
  by_cases hgo : b = false ∧ input.size ≤ 6000 ∧ name.size ≤ 3000
  · obtain ⟨rfl, hs6, hs3⟩ := hgo
    obtain ⟨hl1, hl2⟩ := HLG.out rfl
    clear HLG
    obtain ⟨⟨f1, f2, f3⟩, f4, f5, f6⟩ := HF.out _ HB2.out
    go_wp2_with fail
    clear f1 f2 f3 f4 f5 f6
    have HBV := HB2
    generalize w2 = V at *
    clear HB2
    have HG := Lib.hid (show ∀ w', Below V.heap.size V w' → (w'.cell? ⟨w.heap.size, 0, none⟩ = some (.bool ak) ∧ w'.cell? ⟨w.heap.size, 1, none⟩ = some (.int .i64 at') ∧ w'.cell? ⟨w.heap.size, 2, none⟩ = some (.slice A al.length c)) ∧ (w'.cell? ⟨w.heap.size + 1, 0, none⟩ = some (.bool bk) ∧ w'.cell? ⟨w.heap.size + 1, 1, none⟩ = some (.int .i64 bt) ∧ w'.cell? ⟨w.heap.size + 1, 2, none⟩ = some (.slice B bl.length d)) from fun w' hb => HF.out _ (HBV.out.trans (hb.mono HBV.out.size)))
    have HRG := Lib.hid (show (∀ w', Below V.heap.size V w' → RowAt w' A (cellsOf al)) ∧ (∀ w', Below V.heap.size V w' → RowAt w' B (cellsOf bl)) from ⟨fun w' hb => HRA.out.below (HBV.out.trans (hb.mono HBV.out.size)), fun w' hb => HRB.out.below (HBV.out.trans (hb.mono HBV.out.size))⟩)
    refine wp_region_inv0 (TellInv (.agg #[.bool ak, .int .i64 at', .slice A al.length c]) (.agg #[.bool bk, .int .i64 bt, .slice B bl.length d]) ⟨ak, at', al⟩ ⟨bk, bt, bl⟩ V.heap.size V) (by kernel_rfl) ?_ ?_ ?_
    · exact ⟨rfl, (Below.refl _ _).drew, Nat.le_refl _, _, _, _, _, _, _, (self_puts _ [38, 39, 40, 41, 13, 14] rfl).symm, fun h => absurd h (by decide), fun h => absurd h (by decide), fun h => absurd h (by decide), fun h => absurd h (by decide), fun h => absurd h (by decide), fun h => absurd h (by decide), fun h => absurd h (by decide), fun h => absurd h (by decide), fun h => absurd h (by decide)⟩
    · as_aux_lemma =>
        intro listed a' w' hI i hi
        obtain ⟨hsz, hb, hB, v38, v39, v40, v41, v13, v14, rfl, c0, c1, c2, c3, c4, c5, c6, c7, c8⟩ := hI
        have hun := (ready_mem hi).2.1
        have hlt : i < 8 := (ready_mem hi).1
        have hcs : i = 0 ∨ i = 1 ∨ i = 2 ∨ i = 3 ∨ i = 4 ∨ i = 5 ∨ i = 6 ∨ i = 7 := by omega
        clear hlt
        rcases hcs with rfl | rfl | rfl | rfl | rfl | rfl | rfl | rfl
        · have hp := ready_after (o := { dst := some 38, op := Go.Op.load 24 (Go.Operand.tmp 6), type := 24, pos := "law.go:59", after := #[], guard := none }) hi rfl
          simp [Region.binds] at hp
          have hbk : Below w'.heap.size w' w' := Below.refl _ _
          obtain ⟨⟨f1, f2, f3⟩, f4, f5, f6⟩ := HG.out _ hb
          refine wpOp_shut (o := { dst := some 38, op := Go.Op.load 24 (Go.Operand.tmp 6), type := 24, pos := "law.go:59", after := #[], guard := none }) rfl (fun K hK => ?_)
          simp only [Act.put, List.setIfInBounds_toArray, List.set_cons_zero, List.set_cons_succ]
          go_simp
          exact hK.out _ _ ⟨by simp [hsz], hb, hB, _, _, _, _, _, _, by simp only [Act.put, List.setIfInBounds_toArray, List.set_cons_zero, List.set_cons_succ],
              fun _ => rfl,
              fun h => (c1 (flag_of (by decide) h)).below hbk,
              fun h => c2 (flag_of (by decide) h),
              fun h => (c3 (flag_of (by decide) h)).below hbk,
              fun h => (c4 (flag_of (by decide) h)).below (flag_of (by decide)) hbk,
              fun h => (c5 (flag_of (by decide) h)).below (flag_of (by decide)) hbk,
              fun h k => c6 (flag_of (by decide) h) (flag_of (by decide) k),
              fun h => ⟨flag_old (c7 (flag_of (by decide) h)).1, flag_old (c7 (flag_of (by decide) h)).2⟩,
              fun h => ⟨flag_old (c8 (flag_of (by decide) h)).1, flag_old (c8 (flag_of (by decide) h)).2⟩⟩
        · have hp := ready_after (o := { dst := some 39, op := Go.Op.call { callee := Go.Callee.value (Go.Operand.func 19), args := #[Go.Operand.tmp 38], argTypes := #[24] }, type := 24, pos := "law.go:59", after := #[{ on := 0, ground := Go.Ground.data }], guard := none }) hi rfl
          simp [Region.binds] at hp
          obtain rfl := c0 (by first | exact hp | simp [hp])
          refine wpOp_shut (o := { dst := some 39, op := Go.Op.call { callee := Go.Callee.value (Go.Operand.func 19), args := #[Go.Operand.tmp 38], argTypes := #[24] }, type := 24, pos := "law.go:59", after := #[{ on := 0, ground := Go.Ground.data }], guard := none }) rfl (fun K hK => ?_)
          simp only [Act.put, List.setIfInBounds_toArray, List.set_cons_zero, List.set_cons_succ]
          go_simp
          refine (copied_any ⟨ak, at', al⟩ A c w' (HRG.out.1 _ hb) (by simp only; omega)).mono ?_; rintro e w1 ⟨vn, rfl, hown, hbk⟩; go_wp2_with fail
          exact hK.out _ _ ⟨by simp [hsz], (hb.trans (hbk.mono hB)), (Nat.le_trans hB hbk.size), _, _, _, _, _, _, by simp only [Act.put, List.setIfInBounds_toArray, List.set_cons_zero, List.set_cons_succ],
              fun _ => rfl,
              fun _ => hown.mono hB,
              fun h => c2 (flag_of (by decide) h),
              fun h => (c3 (flag_of (by decide) h)).below hbk,
              fun h => ((c4 (flag_of (by decide) h)).below id hbk).none (fun u => flag_not hun (c7 (flag_of (by decide) u)).1),
              fun h => (c5 (flag_of (by decide) h)).below (flag_of (by decide)) hbk,
              fun h k => c6 (flag_of (by decide) h) (flag_of (by decide) k),
              fun h => ⟨flag_old (c7 (flag_of (by decide) h)).1, flag_old (c7 (flag_of (by decide) h)).2⟩,
              fun h => ⟨flag_old (c8 (flag_of (by decide) h)).1, flag_old (c8 (flag_of (by decide) h)).2⟩⟩
        · have hp := ready_after (o := { dst := some 40, op := Go.Op.load 24 (Go.Operand.tmp 7), type := 24, pos := "law.go:59", after := #[], guard := none }) hi rfl
          simp [Region.binds] at hp
          have hbk : Below w'.heap.size w' w' := Below.refl _ _
          obtain ⟨⟨f1, f2, f3⟩, f4, f5, f6⟩ := HG.out _ hb
          refine wpOp_shut (o := { dst := some 40, op := Go.Op.load 24 (Go.Operand.tmp 7), type := 24, pos := "law.go:59", after := #[], guard := none }) rfl (fun K hK => ?_)
          simp only [Act.put, List.setIfInBounds_toArray, List.set_cons_zero, List.set_cons_succ]
          go_simp
          exact hK.out _ _ ⟨by simp [hsz], hb, hB, _, _, _, _, _, _, by simp only [Act.put, List.setIfInBounds_toArray, List.set_cons_zero, List.set_cons_succ],
              fun h => c0 (flag_of (by decide) h),
              fun h => (c1 (flag_of (by decide) h)).below hbk,
              fun _ => rfl,
              fun h => (c3 (flag_of (by decide) h)).below hbk,
              fun h => (c4 (flag_of (by decide) h)).below (flag_of (by decide)) hbk,
              fun h => (c5 (flag_of (by decide) h)).below (flag_of (by decide)) hbk,
              fun h k => c6 (flag_of (by decide) h) (flag_of (by decide) k),
              fun h => ⟨flag_old (c7 (flag_of (by decide) h)).1, flag_old (c7 (flag_of (by decide) h)).2⟩,
              fun h => ⟨flag_old (c8 (flag_of (by decide) h)).1, flag_old (c8 (flag_of (by decide) h)).2⟩⟩
        · have hp := ready_after (o := { dst := some 41, op := Go.Op.call { callee := Go.Callee.value (Go.Operand.func 19), args := #[Go.Operand.tmp 40], argTypes := #[24] }, type := 24, pos := "law.go:59", after := #[{ on := 2, ground := Go.Ground.data }, { on := 1, ground := Go.Ground.chain }], guard := none }) hi rfl
          simp [Region.binds] at hp
          obtain rfl := c2 (by first | exact hp | simp [hp])
          refine wpOp_shut (o := { dst := some 41, op := Go.Op.call { callee := Go.Callee.value (Go.Operand.func 19), args := #[Go.Operand.tmp 40], argTypes := #[24] }, type := 24, pos := "law.go:59", after := #[{ on := 2, ground := Go.Ground.data }, { on := 1, ground := Go.Ground.chain }], guard := none }) rfl (fun K hK => ?_)
          simp only [Act.put, List.setIfInBounds_toArray, List.set_cons_zero, List.set_cons_succ]
          go_simp
          refine (copied_any ⟨bk, bt, bl⟩ B d w' (HRG.out.2 _ hb) (by simp only; omega)).mono ?_; rintro e w1 ⟨vn, rfl, hown, hbk⟩; go_wp2_with fail
          exact hK.out _ _ ⟨by simp [hsz], (hb.trans (hbk.mono hB)), (Nat.le_trans hB hbk.size), _, _, _, _, _, _, by simp only [Act.put, List.setIfInBounds_toArray, List.set_cons_zero, List.set_cons_succ],
              fun h => c0 (flag_of (by decide) h),
              fun h => (c1 (flag_of (by decide) h)).below hbk,
              fun _ => rfl,
              fun _ => hown.mono hB,
              fun h => (c4 (flag_of (by decide) h)).below (flag_of (by decide)) hbk,
              fun h => ((c5 (flag_of (by decide) h)).below id hbk).none (fun u => flag_not hun (c8 (flag_of (by decide) u)).1),
              fun h k => c6 (flag_of (by decide) h) (flag_of (by decide) k),
              fun h => ⟨flag_old (c7 (flag_of (by decide) h)).1, flag_old (c7 (flag_of (by decide) h)).2⟩,
              fun h => ⟨flag_old (c8 (flag_of (by decide) h)).1, flag_old (c8 (flag_of (by decide) h)).2⟩⟩
        · have hp := ready_after (o := { dst := some 13, op := Go.Op.alloc 24, type := 0, pos := "law.go:59", after := #[], guard := none }) hi rfl
          simp [Region.binds] at hp
          refine wpOp_shut (o := { dst := some 13, op := Go.Op.alloc 24, type := 0, pos := "law.go:59", after := #[], guard := none }) rfl (fun K hK => ?_)
          simp only [Act.put, List.setIfInBounds_toArray, List.set_cons_zero, List.set_cons_succ]
          go_simp
          have hbk := box1 w' (.cells #[.bool false, .int .i64 0, .slice none 0 0] 24)
          exact hK.out _ _ ⟨by simp [hsz], (hb.alloc hB _), (by simp; omega), _, _, _, _, _, _, by simp only [Act.put, List.setIfInBounds_toArray, List.set_cons_zero, List.set_cons_succ],
              fun h => c0 (flag_of (by decide) h),
              fun h => (c1 (flag_of (by decide) h)).below hbk,
              fun h => c2 (flag_of (by decide) h),
              fun h => (c3 (flag_of (by decide) h)).below hbk,
              fun _ => BoxF.new hB (fun u => flag_not hun (c7 (flag_of (by decide) u)).2) _ _ _ _,
              fun h => (c5 (flag_of (by decide) h)).below (flag_of (by decide)) hbk,
              fun _ h => Ne.symm (c5 (flag_of (by decide) h)).fresh,
              fun h => ⟨flag_old (c7 (flag_of (by decide) h)).1, flag_old (c7 (flag_of (by decide) h)).2⟩,
              fun h => ⟨flag_old (c8 (flag_of (by decide) h)).1, flag_old (c8 (flag_of (by decide) h)).2⟩⟩
        · have hp := ready_after (o := { dst := some 14, op := Go.Op.alloc 24, type := 0, pos := "law.go:59", after := #[], guard := none }) hi rfl
          simp [Region.binds] at hp
          refine wpOp_shut (o := { dst := some 14, op := Go.Op.alloc 24, type := 0, pos := "law.go:59", after := #[], guard := none }) rfl (fun K hK => ?_)
          simp only [Act.put, List.setIfInBounds_toArray, List.set_cons_zero, List.set_cons_succ]
          go_simp
          have hbk := box1 w' (.cells #[.bool false, .int .i64 0, .slice none 0 0] 24)
          exact hK.out _ _ ⟨by simp [hsz], (hb.alloc hB _), (by simp; omega), _, _, _, _, _, _, by simp only [Act.put, List.setIfInBounds_toArray, List.set_cons_zero, List.set_cons_succ],
              fun h => c0 (flag_of (by decide) h),
              fun h => (c1 (flag_of (by decide) h)).below hbk,
              fun h => c2 (flag_of (by decide) h),
              fun h => (c3 (flag_of (by decide) h)).below hbk,
              fun h => (c4 (flag_of (by decide) h)).below (flag_of (by decide)) hbk,
              fun _ => BoxF.new hB (fun u => flag_not hun (c8 (flag_of (by decide) u)).2) _ _ _ _,
              fun h _ => (c4 (flag_of (by decide) h)).fresh,
              fun h => ⟨flag_old (c7 (flag_of (by decide) h)).1, flag_old (c7 (flag_of (by decide) h)).2⟩,
              fun h => ⟨flag_old (c8 (flag_of (by decide) h)).1, flag_old (c8 (flag_of (by decide) h)).2⟩⟩
        · have hp := ready_after (o := { dst := none, op := Go.Op.store 24 (Go.Operand.tmp 13) (Go.Operand.tmp 39), type := 0, pos := "law.go:59", after := #[{ on := 4, ground := Go.Ground.data }, { on := 1, ground := Go.Ground.data }, { on := 3, ground := Go.Ground.chain }, { on := 0, ground := Go.Ground.phase }, { on := 1, ground := Go.Ground.phase }, { on := 2, ground := Go.Ground.textOnly Go.Departure.lateStores }, { on := 3, ground := Go.Ground.textOnly Go.Departure.lateStoresUnsure }, { on := 4, ground := Go.Ground.phase }, { on := 5, ground := Go.Ground.phase }], guard := none }) hi rfl
          simp [Region.binds] at hp
          have hfa : listed.getD 4 false = true := by first | exact hp.1 | simp [hp]
          have hfs : listed.getD 1 false = true := by first | exact hp.1 | simp [hp]
          obtain ⟨p, x, y, z, rfl, hBp, hh, _⟩ := c4 hfa
          obtain ⟨X, xc, rfl, _⟩ := id (c1 hfs)
          obtain ⟨s1, s2, s3, s4, s5, s6⟩ := blk3 hh
          refine wpOp_shut (o := { dst := none, op := Go.Op.store 24 (Go.Operand.tmp 13) (Go.Operand.tmp 39), type := 0, pos := "law.go:59", after := #[{ on := 4, ground := Go.Ground.data }, { on := 1, ground := Go.Ground.data }, { on := 3, ground := Go.Ground.chain }, { on := 0, ground := Go.Ground.phase }, { on := 1, ground := Go.Ground.phase }, { on := 2, ground := Go.Ground.textOnly Go.Departure.lateStores }, { on := 3, ground := Go.Ground.textOnly Go.Departure.lateStoresUnsure }, { on := 4, ground := Go.Ground.phase }, { on := 5, ground := Go.Ground.phase }], guard := none }) rfl (fun K hK => ?_)
          simp only [Act.put, List.setIfInBounds_toArray, List.set_cons_zero, List.set_cons_succ]
          go_simp
          have hs3 := fun x y z => set3h (W := w') x y z hBp hh
          exact hK.out _ _ ⟨by simp [hsz], (hb.trans (hs3 _ _ _).2.2), (Nat.le_trans hB (hs3 _ _ _).2.2.size), _, _, _, _, _, _, by simp only [Act.put, List.setIfInBounds_toArray, List.set_cons_zero, List.set_cons_succ],
              fun h => c0 (flag_of (by decide) h),
              fun h => (c1 (flag_of (by decide) h)).but hh (hs3 _ _ _).2.1,
              fun h => c2 (flag_of (by decide) h),
              fun h => (c3 (flag_of (by decide) h)).but hh (hs3 _ _ _).2.1,
              fun _ => ⟨p, _, _, _, rfl, hBp, (hs3 _ _ _).1, fun _ => rfl⟩,
              fun h => (c5 (flag_of (by decide) h)).but (flag_of (by decide)) (Ne.symm (c6 hfa (flag_of (by decide) h))) (hs3 _ _ _).2.1,
              fun h k => c6 (flag_of (by decide) h) (flag_of (by decide) k),
              fun _ => ⟨flag_old hfs, flag_old hfa⟩,
              fun h => ⟨flag_old (c8 (flag_of (by decide) h)).1, flag_old (c8 (flag_of (by decide) h)).2⟩⟩
        · have hp := ready_after (o := { dst := none, op := Go.Op.store 24 (Go.Operand.tmp 14) (Go.Operand.tmp 41), type := 0, pos := "law.go:59", after := #[{ on := 5, ground := Go.Ground.data }, { on := 3, ground := Go.Ground.data }, { on := 6, ground := Go.Ground.chain }, { on := 0, ground := Go.Ground.phase }, { on := 1, ground := Go.Ground.phase }, { on := 2, ground := Go.Ground.phase }, { on := 3, ground := Go.Ground.phase }, { on := 4, ground := Go.Ground.phase }, { on := 5, ground := Go.Ground.phase }, { on := 6, ground := Go.Ground.phase }], guard := none }) hi rfl
          simp [Region.binds] at hp
          have hfa : listed.getD 5 false = true := by first | exact hp.1 | simp [hp]
          have hfs : listed.getD 3 false = true := by first | exact hp.1 | simp [hp]
          obtain ⟨p, x, y, z, rfl, hBp, hh, _⟩ := c5 hfa
          obtain ⟨X, xc, rfl, _⟩ := id (c3 hfs)
          obtain ⟨s1, s2, s3, s4, s5, s6⟩ := blk3 hh
          refine wpOp_shut (o := { dst := none, op := Go.Op.store 24 (Go.Operand.tmp 14) (Go.Operand.tmp 41), type := 0, pos := "law.go:59", after := #[{ on := 5, ground := Go.Ground.data }, { on := 3, ground := Go.Ground.data }, { on := 6, ground := Go.Ground.chain }, { on := 0, ground := Go.Ground.phase }, { on := 1, ground := Go.Ground.phase }, { on := 2, ground := Go.Ground.phase }, { on := 3, ground := Go.Ground.phase }, { on := 4, ground := Go.Ground.phase }, { on := 5, ground := Go.Ground.phase }, { on := 6, ground := Go.Ground.phase }], guard := none }) rfl (fun K hK => ?_)
          simp only [Act.put, List.setIfInBounds_toArray, List.set_cons_zero, List.set_cons_succ]
          go_simp
          have hs3 := fun x y z => set3h (W := w') x y z hBp hh
          exact hK.out _ _ ⟨by simp [hsz], (hb.trans (hs3 _ _ _).2.2), (Nat.le_trans hB (hs3 _ _ _).2.2.size), _, _, _, _, _, _, by simp only [Act.put, List.setIfInBounds_toArray, List.set_cons_zero, List.set_cons_succ],
              fun h => c0 (flag_of (by decide) h),
              fun h => (c1 (flag_of (by decide) h)).but hh (hs3 _ _ _).2.1,
              fun h => c2 (flag_of (by decide) h),
              fun h => (c3 (flag_of (by decide) h)).but hh (hs3 _ _ _).2.1,
              fun h => (c4 (flag_of (by decide) h)).but (flag_of (by decide)) (c6 (flag_of (by decide) h) hfa) (hs3 _ _ _).2.1,
              fun _ => ⟨p, _, _, _, rfl, hBp, (hs3 _ _ _).1, fun _ => rfl⟩,
              fun h k => c6 (flag_of (by decide) h) (flag_of (by decide) k),
              fun h => ⟨flag_old (c7 (flag_of (by decide) h)).1, flag_old (c7 (flag_of (by decide) h)).2⟩,
              fun _ => ⟨flag_old hfs, flag_old hfa⟩⟩

    · intro listed a' w3 hI hr
      obtain ⟨hsz, hb, hB, v38, v39, v40, v41, v13, v14, rfl, c0, c1, c2, c3, c4, c5, c6, c7, c8⟩ := hI
      have hall := all_listed hsz (by kernel_rfl) hr
      obtain rfl := c0 (hall 0 (by decide)); obtain rfl := c2 (hall 2 (by decide))
      obtain ⟨X, xc, rfl, hox⟩ := c1 (hall 1 (by decide))
      obtain ⟨Y, yc, rfl, hoy⟩ := c3 (hall 3 (by decide))
      obtain ⟨p13, x1, x2, x3, rfl, hp13, hk13, hs13⟩ := c4 (hall 4 (by decide))
      obtain ⟨p14, y1, y2, y3, rfl, hp14, hk14, hs14⟩ := c5 (hall 5 (by decide))
      have e13 := hs13 (hall 6 (by decide)); simp at e13; obtain ⟨rfl, rfl, rfl⟩ := e13
      have e14 := hs14 (hall 7 (by decide)); simp at e14; obtain ⟨rfl, rfl, rfl⟩ := e14
      clear c0 c1 c2 c3 c4 c5 c6 c7 c8 hall hr hs13 hs14 hsz hB hp13 hp14
      have HRX := Lib.hid hox.row; have HRY := Lib.hid hoy.row
      clear hox hoy
      have HB3 := Lib.hid (HBV.out.trans (hb.mono HBV.out.size)); clear hb HBV
      have HZ3 := Lib.hid HB3.out.size
      have HG3 := Lib.hid (show ∀ w', Below w3.heap.size w3 w' → ((w'.cell? ⟨w.heap.size, 0, none⟩ = some (.bool ak) ∧ w'.cell? ⟨w.heap.size, 1, none⟩ = some (.int .i64 at') ∧ w'.cell? ⟨w.heap.size, 2, none⟩ = some (.slice A al.length c)) ∧ (w'.cell? ⟨w.heap.size + 1, 0, none⟩ = some (.bool bk) ∧ w'.cell? ⟨w.heap.size + 1, 1, none⟩ = some (.int .i64 bt) ∧ w'.cell? ⟨w.heap.size + 1, 2, none⟩ = some (.slice B bl.length d)) ∧ (w'.cell? ⟨p13, 0, none⟩ = some (.bool ak) ∧ w'.cell? ⟨p13, 1, none⟩ = some (.int .i64 at') ∧ w'.cell? ⟨p13, 2, none⟩ = some (.slice X al.length xc)) ∧ (w'.cell? ⟨p14, 0, none⟩ = some (.bool bk) ∧ w'.cell? ⟨p14, 1, none⟩ = some (.int .i64 bt) ∧ w'.cell? ⟨p14, 2, none⟩ = some (.slice Y bl.length yc))) ∧ Below w3.heap.size w3 w' from fun w' hb => by
        have h1 := blk3 ((hb.block _ (heap_lt hk13)).trans hk13)
        have h2 := blk3 ((hb.block _ (heap_lt hk14)).trans hk14)
        have h3 := HF.out _ (HB3.out.trans (hb.mono HZ3.out))
        exact ⟨⟨h3.1, h3.2, ⟨h1.1, h1.2.1, h1.2.2.1⟩, h2.1, h2.2.1, h2.2.2.1⟩, hb⟩)
      have HR3 := Lib.hid (show (∀ w', Below w3.heap.size w3 w' → RowAt w' A (cellsOf al)) ∧ (∀ w', Below w3.heap.size w3 w' → RowAt w' B (cellsOf bl)) ∧ (∀ w', Below w3.heap.size w3 w' → RowAt w' X (cellsOf al)) ∧ (∀ w', Below w3.heap.size w3 w' → RowAt w' Y (cellsOf bl)) from
        ⟨fun w' hb => HRA.out.below (HB3.out.trans (hb.mono HZ3.out)), fun w' hb => HRB.out.below (HB3.out.trans (hb.mono HZ3.out)), fun w' hb => HRX.out.below hb, fun w' hb => HRY.out.below hb⟩)
      have HEND := Lib.hid (show ∀ w', Below w3.heap.size w3 w' → Below w.heap.size w w' from fun w' hb => HWB.out.trans ((HB3.out.trans (hb.mono HZ3.out)).mono HWB.out.size))
      have HT3 := Lib.hid (show ∀ w', Below w3.heap.size w3 w' → Tab w' from fun w' hb => (HTW.out.below (HB3.out.trans (hb.mono HZ3.out))))
      have HH := Lib.hid (⟨heap_lt hk13, heap_lt hk14⟩ : p13 < w3.heap.size ∧ p14 < w3.heap.size)
      clear HG HRG HK HF HRX HRY HRA HRB HTW hk13 hk14 HWB HB3
      simp only [Act.put, List.setIfInBounds_toArray, List.set_cons_zero, List.set_cons_succ]
      go_wp2_with fail
      have HB := Lib.hid (show Below w3.heap.size w3 w3.drew from (Below.refl _ _).drew)
      obtain ⟨SP, hSP⟩ : ∃ SP : World → Prop, SP = fun w' => ((w'.cell? ⟨w.heap.size, 0, none⟩ = some (.bool ak) ∧ w'.cell? ⟨w.heap.size, 1, none⟩ = some (.int .i64 at') ∧ w'.cell? ⟨w.heap.size, 2, none⟩ = some (.slice A al.length c)) ∧ (w'.cell? ⟨w.heap.size + 1, 0, none⟩ = some (.bool bk) ∧ w'.cell? ⟨w.heap.size + 1, 1, none⟩ = some (.int .i64 bt) ∧ w'.cell? ⟨w.heap.size + 1, 2, none⟩ = some (.slice B bl.length d)) ∧ (w'.cell? ⟨p13, 0, none⟩ = some (.bool ak) ∧ w'.cell? ⟨p13, 1, none⟩ = some (.int .i64 at') ∧ w'.cell? ⟨p13, 2, none⟩ = some (.slice X al.length xc)) ∧ (w'.cell? ⟨p14, 0, none⟩ = some (.bool bk) ∧ w'.cell? ⟨p14, 1, none⟩ = some (.int .i64 bt) ∧ w'.cell? ⟨p14, 2, none⟩ = some (.slice Y bl.length yc))) ∧ Below w3.heap.size w3 w' := ⟨_, rfl⟩
      have HSD := Lib.hid hSP; clear hSP
      obtain ⟨m1, hm1⟩ : ∃ m, mayO ⟨ak, at', al⟩ n = m := ⟨_, rfl⟩
      have HM1 := Lib.hid hm1; clear hm1
      obtain ⟨m2, hm2⟩ : ∃ m, decide ((⟨ak, at', al⟩ : Outc) = ⟨bk, bt, bl⟩) = m := ⟨_, rfl⟩
      have HM2 := Lib.hid hm2; clear hm2
      have em1 : (m1 == m1) = true := by simp
      have em2 : (m2 == m2) = true := by simp
      refine wp_region_held_drew (S := SP) (by kernel_rfl) (by rw [HSD.out]; exact HG3.out _ HB.out) (fun hHeld => ?_)
      try simp only [Act.put, List.setIfInBounds_toArray, List.set_cons_zero, List.set_cons_succ]
      (refine wpAnyH_take (i := 0) (oi := { dst := some 42, op := Go.Op.load 24 (Go.Operand.tmp 13), type := 24, pos := "law.go:60", after := #[], guard := none }) (v := ?_) rfl (by kernel_rfl) (by kernel_rfl) (by kernel_rfl) (fun _ _ _ h => h) (Or.inl ⟨by rfl, ?_⟩) (by assumption) ?_; rotate_left 1; (focus (intro w hSw; rw [HSD.out] at hSw; (try dsimp only at hSw); go_simp; (try with_reducible rfl))); (try simp only [Act.put, List.setIfInBounds_toArray, List.set_cons_zero, List.set_cons_succ]))
      (refine wpAnyH_take (i := 1) (oi := { dst := some 43, op := Go.Op.move (Go.Operand.tmp 2), type := 3, pos := "law.go:60", after := #[], guard := none }) (v := ?_) rfl (by kernel_rfl) (by kernel_rfl) (by kernel_rfl) (fun _ _ _ h => h) (Or.inl ⟨by rfl, ?_⟩) (by assumption) ?_; rotate_left 1; (focus (intro w hSw; rw [HSD.out] at hSw; (try dsimp only at hSw); go_simp; (try with_reducible rfl))); (try simp only [Act.put, List.setIfInBounds_toArray, List.set_cons_zero, List.set_cons_succ]))
      (refine wpAnyH_take (i := 3) (oi := { dst := some 45, op := Go.Op.load 24 (Go.Operand.tmp 6), type := 24, pos := "law.go:60", after := #[], guard := none }) (v := ?_) rfl (by kernel_rfl) (by kernel_rfl) (by kernel_rfl) (fun _ _ _ h => h) (Or.inl ⟨by rfl, ?_⟩) (by assumption) ?_; rotate_left 1; (focus (intro w hSw; rw [HSD.out] at hSw; (try dsimp only at hSw); go_simp; (try with_reducible rfl))); (try simp only [Act.put, List.setIfInBounds_toArray, List.set_cons_zero, List.set_cons_succ]))
      (refine wpAnyH_take (i := 4) (oi := { dst := some 46, op := Go.Op.move (Go.Operand.tmp 2), type := 3, pos := "law.go:60", after := #[], guard := none }) (v := ?_) rfl (by kernel_rfl) (by kernel_rfl) (by kernel_rfl) (fun _ _ _ h => h) (Or.inl ⟨by rfl, ?_⟩) (by assumption) ?_; rotate_left 1; (focus (intro w hSw; rw [HSD.out] at hSw; (try dsimp only at hSw); go_simp; (try with_reducible rfl))); (try simp only [Act.put, List.setIfInBounds_toArray, List.set_cons_zero, List.set_cons_succ]))
      (refine wpAnyH_ready (rs := [2]) (by kernel_rfl) (by simp) ?_; refine AllReadyH.cons (o := { dst := some 44, op := Go.Op.call { callee := Go.Callee.value (Go.Operand.func 13), args := #[Go.Operand.tmp 42, Go.Operand.tmp 43], argTypes := #[24, 3] }, type := 4, pos := "law.go:60", after := #[{ on := 0, ground := Go.Ground.data }, { on := 1, ground := Go.Ground.data }], guard := none }) rfl (fun K hK => ?_) AllReadyH.nil; go_simp; (go_at_call 13; refine (calls_at (smay_any ⟨ak, at', al⟩ n X xc _ (HR3.out.2.2.1 _ HB.out) HSA.out hla) HB.out).mono ?_; rintro e w5 ⟨he, HB5⟩; rw [HM1.out] at he; subst he; clear HB; have HB := HB5; clear HB5); (try go_wp2_with fail); refine hK.out _ _ (by rw [HSD.out]; exact HG3.out _ HB.out) (fun hHeld => ?_); clear hK K; (try simp only [Act.put, List.setIfInBounds_toArray, List.set_cons_zero, List.set_cons_succ]))
      (refine wpAnyH_ready (rs := [5]) (by kernel_rfl) (by simp) ?_; refine AllReadyH.cons (o := { dst := some 47, op := Go.Op.call { callee := Go.Callee.value (Go.Operand.func 20), args := #[Go.Operand.tmp 45, Go.Operand.tmp 46], argTypes := #[24, 3] }, type := 4, pos := "law.go:60", after := #[{ on := 3, ground := Go.Ground.data }, { on := 4, ground := Go.Ground.data }, { on := 2, ground := Go.Ground.chain }], guard := none }) rfl (fun K hK => ?_) AllReadyH.nil; go_simp; (go_at_call 20; refine (calls_at (rsmay_any ⟨ak, at', al⟩ n A c _ (HR3.out.1 _ HB.out) HSA.out hla) HB.out).mono ?_; rintro e w5 ⟨he, HB5⟩; rw [HM1.out] at he; subst he; clear HB; have HB := HB5; clear HB5); (try go_wp2_with fail); refine hK.out _ _ (by rw [HSD.out]; exact HG3.out _ HB.out) (fun hHeld => ?_); clear hK K; (try simp only [Act.put, List.setIfInBounds_toArray, List.set_cons_zero, List.set_cons_succ]))
      (refine wpAnyH_take (i := 6) (oi := { dst := some 48, op := Go.Op.binOp Go.BinOp.neq 4 (Go.Operand.tmp 44) (Go.Operand.tmp 47) 4, type := 4, pos := "law.go:60", after := #[{ on := 2, ground := Go.Ground.data }, { on := 5, ground := Go.Ground.data }], guard := none }) (v := ?_) rfl (by kernel_rfl) (by kernel_rfl) (by kernel_rfl) (fun _ _ _ h => h) (Or.inl ⟨by rfl, ?_⟩) (by assumption) ?_; rotate_left 1; (focus (intro w hSw; rw [HSD.out] at hSw; (try dsimp only at hSw); go_simp; (try with_reducible rfl))); (try simp only [Act.put, List.setIfInBounds_toArray, List.set_cons_zero, List.set_cons_succ]))
      (refine wpAnyH_take (i := 7) (oi := { dst := some 49, op := Go.Op.move (Go.Operand.tmp 48), type := 4, pos := "law.go:60", after := #[{ on := 6, ground := Go.Ground.data }, { on := 5, ground := Go.Ground.chain }], guard := none }) (v := ?_) rfl (by kernel_rfl) (by kernel_rfl) (by kernel_rfl) (fun _ _ _ h => h) (Or.inl ⟨by rfl, ?_⟩) (by assumption) ?_; rotate_left 1; (focus (intro w hSw; rw [HSD.out] at hSw; (try dsimp only at hSw); go_simp; (try with_reducible rfl))); (try simp only [Act.put, List.setIfInBounds_toArray, List.set_cons_zero, List.set_cons_succ]))
      first | (refine wpAnyH_take (i := 8) (oi := { dst := some 50, op := Go.Op.load 24 (Go.Operand.tmp 13), type := 24, pos := "law.go:60", after := #[{ on := 7, ground := Go.Ground.guard }], guard := some (7, false) }) (v := ?_) rfl (by kernel_rfl) (by kernel_rfl) (by kernel_rfl) (fun _ _ _ h => h) (Or.inl ⟨by rfl, ?_⟩) (by assumption) ?_; rotate_left 1; (focus (intro w hSw; rw [HSD.out] at hSw; (try dsimp only at hSw); go_simp; (try with_reducible rfl))); (try simp only [Act.put, List.setIfInBounds_toArray, List.set_cons_zero, List.set_cons_succ])) | (refine wpAnyH_take (i := 8) (oi := { dst := some 50, op := Go.Op.load 24 (Go.Operand.tmp 13), type := 24, pos := "law.go:60", after := #[{ on := 7, ground := Go.Ground.guard }], guard := some (7, false) }) (v := undef) rfl (by kernel_rfl) (by kernel_rfl) (by kernel_rfl) (fun _ _ _ h => h) (Or.inr ⟨by rfl, rfl⟩) (by assumption) ?_; (try simp only [Act.put, List.setIfInBounds_toArray, List.set_cons_zero, List.set_cons_succ]))
      first | (refine wpAnyH_take (i := 9) (oi := { dst := some 51, op := Go.Op.load 24 (Go.Operand.tmp 14), type := 24, pos := "law.go:60", after := #[{ on := 7, ground := Go.Ground.guard }], guard := some (7, false) }) (v := ?_) rfl (by kernel_rfl) (by kernel_rfl) (by kernel_rfl) (fun _ _ _ h => h) (Or.inl ⟨by rfl, ?_⟩) (by assumption) ?_; rotate_left 1; (focus (intro w hSw; rw [HSD.out] at hSw; (try dsimp only at hSw); go_simp; (try with_reducible rfl))); (try simp only [Act.put, List.setIfInBounds_toArray, List.set_cons_zero, List.set_cons_succ])) | (refine wpAnyH_take (i := 9) (oi := { dst := some 51, op := Go.Op.load 24 (Go.Operand.tmp 14), type := 24, pos := "law.go:60", after := #[{ on := 7, ground := Go.Ground.guard }], guard := some (7, false) }) (v := undef) rfl (by kernel_rfl) (by kernel_rfl) (by kernel_rfl) (fun _ _ _ h => h) (Or.inr ⟨by rfl, rfl⟩) (by assumption) ?_; (try simp only [Act.put, List.setIfInBounds_toArray, List.set_cons_zero, List.set_cons_succ]))
      first | (refine wpAnyH_take (i := 11) (oi := { dst := some 53, op := Go.Op.load 24 (Go.Operand.tmp 6), type := 24, pos := "law.go:60", after := #[{ on := 7, ground := Go.Ground.guard }], guard := some (7, false) }) (v := ?_) rfl (by kernel_rfl) (by kernel_rfl) (by kernel_rfl) (fun _ _ _ h => h) (Or.inl ⟨by rfl, ?_⟩) (by assumption) ?_; rotate_left 1; (focus (intro w hSw; rw [HSD.out] at hSw; (try dsimp only at hSw); go_simp; (try with_reducible rfl))); (try simp only [Act.put, List.setIfInBounds_toArray, List.set_cons_zero, List.set_cons_succ])) | (refine wpAnyH_take (i := 11) (oi := { dst := some 53, op := Go.Op.load 24 (Go.Operand.tmp 6), type := 24, pos := "law.go:60", after := #[{ on := 7, ground := Go.Ground.guard }], guard := some (7, false) }) (v := undef) rfl (by kernel_rfl) (by kernel_rfl) (by kernel_rfl) (fun _ _ _ h => h) (Or.inr ⟨by rfl, rfl⟩) (by assumption) ?_; (try simp only [Act.put, List.setIfInBounds_toArray, List.set_cons_zero, List.set_cons_succ]))
      first | (refine wpAnyH_take (i := 12) (oi := { dst := some 54, op := Go.Op.load 24 (Go.Operand.tmp 7), type := 24, pos := "law.go:60", after := #[{ on := 7, ground := Go.Ground.guard }], guard := some (7, false) }) (v := ?_) rfl (by kernel_rfl) (by kernel_rfl) (by kernel_rfl) (fun _ _ _ h => h) (Or.inl ⟨by rfl, ?_⟩) (by assumption) ?_; rotate_left 1; (focus (intro w hSw; rw [HSD.out] at hSw; (try dsimp only at hSw); go_simp; (try with_reducible rfl))); (try simp only [Act.put, List.setIfInBounds_toArray, List.set_cons_zero, List.set_cons_succ])) | (refine wpAnyH_take (i := 12) (oi := { dst := some 54, op := Go.Op.load 24 (Go.Operand.tmp 7), type := 24, pos := "law.go:60", after := #[{ on := 7, ground := Go.Ground.guard }], guard := some (7, false) }) (v := undef) rfl (by kernel_rfl) (by kernel_rfl) (by kernel_rfl) (fun _ _ _ h => h) (Or.inr ⟨by rfl, rfl⟩) (by assumption) ?_; (try simp only [Act.put, List.setIfInBounds_toArray, List.set_cons_zero, List.set_cons_succ]))
      first | (refine wpAnyH_take (i := 10) (oi := { dst := some 52, op := Go.Op.call { callee := Go.Callee.value (Go.Operand.func 12), args := #[Go.Operand.tmp 50, Go.Operand.tmp 51], argTypes := #[24, 24] }, type := 4, pos := "law.go:60", after := #[{ on := 8, ground := Go.Ground.data }, { on := 9, ground := Go.Ground.data }, { on := 7, ground := Go.Ground.chain }, { on := 7, ground := Go.Ground.guard }], guard := some (7, false) }) (v := undef) rfl (by kernel_rfl) (by kernel_rfl) (by kernel_rfl) (fun _ _ _ h => h) (Or.inr ⟨by rfl, rfl⟩) (by assumption) ?_; (try simp only [Act.put, List.setIfInBounds_toArray, List.set_cons_zero, List.set_cons_succ])) | (refine wpAnyH_ready (rs := [10]) (by kernel_rfl) (by simp) ?_; refine AllReadyH.cons (o := { dst := some 52, op := Go.Op.call { callee := Go.Callee.value (Go.Operand.func 12), args := #[Go.Operand.tmp 50, Go.Operand.tmp 51], argTypes := #[24, 24] }, type := 4, pos := "law.go:60", after := #[{ on := 8, ground := Go.Ground.data }, { on := 9, ground := Go.Ground.data }, { on := 7, ground := Go.Ground.chain }, { on := 7, ground := Go.Ground.guard }], guard := some (7, false) }) rfl (fun K hK => ?_) AllReadyH.nil; go_simp; (go_at_call 12; refine (calls_at (same_any ⟨ak, at', al⟩ ⟨bk, bt, bl⟩ X Y xc yc _ (HR3.out.2.2.1 _ HB.out) (HR3.out.2.2.2 _ HB.out) hla hlb) HB.out).mono ?_; rintro e w5 ⟨he, HB5⟩; rw [HM2.out] at he; subst he; clear HB; have HB := HB5; clear HB5); (try go_wp2_with fail); refine hK.out _ _ (by rw [HSD.out]; exact HG3.out _ HB.out) (fun hHeld => ?_); clear hK K; (try simp only [Act.put, List.setIfInBounds_toArray, List.set_cons_zero, List.set_cons_succ]))
      first | (refine wpAnyH_take (i := 13) (oi := { dst := some 55, op := Go.Op.call { callee := Go.Callee.value (Go.Operand.func 21), args := #[Go.Operand.tmp 53, Go.Operand.tmp 54], argTypes := #[24, 24] }, type := 4, pos := "law.go:60", after := #[{ on := 11, ground := Go.Ground.data }, { on := 12, ground := Go.Ground.data }, { on := 10, ground := Go.Ground.chain }, { on := 7, ground := Go.Ground.guard }], guard := some (7, false) }) (v := undef) rfl (by kernel_rfl) (by kernel_rfl) (by kernel_rfl) (fun _ _ _ h => h) (Or.inr ⟨by rfl, rfl⟩) (by assumption) ?_; (try simp only [Act.put, List.setIfInBounds_toArray, List.set_cons_zero, List.set_cons_succ])) | (refine wpAnyH_ready (rs := [13]) (by kernel_rfl) (by simp) ?_; refine AllReadyH.cons (o := { dst := some 55, op := Go.Op.call { callee := Go.Callee.value (Go.Operand.func 21), args := #[Go.Operand.tmp 53, Go.Operand.tmp 54], argTypes := #[24, 24] }, type := 4, pos := "law.go:60", after := #[{ on := 11, ground := Go.Ground.data }, { on := 12, ground := Go.Ground.data }, { on := 10, ground := Go.Ground.chain }, { on := 7, ground := Go.Ground.guard }], guard := some (7, false) }) rfl (fun K hK => ?_) AllReadyH.nil; go_simp; (go_at_call 21; refine (calls_at (rsame_any ⟨ak, at', al⟩ ⟨bk, bt, bl⟩ A B c d _ (HR3.out.1 _ HB.out) (HR3.out.2.1 _ HB.out) hla hlb) HB.out).mono ?_; rintro e w5 ⟨he, HB5⟩; rw [HM2.out] at he; subst he; clear HB; have HB := HB5; clear HB5); (try go_wp2_with fail); refine hK.out _ _ (by rw [HSD.out]; exact HG3.out _ HB.out) (fun hHeld => ?_); clear hK K; (try simp only [Act.put, List.setIfInBounds_toArray, List.set_cons_zero, List.set_cons_succ]))
      first | (refine wpAnyH_take (i := 14) (oi := { dst := some 56, op := Go.Op.binOp Go.BinOp.neq 4 (Go.Operand.tmp 52) (Go.Operand.tmp 55) 4, type := 4, pos := "law.go:60", after := #[{ on := 10, ground := Go.Ground.data }, { on := 13, ground := Go.Ground.data }, { on := 7, ground := Go.Ground.guard }], guard := some (7, false) }) (v := ?_) rfl (by kernel_rfl) (by kernel_rfl) (by kernel_rfl) (fun _ _ _ h => h) (Or.inl ⟨by rfl, ?_⟩) (by assumption) ?_; rotate_left 1; (focus (intro w hSw; rw [HSD.out] at hSw; (try dsimp only at hSw); go_simp; (try with_reducible rfl))); (try simp only [Act.put, List.setIfInBounds_toArray, List.set_cons_zero, List.set_cons_succ])) | (refine wpAnyH_take (i := 14) (oi := { dst := some 56, op := Go.Op.binOp Go.BinOp.neq 4 (Go.Operand.tmp 52) (Go.Operand.tmp 55) 4, type := 4, pos := "law.go:60", after := #[{ on := 10, ground := Go.Ground.data }, { on := 13, ground := Go.Ground.data }, { on := 7, ground := Go.Ground.guard }], guard := some (7, false) }) (v := undef) rfl (by kernel_rfl) (by kernel_rfl) (by kernel_rfl) (fun _ _ _ h => h) (Or.inr ⟨by rfl, rfl⟩) (by assumption) ?_; (try simp only [Act.put, List.setIfInBounds_toArray, List.set_cons_zero, List.set_cons_succ]))
      (refine wpAnyH_take (i := 15) (oi := { dst := some 57, op := Go.Op.pick (Go.Operand.tmp 49) (Go.Operand.const (Go.Value.bool true)) (Go.Operand.tmp 56), type := 4, pos := "law.go:60", after := #[{ on := 7, ground := Go.Ground.data }, { on := 14, ground := Go.Ground.data }], guard := none }) (v := ?_) rfl (by kernel_rfl) (by kernel_rfl) (by kernel_rfl) (fun _ _ _ h => h) (Or.inl ⟨by rfl, ?_⟩) (by assumption) ?_; rotate_left 1; (focus (intro w hSw; rw [HSD.out] at hSw; (try dsimp only at hSw); go_simp; (try with_reducible rfl))); (try simp only [Act.put, List.setIfInBounds_toArray, List.set_cons_zero, List.set_cons_succ]))
      (refine wpAnyH_take (i := 16) (oi := { dst := some 58, op := Go.Op.move (Go.Operand.tmp 57), type := 4, pos := "law.go:60", after := #[{ on := 15, ground := Go.Ground.data }, { on := 13, ground := Go.Ground.chain }], guard := none }) (v := ?_) rfl (by kernel_rfl) (by kernel_rfl) (by kernel_rfl) (fun _ _ _ h => h) (Or.inl ⟨by rfl, ?_⟩) (by assumption) ?_; rotate_left 1; (focus (intro w hSw; rw [HSD.out] at hSw; (try dsimp only at hSw); go_simp; (try with_reducible rfl))); (try simp only [Act.put, List.setIfInBounds_toArray, List.set_cons_zero, List.set_cons_succ]))
      first | (refine wpAnyH_take (i := 17) (oi := { dst := some 59, op := Go.Op.load 24 (Go.Operand.tmp 13), type := 24, pos := "law.go:60", after := #[{ on := 16, ground := Go.Ground.guard }], guard := some (16, false) }) (v := ?_) rfl (by kernel_rfl) (by kernel_rfl) (by kernel_rfl) (fun _ _ _ h => h) (Or.inl ⟨by rfl, ?_⟩) (by assumption) ?_; rotate_left 1; (focus (intro w hSw; rw [HSD.out] at hSw; (try dsimp only at hSw); go_simp; (try with_reducible rfl))); (try simp only [Act.put, List.setIfInBounds_toArray, List.set_cons_zero, List.set_cons_succ])) | (refine wpAnyH_take (i := 17) (oi := { dst := some 59, op := Go.Op.load 24 (Go.Operand.tmp 13), type := 24, pos := "law.go:60", after := #[{ on := 16, ground := Go.Ground.guard }], guard := some (16, false) }) (v := undef) rfl (by kernel_rfl) (by kernel_rfl) (by kernel_rfl) (fun _ _ _ h => h) (Or.inr ⟨by rfl, rfl⟩) (by assumption) ?_; (try simp only [Act.put, List.setIfInBounds_toArray, List.set_cons_zero, List.set_cons_succ]))
      first | (refine wpAnyH_take (i := 18) (oi := { dst := some 60, op := Go.Op.load 24 (Go.Operand.tmp 6), type := 24, pos := "law.go:60", after := #[{ on := 16, ground := Go.Ground.guard }], guard := some (16, false) }) (v := ?_) rfl (by kernel_rfl) (by kernel_rfl) (by kernel_rfl) (fun _ _ _ h => h) (Or.inl ⟨by rfl, ?_⟩) (by assumption) ?_; rotate_left 1; (focus (intro w hSw; rw [HSD.out] at hSw; (try dsimp only at hSw); go_simp; (try with_reducible rfl))); (try simp only [Act.put, List.setIfInBounds_toArray, List.set_cons_zero, List.set_cons_succ])) | (refine wpAnyH_take (i := 18) (oi := { dst := some 60, op := Go.Op.load 24 (Go.Operand.tmp 6), type := 24, pos := "law.go:60", after := #[{ on := 16, ground := Go.Ground.guard }], guard := some (16, false) }) (v := undef) rfl (by kernel_rfl) (by kernel_rfl) (by kernel_rfl) (fun _ _ _ h => h) (Or.inr ⟨by rfl, rfl⟩) (by assumption) ?_; (try simp only [Act.put, List.setIfInBounds_toArray, List.set_cons_zero, List.set_cons_succ]))
      first | (refine wpAnyH_take (i := 19) (oi := { dst := some 61, op := Go.Op.call { callee := Go.Callee.value (Go.Operand.func 12), args := #[Go.Operand.tmp 59, Go.Operand.tmp 60], argTypes := #[24, 24] }, type := 4, pos := "law.go:60", after := #[{ on := 17, ground := Go.Ground.data }, { on := 18, ground := Go.Ground.data }, { on := 16, ground := Go.Ground.chain }, { on := 16, ground := Go.Ground.guard }], guard := some (16, false) }) (v := undef) rfl (by kernel_rfl) (by kernel_rfl) (by kernel_rfl) (fun _ _ _ h => h) (Or.inr ⟨by rfl, rfl⟩) (by assumption) ?_; (try simp only [Act.put, List.setIfInBounds_toArray, List.set_cons_zero, List.set_cons_succ])) | (refine wpAnyH_ready (rs := [19]) (by kernel_rfl) (by simp) ?_; refine AllReadyH.cons (o := { dst := some 61, op := Go.Op.call { callee := Go.Callee.value (Go.Operand.func 12), args := #[Go.Operand.tmp 59, Go.Operand.tmp 60], argTypes := #[24, 24] }, type := 4, pos := "law.go:60", after := #[{ on := 17, ground := Go.Ground.data }, { on := 18, ground := Go.Ground.data }, { on := 16, ground := Go.Ground.chain }, { on := 16, ground := Go.Ground.guard }], guard := some (16, false) }) rfl (fun K hK => ?_) AllReadyH.nil; go_simp; (go_at_call 12; refine (calls_at (same_any ⟨ak, at', al⟩ ⟨ak, at', al⟩ X A xc c _ (HR3.out.2.2.1 _ HB.out) (HR3.out.1 _ HB.out) hla hla) HB.out).mono ?_; rintro e w5 ⟨he, HB5⟩; obtain rfl : e = .returned (.bool true) := (by rw [he]; simp); clear he; clear HB; have HB := HB5; clear HB5); (try go_wp2_with fail); refine hK.out _ _ (by rw [HSD.out]; exact HG3.out _ HB.out) (fun hHeld => ?_); clear hK K; (try simp only [Act.put, List.setIfInBounds_toArray, List.set_cons_zero, List.set_cons_succ]))
      first | (refine wpAnyH_take (i := 20) (oi := { dst := some 62, op := Go.Op.unOp Go.UnOp.not 4 (Go.Operand.tmp 61), type := 4, pos := "law.go:60", after := #[{ on := 19, ground := Go.Ground.data }, { on := 16, ground := Go.Ground.guard }], guard := some (16, false) }) (v := ?_) rfl (by kernel_rfl) (by kernel_rfl) (by kernel_rfl) (fun _ _ _ h => h) (Or.inl ⟨by rfl, ?_⟩) (by assumption) ?_; rotate_left 1; (focus (intro w hSw; rw [HSD.out] at hSw; (try dsimp only at hSw); go_simp; (try with_reducible rfl))); (try simp only [Act.put, List.setIfInBounds_toArray, List.set_cons_zero, List.set_cons_succ])) | (refine wpAnyH_take (i := 20) (oi := { dst := some 62, op := Go.Op.unOp Go.UnOp.not 4 (Go.Operand.tmp 61), type := 4, pos := "law.go:60", after := #[{ on := 19, ground := Go.Ground.data }, { on := 16, ground := Go.Ground.guard }], guard := some (16, false) }) (v := undef) rfl (by kernel_rfl) (by kernel_rfl) (by kernel_rfl) (fun _ _ _ h => h) (Or.inr ⟨by rfl, rfl⟩) (by assumption) ?_; (try simp only [Act.put, List.setIfInBounds_toArray, List.set_cons_zero, List.set_cons_succ]))
      (refine wpAnyH_take (i := 21) (oi := { dst := some 63, op := Go.Op.pick (Go.Operand.tmp 58) (Go.Operand.const (Go.Value.bool true)) (Go.Operand.tmp 62), type := 4, pos := "law.go:60", after := #[{ on := 16, ground := Go.Ground.data }, { on := 20, ground := Go.Ground.data }], guard := none }) (v := ?_) rfl (by kernel_rfl) (by kernel_rfl) (by kernel_rfl) (fun _ _ _ h => h) (Or.inl ⟨by rfl, ?_⟩) (by assumption) ?_; rotate_left 1; (focus (intro w hSw; rw [HSD.out] at hSw; (try dsimp only at hSw); go_simp; (try with_reducible rfl))); (try simp only [Act.put, List.setIfInBounds_toArray, List.set_cons_zero, List.set_cons_succ]))
      (refine wpAnyH_take (i := 22) (oi := { dst := some 64, op := Go.Op.move (Go.Operand.tmp 63), type := 4, pos := "law.go:60", after := #[{ on := 21, ground := Go.Ground.data }, { on := 19, ground := Go.Ground.chain }], guard := none }) (v := ?_) rfl (by kernel_rfl) (by kernel_rfl) (by kernel_rfl) (fun _ _ _ h => h) (Or.inl ⟨by rfl, ?_⟩) (by assumption) ?_; rotate_left 1; (focus (intro w hSw; rw [HSD.out] at hSw; (try dsimp only at hSw); go_simp; (try with_reducible rfl))); (try simp only [Act.put, List.setIfInBounds_toArray, List.set_cons_zero, List.set_cons_succ]))
      first | (refine wpAnyH_take (i := 23) (oi := { dst := some 65, op := Go.Op.load 24 (Go.Operand.tmp 13), type := 24, pos := "law.go:60", after := #[{ on := 22, ground := Go.Ground.guard }], guard := some (22, false) }) (v := ?_) rfl (by kernel_rfl) (by kernel_rfl) (by kernel_rfl) (fun _ _ _ h => h) (Or.inl ⟨by rfl, ?_⟩) (by assumption) ?_; rotate_left 1; (focus (intro w hSw; rw [HSD.out] at hSw; (try dsimp only at hSw); go_simp; (try with_reducible rfl))); (try simp only [Act.put, List.setIfInBounds_toArray, List.set_cons_zero, List.set_cons_succ])) | (refine wpAnyH_take (i := 23) (oi := { dst := some 65, op := Go.Op.load 24 (Go.Operand.tmp 13), type := 24, pos := "law.go:60", after := #[{ on := 22, ground := Go.Ground.guard }], guard := some (22, false) }) (v := undef) rfl (by kernel_rfl) (by kernel_rfl) (by kernel_rfl) (fun _ _ _ h => h) (Or.inr ⟨by rfl, rfl⟩) (by assumption) ?_; (try simp only [Act.put, List.setIfInBounds_toArray, List.set_cons_zero, List.set_cons_succ]))
      first | (refine wpAnyH_take (i := 24) (oi := { dst := some 66, op := Go.Op.move (Go.Operand.tmp 5), type := 9, pos := "law.go:60", after := #[{ on := 22, ground := Go.Ground.guard }], guard := some (22, false) }) (v := ?_) rfl (by kernel_rfl) (by kernel_rfl) (by kernel_rfl) (fun _ _ _ h => h) (Or.inl ⟨by rfl, ?_⟩) (by assumption) ?_; rotate_left 1; (focus (intro w hSw; rw [HSD.out] at hSw; (try dsimp only at hSw); go_simp; (try with_reducible rfl))); (try simp only [Act.put, List.setIfInBounds_toArray, List.set_cons_zero, List.set_cons_succ])) | (refine wpAnyH_take (i := 24) (oi := { dst := some 66, op := Go.Op.move (Go.Operand.tmp 5), type := 9, pos := "law.go:60", after := #[{ on := 22, ground := Go.Ground.guard }], guard := some (22, false) }) (v := undef) rfl (by kernel_rfl) (by kernel_rfl) (by kernel_rfl) (fun _ _ _ h => h) (Or.inr ⟨by rfl, rfl⟩) (by assumption) ?_; (try simp only [Act.put, List.setIfInBounds_toArray, List.set_cons_zero, List.set_cons_succ]))
      first | (refine wpAnyH_take (i := 25) (oi := { dst := some 67, op := Go.Op.move (Go.Operand.tmp 4), type := 9, pos := "law.go:60", after := #[{ on := 22, ground := Go.Ground.guard }], guard := some (22, false) }) (v := ?_) rfl (by kernel_rfl) (by kernel_rfl) (by kernel_rfl) (fun _ _ _ h => h) (Or.inl ⟨by rfl, ?_⟩) (by assumption) ?_; rotate_left 1; (focus (intro w hSw; rw [HSD.out] at hSw; (try dsimp only at hSw); go_simp; (try with_reducible rfl))); (try simp only [Act.put, List.setIfInBounds_toArray, List.set_cons_zero, List.set_cons_succ])) | (refine wpAnyH_take (i := 25) (oi := { dst := some 67, op := Go.Op.move (Go.Operand.tmp 4), type := 9, pos := "law.go:60", after := #[{ on := 22, ground := Go.Ground.guard }], guard := some (22, false) }) (v := undef) rfl (by kernel_rfl) (by kernel_rfl) (by kernel_rfl) (fun _ _ _ h => h) (Or.inr ⟨by rfl, rfl⟩) (by assumption) ?_; (try simp only [Act.put, List.setIfInBounds_toArray, List.set_cons_zero, List.set_cons_succ]))
      first | (refine wpAnyH_take (i := 27) (oi := { dst := some 69, op := Go.Op.load 24 (Go.Operand.tmp 6), type := 24, pos := "law.go:60", after := #[{ on := 22, ground := Go.Ground.guard }], guard := some (22, false) }) (v := ?_) rfl (by kernel_rfl) (by kernel_rfl) (by kernel_rfl) (fun _ _ _ h => h) (Or.inl ⟨by rfl, ?_⟩) (by assumption) ?_; rotate_left 1; (focus (intro w hSw; rw [HSD.out] at hSw; (try dsimp only at hSw); go_simp; (try with_reducible rfl))); (try simp only [Act.put, List.setIfInBounds_toArray, List.set_cons_zero, List.set_cons_succ])) | (refine wpAnyH_take (i := 27) (oi := { dst := some 69, op := Go.Op.load 24 (Go.Operand.tmp 6), type := 24, pos := "law.go:60", after := #[{ on := 22, ground := Go.Ground.guard }], guard := some (22, false) }) (v := undef) rfl (by kernel_rfl) (by kernel_rfl) (by kernel_rfl) (fun _ _ _ h => h) (Or.inr ⟨by rfl, rfl⟩) (by assumption) ?_; (try simp only [Act.put, List.setIfInBounds_toArray, List.set_cons_zero, List.set_cons_succ]))
      first | (refine wpAnyH_take (i := 28) (oi := { dst := some 70, op := Go.Op.move (Go.Operand.tmp 5), type := 9, pos := "law.go:60", after := #[{ on := 22, ground := Go.Ground.guard }], guard := some (22, false) }) (v := ?_) rfl (by kernel_rfl) (by kernel_rfl) (by kernel_rfl) (fun _ _ _ h => h) (Or.inl ⟨by rfl, ?_⟩) (by assumption) ?_; rotate_left 1; (focus (intro w hSw; rw [HSD.out] at hSw; (try dsimp only at hSw); go_simp; (try with_reducible rfl))); (try simp only [Act.put, List.setIfInBounds_toArray, List.set_cons_zero, List.set_cons_succ])) | (refine wpAnyH_take (i := 28) (oi := { dst := some 70, op := Go.Op.move (Go.Operand.tmp 5), type := 9, pos := "law.go:60", after := #[{ on := 22, ground := Go.Ground.guard }], guard := some (22, false) }) (v := undef) rfl (by kernel_rfl) (by kernel_rfl) (by kernel_rfl) (fun _ _ _ h => h) (Or.inr ⟨by rfl, rfl⟩) (by assumption) ?_; (try simp only [Act.put, List.setIfInBounds_toArray, List.set_cons_zero, List.set_cons_succ]))
      first | (refine wpAnyH_take (i := 29) (oi := { dst := some 71, op := Go.Op.move (Go.Operand.tmp 4), type := 9, pos := "law.go:60", after := #[{ on := 22, ground := Go.Ground.guard }], guard := some (22, false) }) (v := ?_) rfl (by kernel_rfl) (by kernel_rfl) (by kernel_rfl) (fun _ _ _ h => h) (Or.inl ⟨by rfl, ?_⟩) (by assumption) ?_; rotate_left 1; (focus (intro w hSw; rw [HSD.out] at hSw; (try dsimp only at hSw); go_simp; (try with_reducible rfl))); (try simp only [Act.put, List.setIfInBounds_toArray, List.set_cons_zero, List.set_cons_succ])) | (refine wpAnyH_take (i := 29) (oi := { dst := some 71, op := Go.Op.move (Go.Operand.tmp 4), type := 9, pos := "law.go:60", after := #[{ on := 22, ground := Go.Ground.guard }], guard := some (22, false) }) (v := undef) rfl (by kernel_rfl) (by kernel_rfl) (by kernel_rfl) (fun _ _ _ h => h) (Or.inr ⟨by rfl, rfl⟩) (by assumption) ?_; (try simp only [Act.put, List.setIfInBounds_toArray, List.set_cons_zero, List.set_cons_succ]))
      first | (refine wpAnyH_take (i := 26) (oi := { dst := some 68, op := Go.Op.call { callee := Go.Callee.value (Go.Operand.func 23), args := #[Go.Operand.tmp 65, Go.Operand.tmp 66, Go.Operand.tmp 67], argTypes := #[24, 9, 9] }, type := 41, pos := "law.go:60", after := #[{ on := 23, ground := Go.Ground.data }, { on := 24, ground := Go.Ground.data }, { on := 25, ground := Go.Ground.data }, { on := 22, ground := Go.Ground.chain }, { on := 22, ground := Go.Ground.guard }], guard := some (22, false) }) (v := undef) rfl (by kernel_rfl) (by kernel_rfl) (by kernel_rfl) (fun _ _ _ h => h) (Or.inr ⟨by rfl, rfl⟩) (by assumption) ?_; (try simp only [Act.put, List.setIfInBounds_toArray, List.set_cons_zero, List.set_cons_succ])) | (refine wpAnyH_ready (rs := [26]) (by kernel_rfl) (by simp) ?_; refine AllReadyH.cons (o := { dst := some 68, op := Go.Op.call { callee := Go.Callee.value (Go.Operand.func 23), args := #[Go.Operand.tmp 65, Go.Operand.tmp 66, Go.Operand.tmp 67], argTypes := #[24, 9, 9] }, type := 41, pos := "law.go:60", after := #[{ on := 23, ground := Go.Ground.data }, { on := 24, ground := Go.Ground.data }, { on := 25, ground := Go.Ground.data }, { on := 22, ground := Go.Ground.chain }, { on := 22, ground := Go.Ground.guard }], guard := some (22, false) }) rfl (fun K hK => ?_) AllReadyH.nil; go_simp; (go_at_call 23; refine (texts_any ⟨ak, at', al⟩ input name X xc _ (HR3.out.2.2.1 _ HB.out) HSA.out hla (by omega)).mono ?_; rintro e w5 ⟨_, rfl, hT, hb5⟩; obtain ⟨T1, t1c, rfl, hT1⟩ := hT.row; have HT1 := Lib.hid hT1; clear hT hT1; have HB5 := Lib.hid (HB.out.trans (hb5.mono HB.out.size)); clear hb5; clear HB; have HB := HB5; clear HB5); (try go_wp2_with fail); refine hK.out _ _ (by rw [HSD.out]; exact HG3.out _ HB.out) (fun hHeld => ?_); clear hK K; (try simp only [Act.put, List.setIfInBounds_toArray, List.set_cons_zero, List.set_cons_succ]))
      first | (refine wpAnyH_take (i := 30) (oi := { dst := some 72, op := Go.Op.call { callee := Go.Callee.value (Go.Operand.func 24), args := #[Go.Operand.tmp 69, Go.Operand.tmp 70, Go.Operand.tmp 71], argTypes := #[24, 9, 9] }, type := 41, pos := "law.go:60", after := #[{ on := 27, ground := Go.Ground.data }, { on := 28, ground := Go.Ground.data }, { on := 29, ground := Go.Ground.data }, { on := 26, ground := Go.Ground.chain }, { on := 22, ground := Go.Ground.guard }], guard := some (22, false) }) (v := undef) rfl (by kernel_rfl) (by kernel_rfl) (by kernel_rfl) (fun _ _ _ h => h) (Or.inr ⟨by rfl, rfl⟩) (by assumption) ?_; (try simp only [Act.put, List.setIfInBounds_toArray, List.set_cons_zero, List.set_cons_succ])) | (refine wpAnyH_ready (rs := [30]) (by kernel_rfl) (by simp) ?_; refine AllReadyH.cons (o := { dst := some 72, op := Go.Op.call { callee := Go.Callee.value (Go.Operand.func 24), args := #[Go.Operand.tmp 69, Go.Operand.tmp 70, Go.Operand.tmp 71], argTypes := #[24, 9, 9] }, type := 41, pos := "law.go:60", after := #[{ on := 27, ground := Go.Ground.data }, { on := 28, ground := Go.Ground.data }, { on := 29, ground := Go.Ground.data }, { on := 26, ground := Go.Ground.chain }, { on := 22, ground := Go.Ground.guard }], guard := some (22, false) }) rfl (fun K hK => ?_) AllReadyH.nil; go_simp; (go_at_call 24; refine (rtexts_any ⟨ak, at', al⟩ input name A c _ (HR3.out.1 _ HB.out) HSA.out hla (by omega)).mono ?_; rintro e w5 ⟨_, rfl, hT, hb5⟩; obtain ⟨T2, t2c, rfl, hT2⟩ := hT.row; have HT1' := Lib.hid (HT1.out.below hb5); clear HT1; have HT2 := Lib.hid hT2; clear hT hT2; have HB5 := Lib.hid (HB.out.trans (hb5.mono HB.out.size)); clear hb5; clear HB; have HB := HB5; clear HB5); (try go_wp2_with fail); refine hK.out _ _ (by rw [HSD.out]; exact HG3.out _ HB.out) (fun hHeld => ?_); clear hK K; (try simp only [Act.put, List.setIfInBounds_toArray, List.set_cons_zero, List.set_cons_succ]))
      first | (refine wpAnyH_take (i := 31) (oi := { dst := some 73, op := Go.Op.call { callee := Go.Callee.value (Go.Operand.func 22), args := #[Go.Operand.tmp 68, Go.Operand.tmp 72], argTypes := #[41, 41] }, type := 4, pos := "law.go:60", after := #[{ on := 26, ground := Go.Ground.data }, { on := 30, ground := Go.Ground.data }, { on := 30, ground := Go.Ground.chain }, { on := 22, ground := Go.Ground.guard }], guard := some (22, false) }) (v := undef) rfl (by kernel_rfl) (by kernel_rfl) (by kernel_rfl) (fun _ _ _ h => h) (Or.inr ⟨by rfl, rfl⟩) (by assumption) ?_; (try simp only [Act.put, List.setIfInBounds_toArray, List.set_cons_zero, List.set_cons_succ])) | (refine wpAnyH_ready (rs := [31]) (by kernel_rfl) (by simp) ?_; refine AllReadyH.cons (o := { dst := some 73, op := Go.Op.call { callee := Go.Callee.value (Go.Operand.func 22), args := #[Go.Operand.tmp 68, Go.Operand.tmp 72], argTypes := #[41, 41] }, type := 4, pos := "law.go:60", after := #[{ on := 26, ground := Go.Ground.data }, { on := 30, ground := Go.Ground.data }, { on := 30, ground := Go.Ground.chain }, { on := 22, ground := Go.Ground.guard }], guard := some (22, false) }) rfl (fun K hK => ?_) AllReadyH.nil; go_simp; (go_at_call 22; refine (calls_at (ltexts_any (textsB ⟨ak, at', al⟩ input name) (textsB ⟨ak, at', al⟩ input name) T1 T2 t1c t2c _ HT1'.out HT2.out (Nat.le_trans (textsB_len _ _ _) hla) (Nat.le_trans (textsB_len _ _ _) hla)) HB.out).mono ?_; rintro e w5 ⟨he, HB5⟩; obtain rfl : e = .returned (.bool true) := (by rw [he]; simp); clear he; clear HB; have HB := HB5; clear HB5; clear HT1' HT2); (try go_wp2_with fail); refine hK.out _ _ (by rw [HSD.out]; exact HG3.out _ HB.out) (fun hHeld => ?_); clear hK K; (try simp only [Act.put, List.setIfInBounds_toArray, List.set_cons_zero, List.set_cons_succ]))
      first | (refine wpAnyH_take (i := 32) (oi := { dst := some 74, op := Go.Op.unOp Go.UnOp.not 4 (Go.Operand.tmp 73), type := 4, pos := "law.go:60", after := #[{ on := 31, ground := Go.Ground.data }, { on := 22, ground := Go.Ground.guard }], guard := some (22, false) }) (v := ?_) rfl (by kernel_rfl) (by kernel_rfl) (by kernel_rfl) (fun _ _ _ h => h) (Or.inl ⟨by rfl, ?_⟩) (by assumption) ?_; rotate_left 1; (focus (intro w hSw; rw [HSD.out] at hSw; (try dsimp only at hSw); go_simp; (try with_reducible rfl))); (try simp only [Act.put, List.setIfInBounds_toArray, List.set_cons_zero, List.set_cons_succ])) | (refine wpAnyH_take (i := 32) (oi := { dst := some 74, op := Go.Op.unOp Go.UnOp.not 4 (Go.Operand.tmp 73), type := 4, pos := "law.go:60", after := #[{ on := 31, ground := Go.Ground.data }, { on := 22, ground := Go.Ground.guard }], guard := some (22, false) }) (v := undef) rfl (by kernel_rfl) (by kernel_rfl) (by kernel_rfl) (fun _ _ _ h => h) (Or.inr ⟨by rfl, rfl⟩) (by assumption) ?_; (try simp only [Act.put, List.setIfInBounds_toArray, List.set_cons_zero, List.set_cons_succ]))
      (refine wpAnyH_take (i := 33) (oi := { dst := some 75, op := Go.Op.pick (Go.Operand.tmp 64) (Go.Operand.const (Go.Value.bool true)) (Go.Operand.tmp 74), type := 4, pos := "law.go:60", after := #[{ on := 22, ground := Go.Ground.data }, { on := 32, ground := Go.Ground.data }], guard := none }) (v := ?_) rfl (by kernel_rfl) (by kernel_rfl) (by kernel_rfl) (fun _ _ _ h => h) (Or.inl ⟨by rfl, ?_⟩) (by assumption) ?_; rotate_left 1; (focus (intro w hSw; rw [HSD.out] at hSw; (try dsimp only at hSw); go_simp; (try with_reducible rfl))); (try simp only [Act.put, List.setIfInBounds_toArray, List.set_cons_zero, List.set_cons_succ]))
      (refine wpAnyH_take (i := 34) (oi := { dst := some 76, op := Go.Op.move (Go.Operand.tmp 75), type := 4, pos := "law.go:60", after := #[{ on := 33, ground := Go.Ground.data }, { on := 31, ground := Go.Ground.chain }], guard := none }) (v := ?_) rfl (by kernel_rfl) (by kernel_rfl) (by kernel_rfl) (fun _ _ _ h => h) (Or.inl ⟨by rfl, ?_⟩) (by assumption) ?_; rotate_left 1; (focus (intro w hSw; rw [HSD.out] at hSw; (try dsimp only at hSw); go_simp; (try with_reducible rfl))); (try simp only [Act.put, List.setIfInBounds_toArray, List.set_cons_zero, List.set_cons_succ]))
      first | (refine wpAnyH_take (i := 36) (oi := { dst := some 78, op := Go.Op.build 24 #[], type := 24, pos := "law.go:60", after := #[{ on := 34, ground := Go.Ground.guard }], guard := some (34, false) }) (v := ?_) rfl (by kernel_rfl) (by kernel_rfl) (by kernel_rfl) (fun _ _ _ h => h) (Or.inl ⟨by rfl, ?_⟩) (by assumption) ?_; rotate_left 1; (focus (intro w hSw; rw [HSD.out] at hSw; (try dsimp only at hSw); go_simp; (try with_reducible rfl))); (try simp only [Act.put, List.setIfInBounds_toArray, List.set_cons_zero, List.set_cons_succ])) | (refine wpAnyH_take (i := 36) (oi := { dst := some 78, op := Go.Op.build 24 #[], type := 24, pos := "law.go:60", after := #[{ on := 34, ground := Go.Ground.guard }], guard := some (34, false) }) (v := undef) rfl (by kernel_rfl) (by kernel_rfl) (by kernel_rfl) (fun _ _ _ h => h) (Or.inr ⟨by rfl, rfl⟩) (by assumption) ?_; (try simp only [Act.put, List.setIfInBounds_toArray, List.set_cons_zero, List.set_cons_succ]))
      first | (refine wpAnyH_take (i := 35) (oi := { dst := some 77, op := Go.Op.call { callee := Go.Callee.value (Go.Operand.func 18), args := #[], argTypes := #[] }, type := 24, pos := "law.go:60", after := #[{ on := 34, ground := Go.Ground.chain }, { on := 34, ground := Go.Ground.guard }], guard := some (34, false) }) (v := undef) rfl (by kernel_rfl) (by kernel_rfl) (by kernel_rfl) (fun _ _ _ h => h) (Or.inr ⟨by rfl, rfl⟩) (by assumption) ?_; (try simp only [Act.put, List.setIfInBounds_toArray, List.set_cons_zero, List.set_cons_succ])) | (refine wpAnyH_ready (rs := [35]) (by kernel_rfl) (by simp) ?_; refine AllReadyH.cons (o := { dst := some 77, op := Go.Op.call { callee := Go.Callee.value (Go.Operand.func 18), args := #[], argTypes := #[] }, type := 24, pos := "law.go:60", after := #[{ on := 34, ground := Go.Ground.chain }, { on := 34, ground := Go.Ground.guard }], guard := some (34, false) }) rfl (fun K hK => ?_) AllReadyH.nil; go_simp; (go_at_call 18; refine (calls_at (fail_any _) HB.out).mono ?_; rintro e w5 ⟨rfl, HB5⟩; clear HB; have HB := HB5; clear HB5); (try go_wp2_with fail); refine hK.out _ _ (by rw [HSD.out]; exact HG3.out _ HB.out) (fun hHeld => ?_); clear hK K; (try simp only [Act.put, List.setIfInBounds_toArray, List.set_cons_zero, List.set_cons_succ]))
      first | (refine wpAnyH_take (i := 37) (oi := { dst := some 79, op := Go.Op.call { callee := Go.Callee.value (Go.Operand.func 21), args := #[Go.Operand.tmp 77, Go.Operand.tmp 78], argTypes := #[24, 24] }, type := 4, pos := "law.go:60", after := #[{ on := 35, ground := Go.Ground.data }, { on := 36, ground := Go.Ground.data }, { on := 35, ground := Go.Ground.chain }, { on := 34, ground := Go.Ground.guard }], guard := some (34, false) }) (v := undef) rfl (by kernel_rfl) (by kernel_rfl) (by kernel_rfl) (fun _ _ _ h => h) (Or.inr ⟨by rfl, rfl⟩) (by assumption) ?_; (try simp only [Act.put, List.setIfInBounds_toArray, List.set_cons_zero, List.set_cons_succ])) | (refine wpAnyH_ready (rs := [37]) (by kernel_rfl) (by simp) ?_; refine AllReadyH.cons (o := { dst := some 79, op := Go.Op.call { callee := Go.Callee.value (Go.Operand.func 21), args := #[Go.Operand.tmp 77, Go.Operand.tmp 78], argTypes := #[24, 24] }, type := 4, pos := "law.go:60", after := #[{ on := 35, ground := Go.Ground.data }, { on := 36, ground := Go.Ground.data }, { on := 35, ground := Go.Ground.chain }, { on := 34, ground := Go.Ground.guard }], guard := some (34, false) }) rfl (fun K hK => ?_) AllReadyH.nil; go_simp; (go_at_call 21; refine (calls_at (rsame_any ⟨false, 0, []⟩ ⟨false, 0, []⟩ none none 0 0 _ (fun j u h => by simp [cellsOf] at h) (fun j u h => by simp [cellsOf] at h) (by simp) (by simp)) HB.out).mono ?_; rintro e w5 ⟨he, HB5⟩; obtain rfl : e = .returned (.bool true) := (by rw [he]; simp); clear he; clear HB; have HB := HB5; clear HB5); (try go_wp2_with fail); refine hK.out _ _ (by rw [HSD.out]; exact HG3.out _ HB.out) (fun hHeld => ?_); clear hK K; (try simp only [Act.put, List.setIfInBounds_toArray, List.set_cons_zero, List.set_cons_succ]))
      first | (refine wpAnyH_take (i := 38) (oi := { dst := some 80, op := Go.Op.unOp Go.UnOp.not 4 (Go.Operand.tmp 79), type := 4, pos := "law.go:60", after := #[{ on := 37, ground := Go.Ground.data }, { on := 34, ground := Go.Ground.guard }], guard := some (34, false) }) (v := ?_) rfl (by kernel_rfl) (by kernel_rfl) (by kernel_rfl) (fun _ _ _ h => h) (Or.inl ⟨by rfl, ?_⟩) (by assumption) ?_; rotate_left 1; (focus (intro w hSw; rw [HSD.out] at hSw; (try dsimp only at hSw); go_simp; (try with_reducible rfl))); (try simp only [Act.put, List.setIfInBounds_toArray, List.set_cons_zero, List.set_cons_succ])) | (refine wpAnyH_take (i := 38) (oi := { dst := some 80, op := Go.Op.unOp Go.UnOp.not 4 (Go.Operand.tmp 79), type := 4, pos := "law.go:60", after := #[{ on := 37, ground := Go.Ground.data }, { on := 34, ground := Go.Ground.guard }], guard := some (34, false) }) (v := undef) rfl (by kernel_rfl) (by kernel_rfl) (by kernel_rfl) (fun _ _ _ h => h) (Or.inr ⟨by rfl, rfl⟩) (by assumption) ?_; (try simp only [Act.put, List.setIfInBounds_toArray, List.set_cons_zero, List.set_cons_succ]))
      (refine wpAnyH_take (i := 39) (oi := { dst := some 81, op := Go.Op.pick (Go.Operand.tmp 76) (Go.Operand.const (Go.Value.bool true)) (Go.Operand.tmp 80), type := 4, pos := "law.go:60", after := #[{ on := 34, ground := Go.Ground.data }, { on := 38, ground := Go.Ground.data }], guard := none }) (v := ?_) rfl (by kernel_rfl) (by kernel_rfl) (by kernel_rfl) (fun _ _ _ h => h) (Or.inl ⟨by rfl, ?_⟩) (by assumption) ?_; rotate_left 1; (focus (intro w hSw; rw [HSD.out] at hSw; (try dsimp only at hSw); go_simp; (try with_reducible rfl))); (try simp only [Act.put, List.setIfInBounds_toArray, List.set_cons_zero, List.set_cons_succ]))
      (refine wpAnyH_take (i := 40) (oi := { dst := some 82, op := Go.Op.move (Go.Operand.tmp 81), type := 4, pos := "law.go:60", after := #[{ on := 39, ground := Go.Ground.data }, { on := 37, ground := Go.Ground.chain }], guard := none }) (v := ?_) rfl (by kernel_rfl) (by kernel_rfl) (by kernel_rfl) (fun _ _ _ h => h) (Or.inl ⟨by rfl, ?_⟩) (by assumption) ?_; rotate_left 1; (focus (intro w hSw; rw [HSD.out] at hSw; (try dsimp only at hSw); go_simp; (try with_reducible rfl))); (try simp only [Act.put, List.setIfInBounds_toArray, List.set_cons_zero, List.set_cons_succ]))
      first | (refine wpAnyH_take (i := 41) (oi := { dst := some 83, op := Go.Op.move (Go.Operand.tmp 2), type := 3, pos := "law.go:60", after := #[{ on := 40, ground := Go.Ground.guard }], guard := some (40, false) }) (v := ?_) rfl (by kernel_rfl) (by kernel_rfl) (by kernel_rfl) (fun _ _ _ h => h) (Or.inl ⟨by rfl, ?_⟩) (by assumption) ?_; rotate_left 1; (focus (intro w hSw; rw [HSD.out] at hSw; (try dsimp only at hSw); go_simp; (try with_reducible rfl))); (try simp only [Act.put, List.setIfInBounds_toArray, List.set_cons_zero, List.set_cons_succ])) | (refine wpAnyH_take (i := 41) (oi := { dst := some 83, op := Go.Op.move (Go.Operand.tmp 2), type := 3, pos := "law.go:60", after := #[{ on := 40, ground := Go.Ground.guard }], guard := some (40, false) }) (v := undef) rfl (by kernel_rfl) (by kernel_rfl) (by kernel_rfl) (fun _ _ _ h => h) (Or.inr ⟨by rfl, rfl⟩) (by assumption) ?_; (try simp only [Act.put, List.setIfInBounds_toArray, List.set_cons_zero, List.set_cons_succ]))
      first | (refine wpAnyH_take (i := 43) (oi := { dst := some 85, op := Go.Op.move (Go.Operand.tmp 2), type := 3, pos := "law.go:60", after := #[{ on := 40, ground := Go.Ground.guard }], guard := some (40, false) }) (v := ?_) rfl (by kernel_rfl) (by kernel_rfl) (by kernel_rfl) (fun _ _ _ h => h) (Or.inl ⟨by rfl, ?_⟩) (by assumption) ?_; rotate_left 1; (focus (intro w hSw; rw [HSD.out] at hSw; (try dsimp only at hSw); go_simp; (try with_reducible rfl))); (try simp only [Act.put, List.setIfInBounds_toArray, List.set_cons_zero, List.set_cons_succ])) | (refine wpAnyH_take (i := 43) (oi := { dst := some 85, op := Go.Op.move (Go.Operand.tmp 2), type := 3, pos := "law.go:60", after := #[{ on := 40, ground := Go.Ground.guard }], guard := some (40, false) }) (v := undef) rfl (by kernel_rfl) (by kernel_rfl) (by kernel_rfl) (fun _ _ _ h => h) (Or.inr ⟨by rfl, rfl⟩) (by assumption) ?_; (try simp only [Act.put, List.setIfInBounds_toArray, List.set_cons_zero, List.set_cons_succ]))
      first | (refine wpAnyH_take (i := 44) (oi := { dst := some 86, op := Go.Op.build 24 #[(0, Go.Operand.const (Go.Value.bool true)), (1, Go.Operand.tmp 85)], type := 24, pos := "law.go:60", after := #[{ on := 43, ground := Go.Ground.data }, { on := 40, ground := Go.Ground.guard }], guard := some (40, false) }) (v := ?_) rfl (by kernel_rfl) (by kernel_rfl) (by kernel_rfl) (fun _ _ _ h => h) (Or.inl ⟨by rfl, ?_⟩) (by assumption) ?_; rotate_left 1; (focus (intro w hSw; rw [HSD.out] at hSw; (try dsimp only at hSw); go_simp; (try with_reducible rfl))); (try simp only [Act.put, List.setIfInBounds_toArray, List.set_cons_zero, List.set_cons_succ])) | (refine wpAnyH_take (i := 44) (oi := { dst := some 86, op := Go.Op.build 24 #[(0, Go.Operand.const (Go.Value.bool true)), (1, Go.Operand.tmp 85)], type := 24, pos := "law.go:60", after := #[{ on := 43, ground := Go.Ground.data }, { on := 40, ground := Go.Ground.guard }], guard := some (40, false) }) (v := undef) rfl (by kernel_rfl) (by kernel_rfl) (by kernel_rfl) (fun _ _ _ h => h) (Or.inr ⟨by rfl, rfl⟩) (by assumption) ?_; (try simp only [Act.put, List.setIfInBounds_toArray, List.set_cons_zero, List.set_cons_succ]))
      first | (refine wpAnyH_take (i := 42) (oi := { dst := some 84, op := Go.Op.call { callee := Go.Callee.value (Go.Operand.func 25), args := #[Go.Operand.tmp 83], argTypes := #[3] }, type := 24, pos := "law.go:60", after := #[{ on := 41, ground := Go.Ground.data }, { on := 40, ground := Go.Ground.chain }, { on := 40, ground := Go.Ground.guard }], guard := some (40, false) }) (v := undef) rfl (by kernel_rfl) (by kernel_rfl) (by kernel_rfl) (fun _ _ _ h => h) (Or.inr ⟨by rfl, rfl⟩) (by assumption) ?_; (try simp only [Act.put, List.setIfInBounds_toArray, List.set_cons_zero, List.set_cons_succ])) | (refine wpAnyH_ready (rs := [42]) (by kernel_rfl) (by simp) ?_; refine AllReadyH.cons (o := { dst := some 84, op := Go.Op.call { callee := Go.Callee.value (Go.Operand.func 25), args := #[Go.Operand.tmp 83], argTypes := #[3] }, type := 24, pos := "law.go:60", after := #[{ on := 41, ground := Go.Ground.data }, { on := 40, ground := Go.Ground.chain }, { on := 40, ground := Go.Ground.guard }], guard := some (40, false) }) rfl (fun K hK => ?_) AllReadyH.nil; go_simp; (go_at_call 25; refine (calls_at (at_any n _) HB.out).mono ?_; rintro e w5 ⟨rfl, HB5⟩; clear HB; have HB := HB5; clear HB5); (try go_wp2_with fail); refine hK.out _ _ (by rw [HSD.out]; exact HG3.out _ HB.out) (fun hHeld => ?_); clear hK K; (try simp only [Act.put, List.setIfInBounds_toArray, List.set_cons_zero, List.set_cons_succ]))
      first | (refine wpAnyH_take (i := 45) (oi := { dst := some 87, op := Go.Op.call { callee := Go.Callee.value (Go.Operand.func 21), args := #[Go.Operand.tmp 84, Go.Operand.tmp 86], argTypes := #[24, 24] }, type := 4, pos := "law.go:60", after := #[{ on := 42, ground := Go.Ground.data }, { on := 44, ground := Go.Ground.data }, { on := 42, ground := Go.Ground.chain }, { on := 40, ground := Go.Ground.guard }], guard := some (40, false) }) (v := undef) rfl (by kernel_rfl) (by kernel_rfl) (by kernel_rfl) (fun _ _ _ h => h) (Or.inr ⟨by rfl, rfl⟩) (by assumption) ?_; (try simp only [Act.put, List.setIfInBounds_toArray, List.set_cons_zero, List.set_cons_succ])) | (refine wpAnyH_ready (rs := [45]) (by kernel_rfl) (by simp) ?_; refine AllReadyH.cons (o := { dst := some 87, op := Go.Op.call { callee := Go.Callee.value (Go.Operand.func 21), args := #[Go.Operand.tmp 84, Go.Operand.tmp 86], argTypes := #[24, 24] }, type := 4, pos := "law.go:60", after := #[{ on := 42, ground := Go.Ground.data }, { on := 44, ground := Go.Ground.data }, { on := 42, ground := Go.Ground.chain }, { on := 40, ground := Go.Ground.guard }], guard := some (40, false) }) rfl (fun K hK => ?_) AllReadyH.nil; go_simp; (go_at_call 21; refine (calls_at (rsame_any ⟨true, n, []⟩ ⟨true, n, []⟩ none none 0 0 _ (fun j u h => by simp [cellsOf] at h) (fun j u h => by simp [cellsOf] at h) (by simp) (by simp)) HB.out).mono ?_; rintro e w5 ⟨he, HB5⟩; obtain rfl : e = .returned (.bool true) := (by rw [he]; simp); clear he; clear HB; have HB := HB5; clear HB5); (try go_wp2_with fail); refine hK.out _ _ (by rw [HSD.out]; exact HG3.out _ HB.out) (fun hHeld => ?_); clear hK K; (try simp only [Act.put, List.setIfInBounds_toArray, List.set_cons_zero, List.set_cons_succ]))
      first | (refine wpAnyH_take (i := 46) (oi := { dst := some 88, op := Go.Op.unOp Go.UnOp.not 4 (Go.Operand.tmp 87), type := 4, pos := "law.go:60", after := #[{ on := 45, ground := Go.Ground.data }, { on := 40, ground := Go.Ground.guard }], guard := some (40, false) }) (v := ?_) rfl (by kernel_rfl) (by kernel_rfl) (by kernel_rfl) (fun _ _ _ h => h) (Or.inl ⟨by rfl, ?_⟩) (by assumption) ?_; rotate_left 1; (focus (intro w hSw; rw [HSD.out] at hSw; (try dsimp only at hSw); go_simp; (try with_reducible rfl))); (try simp only [Act.put, List.setIfInBounds_toArray, List.set_cons_zero, List.set_cons_succ])) | (refine wpAnyH_take (i := 46) (oi := { dst := some 88, op := Go.Op.unOp Go.UnOp.not 4 (Go.Operand.tmp 87), type := 4, pos := "law.go:60", after := #[{ on := 45, ground := Go.Ground.data }, { on := 40, ground := Go.Ground.guard }], guard := some (40, false) }) (v := undef) rfl (by kernel_rfl) (by kernel_rfl) (by kernel_rfl) (fun _ _ _ h => h) (Or.inr ⟨by rfl, rfl⟩) (by assumption) ?_; (try simp only [Act.put, List.setIfInBounds_toArray, List.set_cons_zero, List.set_cons_succ]))
      (refine wpAnyH_take (i := 47) (oi := { dst := some 89, op := Go.Op.pick (Go.Operand.tmp 82) (Go.Operand.const (Go.Value.bool true)) (Go.Operand.tmp 88), type := 4, pos := "law.go:60", after := #[{ on := 40, ground := Go.Ground.data }, { on := 46, ground := Go.Ground.data }], guard := none }) (v := ?_) rfl (by kernel_rfl) (by kernel_rfl) (by kernel_rfl) (fun _ _ _ h => h) (Or.inl ⟨by rfl, ?_⟩) (by assumption) ?_; rotate_left 1; (focus (intro w hSw; rw [HSD.out] at hSw; (try dsimp only at hSw); go_simp; (try with_reducible rfl))); (try simp only [Act.put, List.setIfInBounds_toArray, List.set_cons_zero, List.set_cons_succ]))
      refine wpAnyH_done (by kernel_rfl) ?_ _
      clear em1 em2 HSD
      go_wp2_with fail
      have HBL := HB; clear HB
      obtain ⟨⟨jk, jt, jl⟩, hj⟩ : ∃ q, joinO ⟨ak, at', al⟩ ⟨bk, bt, bl⟩ = q := ⟨_, rfl⟩
      have hjl := join_len hj
      have HJ := Lib.hid hj; clear hj
      obtain ⟨⟨ck, ct, cl⟩, hc⟩ : ∃ q, capO name n ⟨ak, at', al⟩ = q := ⟨_, rfl⟩
      have hcl : cl.length ≤ 1000 := by
        have h := congrArg (fun o => o.caps.length) hc
        revert h; cases ak <;> simp [capO] <;> omega
      have HC := Lib.hid hc; clear hc
      obtain ⟨⟨⟨sk, st, sl⟩, sb⟩, hs⟩ : ∃ q, shiftO ⟨ak, at', al⟩ by' = q := ⟨_, rfl⟩
      have hsl : sl.length ≤ 1000 := by
        have h := congrArg (fun o => o.1.caps.length) hs
        revert h; unfold shiftO; (repeat' split) <;> simp <;> omega
      have HS := Lib.hid hs; clear hs
      simp only at hjl
      have HHL := Lib.hid (show jl.length ≤ 281474976710656 ∧ cl.length ≤ 281474976710656 ∧ sl.length ≤ 281474976710656 from ⟨by omega, by omega, by omega⟩)
      clear hjl hcl hsl
      go_loopw [15] (fun i wr => ∃ k : Nat, k ≤ 2 ∧ i = .int .i64 k ∧ Below w3.heap.size w3 wr) (fun i _ => 2 - (intOf i).toNat)
      case atStart => exact ⟨0, by omega, rfl, HBL.out⟩
      case round =>
        obtain ⟨k, hk, rfl, hbr⟩ := hrel
        have HBR := Lib.hid hbr; clear hbr HBL
        have HZR := Lib.hid HBR.out.size
        by_cases hlt : k < 2
        · go_wp2_with fail
          have HG := Lib.hid (show ∀ w', Below wr.heap.size wr w' → ((w'.cell? ⟨p13, 0, none⟩ = some (.bool ak) ∧ w'.cell? ⟨p13, 1, none⟩ = some (.int .i64 at') ∧ w'.cell? ⟨p13, 2, none⟩ = some (.slice X al.length xc)) ∧ (w'.cell? ⟨p14, 0, none⟩ = some (.bool bk) ∧ w'.cell? ⟨p14, 1, none⟩ = some (.int .i64 bt) ∧ w'.cell? ⟨p14, 2, none⟩ = some (.slice Y bl.length yc))) from fun w' hb => (HG3.out _ (HBR.out.trans (hb.mono HZR.out))).1.2.2)
          have HRR := Lib.hid (show ∀ w', Below wr.heap.size wr w' → Below w3.heap.size w3 w' from fun w' hb => HBR.out.trans (hb.mono HZR.out))
          have hd : decide ((k : Int) < 2) = true := by simp; omega
          simp only [hd]
          clear hd
          refine wp_region_inv0 (TellInv9 (.agg #[.bool ak, .int .i64 at', .slice X al.length xc]) (.agg #[.bool bk, .int .i64 bt, .slice Y bl.length yc]) (.string name) (.int .i64 n) ⟨jk, jt, jl⟩ ⟨ck, ct, cl⟩ ⟨ak, at', al⟩ wr.heap.size wr) (by kernel_rfl) ?_ ?_ ?_
          · exact ⟨rfl, (Below.refl _ _).drew, Nat.le_refl _, _, _, _, _, _, _, _, _, _, _, _, _, (self_puts _ [94, 95, 96, 97, 98, 99, 100, 101, 102, 16, 17, 18] rfl).symm, fun h => absurd h (by decide), fun h => absurd h (by decide), fun h => absurd h (by decide), fun h => absurd h (by decide), fun h => absurd h (by decide), fun h => absurd h (by decide), fun h => absurd h (by decide), fun h => absurd h (by decide), fun h => absurd h (by decide), fun h => absurd h (by decide), fun h => absurd h (by decide), fun h => absurd h (by decide), fun h => absurd h (by decide), fun h => absurd h (by decide), fun h => absurd h (by decide), fun h => absurd h (by decide), fun h => absurd h (by decide), fun h => absurd h (by decide), fun h => absurd h (by decide), fun h => absurd h (by decide), fun h => absurd h (by decide)⟩
          · as_aux_lemma =>
            intro listed a' w' hI i hi
            obtain ⟨hsz, hb, hB, v94, v95, v96, v97, v98, v99, v100, v101, v102, v16, v17, v18, rfl, c0, c1, c2, c3, c4, c5, c6, c7, c8, c9, c10, c11, c12, c13, c14, c15, c16, c17, c18, c19, c20⟩ := hI
            have hun := (ready_mem hi).2.1
            have hlt : i < 15 := (ready_mem hi).1
            have hcs : i = 0 ∨ i = 1 ∨ i = 2 ∨ i = 3 ∨ i = 4 ∨ i = 5 ∨ i = 6 ∨ i = 7 ∨ i = 8 ∨ i = 9 ∨ i = 10 ∨ i = 11 ∨ i = 12 ∨ i = 13 ∨ i = 14 := by omega
            clear hlt
            rcases hcs with rfl | rfl | rfl | rfl | rfl | rfl | rfl | rfl | rfl | rfl | rfl | rfl | rfl | rfl | rfl
            · have hp := ready_after (o := { dst := some 94, op := Go.Op.load 24 (Go.Operand.tmp 13), type := 24, pos := "law.go:64", after := #[], guard := none }) hi rfl
              simp [Region.binds] at hp
              have hbk : Below w'.heap.size w' w' := Below.refl _ _
              obtain ⟨⟨f1, f2, f3⟩, f4, f5, f6⟩ := HG.out _ hb
              refine wpOp_shut (o := { dst := some 94, op := Go.Op.load 24 (Go.Operand.tmp 13), type := 24, pos := "law.go:64", after := #[], guard := none }) rfl (fun K hK => ?_)
              simp only [Act.put, List.setIfInBounds_toArray, List.set_cons_zero, List.set_cons_succ]
              go_simp
              exact hK.out _ _ ⟨by simp [hsz], hb, hB, _, _, _, _, _, _, _, _, _, _, _, _, by simp only [Act.put, List.setIfInBounds_toArray, List.set_cons_zero, List.set_cons_succ],
                  fun _ => rfl,
                  fun h => c1 (flag_of (by decide) h),
                  fun h => (c2 (flag_of (by decide) h)).below hbk,
                  fun h => c3 (flag_of (by decide) h),
                  fun h => c4 (flag_of (by decide) h),
                  fun h => c5 (flag_of (by decide) h),
                  fun h => (c6 (flag_of (by decide) h)).below hbk,
                  fun h => c7 (flag_of (by decide) h),
                  fun h => (c8 (flag_of (by decide) h)).below hbk,
                  fun h => (c9 (flag_of (by decide) h)).below (flag_of (by decide)) hbk,
                  fun h => (c10 (flag_of (by decide) h)).below (flag_of (by decide)) hbk,
                  fun h => (c11 (flag_of (by decide) h)).below (flag_of (by decide)) hbk,
                  fun h k => c12 (flag_of (by decide) h) (flag_of (by decide) k),
                  fun h k => c13 (flag_of (by decide) h) (flag_of (by decide) k),
                  fun h k => c14 (flag_of (by decide) h) (flag_of (by decide) k),
                  fun h => ⟨flag_old (c15 (flag_of (by decide) h)).1, flag_old (c15 (flag_of (by decide) h)).2⟩,
                  fun h => ⟨flag_old (c16 (flag_of (by decide) h)).1, flag_old (c16 (flag_of (by decide) h)).2⟩,
                  fun h => ⟨flag_old (c17 (flag_of (by decide) h)).1, flag_old (c17 (flag_of (by decide) h)).2⟩,
                  fun h k => c18 (flag_of (by decide) h) (flag_of (by decide) k),
                  fun h k => c19 (flag_of (by decide) h) (flag_of (by decide) k),
                  fun h k => c20 (flag_of (by decide) h) (flag_of (by decide) k)⟩
            · have hp := ready_after (o := { dst := some 95, op := Go.Op.load 24 (Go.Operand.tmp 14), type := 24, pos := "law.go:64", after := #[], guard := none }) hi rfl
              simp [Region.binds] at hp
              have hbk : Below w'.heap.size w' w' := Below.refl _ _
              obtain ⟨⟨f1, f2, f3⟩, f4, f5, f6⟩ := HG.out _ hb
              refine wpOp_shut (o := { dst := some 95, op := Go.Op.load 24 (Go.Operand.tmp 14), type := 24, pos := "law.go:64", after := #[], guard := none }) rfl (fun K hK => ?_)
              simp only [Act.put, List.setIfInBounds_toArray, List.set_cons_zero, List.set_cons_succ]
              go_simp
              exact hK.out _ _ ⟨by simp [hsz], hb, hB, _, _, _, _, _, _, _, _, _, _, _, _, by simp only [Act.put, List.setIfInBounds_toArray, List.set_cons_zero, List.set_cons_succ],
                  fun h => c0 (flag_of (by decide) h),
                  fun _ => rfl,
                  fun h => (c2 (flag_of (by decide) h)).below hbk,
                  fun h => c3 (flag_of (by decide) h),
                  fun h => c4 (flag_of (by decide) h),
                  fun h => c5 (flag_of (by decide) h),
                  fun h => (c6 (flag_of (by decide) h)).below hbk,
                  fun h => c7 (flag_of (by decide) h),
                  fun h => (c8 (flag_of (by decide) h)).below hbk,
                  fun h => (c9 (flag_of (by decide) h)).below (flag_of (by decide)) hbk,
                  fun h => (c10 (flag_of (by decide) h)).below (flag_of (by decide)) hbk,
                  fun h => (c11 (flag_of (by decide) h)).below (flag_of (by decide)) hbk,
                  fun h k => c12 (flag_of (by decide) h) (flag_of (by decide) k),
                  fun h k => c13 (flag_of (by decide) h) (flag_of (by decide) k),
                  fun h k => c14 (flag_of (by decide) h) (flag_of (by decide) k),
                  fun h => ⟨flag_old (c15 (flag_of (by decide) h)).1, flag_old (c15 (flag_of (by decide) h)).2⟩,
                  fun h => ⟨flag_old (c16 (flag_of (by decide) h)).1, flag_old (c16 (flag_of (by decide) h)).2⟩,
                  fun h => ⟨flag_old (c17 (flag_of (by decide) h)).1, flag_old (c17 (flag_of (by decide) h)).2⟩,
                  fun h k => c18 (flag_of (by decide) h) (flag_of (by decide) k),
                  fun h k => c19 (flag_of (by decide) h) (flag_of (by decide) k),
                  fun h k => c20 (flag_of (by decide) h) (flag_of (by decide) k)⟩
            · have hp := ready_after (o := { dst := some 96, op := Go.Op.call { callee := Go.Callee.value (Go.Operand.func 11), args := #[Go.Operand.tmp 94, Go.Operand.tmp 95], argTypes := #[24, 24] }, type := 24, pos := "law.go:64", after := #[{ on := 0, ground := Go.Ground.data }, { on := 1, ground := Go.Ground.data }], guard := none }) hi rfl
              simp [Region.binds] at hp
              obtain rfl := c0 (by first | exact hp | simp [hp])
              obtain rfl := c1 (by first | exact hp | simp [hp])
              refine wpOp_shut (o := { dst := some 96, op := Go.Op.call { callee := Go.Callee.value (Go.Operand.func 11), args := #[Go.Operand.tmp 94, Go.Operand.tmp 95], argTypes := #[24, 24] }, type := 24, pos := "law.go:64", after := #[{ on := 0, ground := Go.Ground.data }, { on := 1, ground := Go.Ground.data }], guard := none }) rfl (fun K hK => ?_)
              simp only [Act.put, List.setIfInBounds_toArray, List.set_cons_zero, List.set_cons_succ]
              go_simp
              refine (join_any ⟨ak, at', al⟩ ⟨bk, bt, bl⟩ X Y xc yc w' (HR3.out.2.2.1 _ (HRR.out _ hb)) (HR3.out.2.2.2 _ (HRR.out _ hb)) (by simp only; omega)).mono ?_; rintro e w1 ⟨vn, rfl, hown, hbk⟩; rw [HJ.out] at hown; go_wp2_with fail
              exact hK.out _ _ ⟨by simp [hsz], (hb.trans (hbk.mono hB)), (Nat.le_trans hB hbk.size), _, _, _, _, _, _, _, _, _, _, _, _, by simp only [Act.put, List.setIfInBounds_toArray, List.set_cons_zero, List.set_cons_succ],
                  fun _ => rfl,
                  fun _ => rfl,
                  fun _ => hown.mono hB,
                  fun h => c3 (flag_of (by decide) h),
                  fun h => c4 (flag_of (by decide) h),
                  fun h => c5 (flag_of (by decide) h),
                  fun h => (c6 (flag_of (by decide) h)).below hbk,
                  fun h => c7 (flag_of (by decide) h),
                  fun h => (c8 (flag_of (by decide) h)).below hbk,
                  fun h => ((c9 (flag_of (by decide) h)).below id hbk).none (fun u => flag_not hun (c15 (flag_of (by decide) u)).1),
                  fun h => (c10 (flag_of (by decide) h)).below (flag_of (by decide)) hbk,
                  fun h => (c11 (flag_of (by decide) h)).below (flag_of (by decide)) hbk,
                  fun h k => c12 (flag_of (by decide) h) (flag_of (by decide) k),
                  fun h k => c13 (flag_of (by decide) h) (flag_of (by decide) k),
                  fun h k => c14 (flag_of (by decide) h) (flag_of (by decide) k),
                  fun h => ⟨flag_old (c15 (flag_of (by decide) h)).1, flag_old (c15 (flag_of (by decide) h)).2⟩,
                  fun h => ⟨flag_old (c16 (flag_of (by decide) h)).1, flag_old (c16 (flag_of (by decide) h)).2⟩,
                  fun h => ⟨flag_old (c17 (flag_of (by decide) h)).1, flag_old (c17 (flag_of (by decide) h)).2⟩,
                  fun _ h => SepO.symm (SepO.of (c6 (flag_of (by decide) h)) hown),
                  fun _ h => SepO.symm (SepO.of (c8 (flag_of (by decide) h)) hown),
                  fun h k => c20 (flag_of (by decide) h) (flag_of (by decide) k)⟩
            · have hp := ready_after (o := { dst := some 97, op := Go.Op.move (Go.Operand.tmp 4), type := 9, pos := "law.go:64", after := #[], guard := none }) hi rfl
              simp [Region.binds] at hp
              have hbk : Below w'.heap.size w' w' := Below.refl _ _
              obtain ⟨⟨f1, f2, f3⟩, f4, f5, f6⟩ := HG.out _ hb
              refine wpOp_shut (o := { dst := some 97, op := Go.Op.move (Go.Operand.tmp 4), type := 9, pos := "law.go:64", after := #[], guard := none }) rfl (fun K hK => ?_)
              simp only [Act.put, List.setIfInBounds_toArray, List.set_cons_zero, List.set_cons_succ]
              go_simp
              exact hK.out _ _ ⟨by simp [hsz], hb, hB, _, _, _, _, _, _, _, _, _, _, _, _, by simp only [Act.put, List.setIfInBounds_toArray, List.set_cons_zero, List.set_cons_succ],
                  fun h => c0 (flag_of (by decide) h),
                  fun h => c1 (flag_of (by decide) h),
                  fun h => (c2 (flag_of (by decide) h)).below hbk,
                  fun _ => rfl,
                  fun h => c4 (flag_of (by decide) h),
                  fun h => c5 (flag_of (by decide) h),
                  fun h => (c6 (flag_of (by decide) h)).below hbk,
                  fun h => c7 (flag_of (by decide) h),
                  fun h => (c8 (flag_of (by decide) h)).below hbk,
                  fun h => (c9 (flag_of (by decide) h)).below (flag_of (by decide)) hbk,
                  fun h => (c10 (flag_of (by decide) h)).below (flag_of (by decide)) hbk,
                  fun h => (c11 (flag_of (by decide) h)).below (flag_of (by decide)) hbk,
                  fun h k => c12 (flag_of (by decide) h) (flag_of (by decide) k),
                  fun h k => c13 (flag_of (by decide) h) (flag_of (by decide) k),
                  fun h k => c14 (flag_of (by decide) h) (flag_of (by decide) k),
                  fun h => ⟨flag_old (c15 (flag_of (by decide) h)).1, flag_old (c15 (flag_of (by decide) h)).2⟩,
                  fun h => ⟨flag_old (c16 (flag_of (by decide) h)).1, flag_old (c16 (flag_of (by decide) h)).2⟩,
                  fun h => ⟨flag_old (c17 (flag_of (by decide) h)).1, flag_old (c17 (flag_of (by decide) h)).2⟩,
                  fun h k => c18 (flag_of (by decide) h) (flag_of (by decide) k),
                  fun h k => c19 (flag_of (by decide) h) (flag_of (by decide) k),
                  fun h k => c20 (flag_of (by decide) h) (flag_of (by decide) k)⟩
            · have hp := ready_after (o := { dst := some 98, op := Go.Op.move (Go.Operand.tmp 2), type := 3, pos := "law.go:64", after := #[], guard := none }) hi rfl
              simp [Region.binds] at hp
              have hbk : Below w'.heap.size w' w' := Below.refl _ _
              obtain ⟨⟨f1, f2, f3⟩, f4, f5, f6⟩ := HG.out _ hb
              refine wpOp_shut (o := { dst := some 98, op := Go.Op.move (Go.Operand.tmp 2), type := 3, pos := "law.go:64", after := #[], guard := none }) rfl (fun K hK => ?_)
              simp only [Act.put, List.setIfInBounds_toArray, List.set_cons_zero, List.set_cons_succ]
              go_simp
              exact hK.out _ _ ⟨by simp [hsz], hb, hB, _, _, _, _, _, _, _, _, _, _, _, _, by simp only [Act.put, List.setIfInBounds_toArray, List.set_cons_zero, List.set_cons_succ],
                  fun h => c0 (flag_of (by decide) h),
                  fun h => c1 (flag_of (by decide) h),
                  fun h => (c2 (flag_of (by decide) h)).below hbk,
                  fun h => c3 (flag_of (by decide) h),
                  fun _ => rfl,
                  fun h => c5 (flag_of (by decide) h),
                  fun h => (c6 (flag_of (by decide) h)).below hbk,
                  fun h => c7 (flag_of (by decide) h),
                  fun h => (c8 (flag_of (by decide) h)).below hbk,
                  fun h => (c9 (flag_of (by decide) h)).below (flag_of (by decide)) hbk,
                  fun h => (c10 (flag_of (by decide) h)).below (flag_of (by decide)) hbk,
                  fun h => (c11 (flag_of (by decide) h)).below (flag_of (by decide)) hbk,
                  fun h k => c12 (flag_of (by decide) h) (flag_of (by decide) k),
                  fun h k => c13 (flag_of (by decide) h) (flag_of (by decide) k),
                  fun h k => c14 (flag_of (by decide) h) (flag_of (by decide) k),
                  fun h => ⟨flag_old (c15 (flag_of (by decide) h)).1, flag_old (c15 (flag_of (by decide) h)).2⟩,
                  fun h => ⟨flag_old (c16 (flag_of (by decide) h)).1, flag_old (c16 (flag_of (by decide) h)).2⟩,
                  fun h => ⟨flag_old (c17 (flag_of (by decide) h)).1, flag_old (c17 (flag_of (by decide) h)).2⟩,
                  fun h k => c18 (flag_of (by decide) h) (flag_of (by decide) k),
                  fun h k => c19 (flag_of (by decide) h) (flag_of (by decide) k),
                  fun h k => c20 (flag_of (by decide) h) (flag_of (by decide) k)⟩
            · have hp := ready_after (o := { dst := some 99, op := Go.Op.load 24 (Go.Operand.tmp 13), type := 24, pos := "law.go:64", after := #[], guard := none }) hi rfl
              simp [Region.binds] at hp
              have hbk : Below w'.heap.size w' w' := Below.refl _ _
              obtain ⟨⟨f1, f2, f3⟩, f4, f5, f6⟩ := HG.out _ hb
              refine wpOp_shut (o := { dst := some 99, op := Go.Op.load 24 (Go.Operand.tmp 13), type := 24, pos := "law.go:64", after := #[], guard := none }) rfl (fun K hK => ?_)
              simp only [Act.put, List.setIfInBounds_toArray, List.set_cons_zero, List.set_cons_succ]
              go_simp
              exact hK.out _ _ ⟨by simp [hsz], hb, hB, _, _, _, _, _, _, _, _, _, _, _, _, by simp only [Act.put, List.setIfInBounds_toArray, List.set_cons_zero, List.set_cons_succ],
                  fun h => c0 (flag_of (by decide) h),
                  fun h => c1 (flag_of (by decide) h),
                  fun h => (c2 (flag_of (by decide) h)).below hbk,
                  fun h => c3 (flag_of (by decide) h),
                  fun h => c4 (flag_of (by decide) h),
                  fun _ => rfl,
                  fun h => (c6 (flag_of (by decide) h)).below hbk,
                  fun h => c7 (flag_of (by decide) h),
                  fun h => (c8 (flag_of (by decide) h)).below hbk,
                  fun h => (c9 (flag_of (by decide) h)).below (flag_of (by decide)) hbk,
                  fun h => (c10 (flag_of (by decide) h)).below (flag_of (by decide)) hbk,
                  fun h => (c11 (flag_of (by decide) h)).below (flag_of (by decide)) hbk,
                  fun h k => c12 (flag_of (by decide) h) (flag_of (by decide) k),
                  fun h k => c13 (flag_of (by decide) h) (flag_of (by decide) k),
                  fun h k => c14 (flag_of (by decide) h) (flag_of (by decide) k),
                  fun h => ⟨flag_old (c15 (flag_of (by decide) h)).1, flag_old (c15 (flag_of (by decide) h)).2⟩,
                  fun h => ⟨flag_old (c16 (flag_of (by decide) h)).1, flag_old (c16 (flag_of (by decide) h)).2⟩,
                  fun h => ⟨flag_old (c17 (flag_of (by decide) h)).1, flag_old (c17 (flag_of (by decide) h)).2⟩,
                  fun h k => c18 (flag_of (by decide) h) (flag_of (by decide) k),
                  fun h k => c19 (flag_of (by decide) h) (flag_of (by decide) k),
                  fun h k => c20 (flag_of (by decide) h) (flag_of (by decide) k)⟩
            · have hp := ready_after (o := { dst := some 100, op := Go.Op.call { callee := Go.Callee.value (Go.Operand.func 15), args := #[Go.Operand.tmp 97, Go.Operand.tmp 98, Go.Operand.tmp 99], argTypes := #[9, 3, 24] }, type := 24, pos := "law.go:64", after := #[{ on := 3, ground := Go.Ground.data }, { on := 4, ground := Go.Ground.data }, { on := 5, ground := Go.Ground.data }, { on := 2, ground := Go.Ground.chain }], guard := none }) hi rfl
              simp [Region.binds] at hp
              obtain rfl := c3 (by first | exact hp | simp [hp])
              obtain rfl := c4 (by first | exact hp | simp [hp])
              obtain rfl := c5 (by first | exact hp | simp [hp])
              refine wpOp_shut (o := { dst := some 100, op := Go.Op.call { callee := Go.Callee.value (Go.Operand.func 15), args := #[Go.Operand.tmp 97, Go.Operand.tmp 98, Go.Operand.tmp 99], argTypes := #[9, 3, 24] }, type := 24, pos := "law.go:64", after := #[{ on := 3, ground := Go.Ground.data }, { on := 4, ground := Go.Ground.data }, { on := 5, ground := Go.Ground.data }, { on := 2, ground := Go.Ground.chain }], guard := none }) rfl (fun K hK => ?_)
              simp only [Act.put, List.setIfInBounds_toArray, List.set_cons_zero, List.set_cons_succ]
              go_simp
              refine (cap_any name n ⟨ak, at', al⟩ X xc w' (HR3.out.2.2.1 _ (HRR.out _ hb)) (by simp only; omega)).mono ?_; rintro e w1 ⟨vn, rfl, hown, hbk⟩; rw [HC.out] at hown; go_wp2_with fail
              exact hK.out _ _ ⟨by simp [hsz], (hb.trans (hbk.mono hB)), (Nat.le_trans hB hbk.size), _, _, _, _, _, _, _, _, _, _, _, _, by simp only [Act.put, List.setIfInBounds_toArray, List.set_cons_zero, List.set_cons_succ],
                  fun h => c0 (flag_of (by decide) h),
                  fun h => c1 (flag_of (by decide) h),
                  fun h => (c2 (flag_of (by decide) h)).below hbk,
                  fun _ => rfl,
                  fun _ => rfl,
                  fun _ => rfl,
                  fun _ => hown.mono hB,
                  fun h => c7 (flag_of (by decide) h),
                  fun h => (c8 (flag_of (by decide) h)).below hbk,
                  fun h => (c9 (flag_of (by decide) h)).below (flag_of (by decide)) hbk,
                  fun h => ((c10 (flag_of (by decide) h)).below id hbk).none (fun u => flag_not hun (c16 (flag_of (by decide) u)).1),
                  fun h => (c11 (flag_of (by decide) h)).below (flag_of (by decide)) hbk,
                  fun h k => c12 (flag_of (by decide) h) (flag_of (by decide) k),
                  fun h k => c13 (flag_of (by decide) h) (flag_of (by decide) k),
                  fun h k => c14 (flag_of (by decide) h) (flag_of (by decide) k),
                  fun h => ⟨flag_old (c15 (flag_of (by decide) h)).1, flag_old (c15 (flag_of (by decide) h)).2⟩,
                  fun h => ⟨flag_old (c16 (flag_of (by decide) h)).1, flag_old (c16 (flag_of (by decide) h)).2⟩,
                  fun h => ⟨flag_old (c17 (flag_of (by decide) h)).1, flag_old (c17 (flag_of (by decide) h)).2⟩,
                  fun h _ => SepO.of (c2 (flag_of (by decide) h)) hown,
                  fun h k => c19 (flag_of (by decide) h) (flag_of (by decide) k),
                  fun _ h => SepO.symm (SepO.of (c8 (flag_of (by decide) h)) hown)⟩
            · have hp := ready_after (o := { dst := some 101, op := Go.Op.load 24 (Go.Operand.tmp 13), type := 24, pos := "law.go:64", after := #[], guard := none }) hi rfl
              simp [Region.binds] at hp
              have hbk : Below w'.heap.size w' w' := Below.refl _ _
              obtain ⟨⟨f1, f2, f3⟩, f4, f5, f6⟩ := HG.out _ hb
              refine wpOp_shut (o := { dst := some 101, op := Go.Op.load 24 (Go.Operand.tmp 13), type := 24, pos := "law.go:64", after := #[], guard := none }) rfl (fun K hK => ?_)
              simp only [Act.put, List.setIfInBounds_toArray, List.set_cons_zero, List.set_cons_succ]
              go_simp
              exact hK.out _ _ ⟨by simp [hsz], hb, hB, _, _, _, _, _, _, _, _, _, _, _, _, by simp only [Act.put, List.setIfInBounds_toArray, List.set_cons_zero, List.set_cons_succ],
                  fun h => c0 (flag_of (by decide) h),
                  fun h => c1 (flag_of (by decide) h),
                  fun h => (c2 (flag_of (by decide) h)).below hbk,
                  fun h => c3 (flag_of (by decide) h),
                  fun h => c4 (flag_of (by decide) h),
                  fun h => c5 (flag_of (by decide) h),
                  fun h => (c6 (flag_of (by decide) h)).below hbk,
                  fun _ => rfl,
                  fun h => (c8 (flag_of (by decide) h)).below hbk,
                  fun h => (c9 (flag_of (by decide) h)).below (flag_of (by decide)) hbk,
                  fun h => (c10 (flag_of (by decide) h)).below (flag_of (by decide)) hbk,
                  fun h => (c11 (flag_of (by decide) h)).below (flag_of (by decide)) hbk,
                  fun h k => c12 (flag_of (by decide) h) (flag_of (by decide) k),
                  fun h k => c13 (flag_of (by decide) h) (flag_of (by decide) k),
                  fun h k => c14 (flag_of (by decide) h) (flag_of (by decide) k),
                  fun h => ⟨flag_old (c15 (flag_of (by decide) h)).1, flag_old (c15 (flag_of (by decide) h)).2⟩,
                  fun h => ⟨flag_old (c16 (flag_of (by decide) h)).1, flag_old (c16 (flag_of (by decide) h)).2⟩,
                  fun h => ⟨flag_old (c17 (flag_of (by decide) h)).1, flag_old (c17 (flag_of (by decide) h)).2⟩,
                  fun h k => c18 (flag_of (by decide) h) (flag_of (by decide) k),
                  fun h k => c19 (flag_of (by decide) h) (flag_of (by decide) k),
                  fun h k => c20 (flag_of (by decide) h) (flag_of (by decide) k)⟩
            · have hp := ready_after (o := { dst := some 102, op := Go.Op.call { callee := Go.Callee.value (Go.Operand.func 26), args := #[Go.Operand.tmp 101], argTypes := #[24] }, type := 24, pos := "law.go:64", after := #[{ on := 7, ground := Go.Ground.data }, { on := 6, ground := Go.Ground.chain }], guard := none }) hi rfl
              simp [Region.binds] at hp
              obtain rfl := c7 (by first | exact hp | simp [hp])
              refine wpOp_shut (o := { dst := some 102, op := Go.Op.call { callee := Go.Callee.value (Go.Operand.func 26), args := #[Go.Operand.tmp 101], argTypes := #[24] }, type := 24, pos := "law.go:64", after := #[{ on := 7, ground := Go.Ground.data }, { on := 6, ground := Go.Ground.chain }], guard := none }) rfl (fun K hK => ?_)
              simp only [Act.put, List.setIfInBounds_toArray, List.set_cons_zero, List.set_cons_succ]
              go_simp
              refine (copy_any ⟨ak, at', al⟩ X xc w' (HR3.out.2.2.1 _ (HRR.out _ hb)) (by simp only; omega)).mono ?_; rintro e w1 ⟨vn, rfl, hown, hbk⟩; go_wp2_with fail
              exact hK.out _ _ ⟨by simp [hsz], (hb.trans (hbk.mono hB)), (Nat.le_trans hB hbk.size), _, _, _, _, _, _, _, _, _, _, _, _, by simp only [Act.put, List.setIfInBounds_toArray, List.set_cons_zero, List.set_cons_succ],
                  fun h => c0 (flag_of (by decide) h),
                  fun h => c1 (flag_of (by decide) h),
                  fun h => (c2 (flag_of (by decide) h)).below hbk,
                  fun h => c3 (flag_of (by decide) h),
                  fun h => c4 (flag_of (by decide) h),
                  fun h => c5 (flag_of (by decide) h),
                  fun h => (c6 (flag_of (by decide) h)).below hbk,
                  fun _ => rfl,
                  fun _ => hown.mono hB,
                  fun h => (c9 (flag_of (by decide) h)).below (flag_of (by decide)) hbk,
                  fun h => (c10 (flag_of (by decide) h)).below (flag_of (by decide)) hbk,
                  fun h => ((c11 (flag_of (by decide) h)).below id hbk).none (fun u => flag_not hun (c17 (flag_of (by decide) u)).1),
                  fun h k => c12 (flag_of (by decide) h) (flag_of (by decide) k),
                  fun h k => c13 (flag_of (by decide) h) (flag_of (by decide) k),
                  fun h k => c14 (flag_of (by decide) h) (flag_of (by decide) k),
                  fun h => ⟨flag_old (c15 (flag_of (by decide) h)).1, flag_old (c15 (flag_of (by decide) h)).2⟩,
                  fun h => ⟨flag_old (c16 (flag_of (by decide) h)).1, flag_old (c16 (flag_of (by decide) h)).2⟩,
                  fun h => ⟨flag_old (c17 (flag_of (by decide) h)).1, flag_old (c17 (flag_of (by decide) h)).2⟩,
                  fun h k => c18 (flag_of (by decide) h) (flag_of (by decide) k),
                  fun h _ => SepO.of (c2 (flag_of (by decide) h)) hown,
                  fun h _ => SepO.of (c6 (flag_of (by decide) h)) hown⟩
            · have hp := ready_after (o := { dst := some 16, op := Go.Op.alloc 24, type := 0, pos := "law.go:64", after := #[], guard := none }) hi rfl
              simp [Region.binds] at hp
              refine wpOp_shut (o := { dst := some 16, op := Go.Op.alloc 24, type := 0, pos := "law.go:64", after := #[], guard := none }) rfl (fun K hK => ?_)
              simp only [Act.put, List.setIfInBounds_toArray, List.set_cons_zero, List.set_cons_succ]
              go_simp
              have hbk := box1 w' (.cells #[.bool false, .int .i64 0, .slice none 0 0] 24)
              exact hK.out _ _ ⟨by simp [hsz], (hb.alloc hB _), (by simp; omega), _, _, _, _, _, _, _, _, _, _, _, _, by simp only [Act.put, List.setIfInBounds_toArray, List.set_cons_zero, List.set_cons_succ],
                  fun h => c0 (flag_of (by decide) h),
                  fun h => c1 (flag_of (by decide) h),
                  fun h => (c2 (flag_of (by decide) h)).below hbk,
                  fun h => c3 (flag_of (by decide) h),
                  fun h => c4 (flag_of (by decide) h),
                  fun h => c5 (flag_of (by decide) h),
                  fun h => (c6 (flag_of (by decide) h)).below hbk,
                  fun h => c7 (flag_of (by decide) h),
                  fun h => (c8 (flag_of (by decide) h)).below hbk,
                  fun _ => BoxF.new hB (fun u => flag_not hun (c15 (flag_of (by decide) u)).2) _ _ _ _,
                  fun h => (c10 (flag_of (by decide) h)).below (flag_of (by decide)) hbk,
                  fun h => (c11 (flag_of (by decide) h)).below (flag_of (by decide)) hbk,
                  fun _ h => Ne.symm (c10 (flag_of (by decide) h)).fresh,
                  fun _ h => Ne.symm (c11 (flag_of (by decide) h)).fresh,
                  fun h k => c14 (flag_of (by decide) h) (flag_of (by decide) k),
                  fun h => ⟨flag_old (c15 (flag_of (by decide) h)).1, flag_old (c15 (flag_of (by decide) h)).2⟩,
                  fun h => ⟨flag_old (c16 (flag_of (by decide) h)).1, flag_old (c16 (flag_of (by decide) h)).2⟩,
                  fun h => ⟨flag_old (c17 (flag_of (by decide) h)).1, flag_old (c17 (flag_of (by decide) h)).2⟩,
                  fun h k => c18 (flag_of (by decide) h) (flag_of (by decide) k),
                  fun h k => c19 (flag_of (by decide) h) (flag_of (by decide) k),
                  fun h k => c20 (flag_of (by decide) h) (flag_of (by decide) k)⟩
            · have hp := ready_after (o := { dst := some 17, op := Go.Op.alloc 24, type := 0, pos := "law.go:64", after := #[], guard := none }) hi rfl
              simp [Region.binds] at hp
              refine wpOp_shut (o := { dst := some 17, op := Go.Op.alloc 24, type := 0, pos := "law.go:64", after := #[], guard := none }) rfl (fun K hK => ?_)
              simp only [Act.put, List.setIfInBounds_toArray, List.set_cons_zero, List.set_cons_succ]
              go_simp
              have hbk := box1 w' (.cells #[.bool false, .int .i64 0, .slice none 0 0] 24)
              exact hK.out _ _ ⟨by simp [hsz], (hb.alloc hB _), (by simp; omega), _, _, _, _, _, _, _, _, _, _, _, _, by simp only [Act.put, List.setIfInBounds_toArray, List.set_cons_zero, List.set_cons_succ],
                  fun h => c0 (flag_of (by decide) h),
                  fun h => c1 (flag_of (by decide) h),
                  fun h => (c2 (flag_of (by decide) h)).below hbk,
                  fun h => c3 (flag_of (by decide) h),
                  fun h => c4 (flag_of (by decide) h),
                  fun h => c5 (flag_of (by decide) h),
                  fun h => (c6 (flag_of (by decide) h)).below hbk,
                  fun h => c7 (flag_of (by decide) h),
                  fun h => (c8 (flag_of (by decide) h)).below hbk,
                  fun h => (c9 (flag_of (by decide) h)).below (flag_of (by decide)) hbk,
                  fun _ => BoxF.new hB (fun u => flag_not hun (c16 (flag_of (by decide) u)).2) _ _ _ _,
                  fun h => (c11 (flag_of (by decide) h)).below (flag_of (by decide)) hbk,
                  fun h _ => (c9 (flag_of (by decide) h)).fresh,
                  fun h k => c13 (flag_of (by decide) h) (flag_of (by decide) k),
                  fun _ h => Ne.symm (c11 (flag_of (by decide) h)).fresh,
                  fun h => ⟨flag_old (c15 (flag_of (by decide) h)).1, flag_old (c15 (flag_of (by decide) h)).2⟩,
                  fun h => ⟨flag_old (c16 (flag_of (by decide) h)).1, flag_old (c16 (flag_of (by decide) h)).2⟩,
                  fun h => ⟨flag_old (c17 (flag_of (by decide) h)).1, flag_old (c17 (flag_of (by decide) h)).2⟩,
                  fun h k => c18 (flag_of (by decide) h) (flag_of (by decide) k),
                  fun h k => c19 (flag_of (by decide) h) (flag_of (by decide) k),
                  fun h k => c20 (flag_of (by decide) h) (flag_of (by decide) k)⟩
            · have hp := ready_after (o := { dst := some 18, op := Go.Op.alloc 24, type := 0, pos := "law.go:64", after := #[], guard := none }) hi rfl
              simp [Region.binds] at hp
              refine wpOp_shut (o := { dst := some 18, op := Go.Op.alloc 24, type := 0, pos := "law.go:64", after := #[], guard := none }) rfl (fun K hK => ?_)
              simp only [Act.put, List.setIfInBounds_toArray, List.set_cons_zero, List.set_cons_succ]
              go_simp
              have hbk := box1 w' (.cells #[.bool false, .int .i64 0, .slice none 0 0] 24)
              exact hK.out _ _ ⟨by simp [hsz], (hb.alloc hB _), (by simp; omega), _, _, _, _, _, _, _, _, _, _, _, _, by simp only [Act.put, List.setIfInBounds_toArray, List.set_cons_zero, List.set_cons_succ],
                  fun h => c0 (flag_of (by decide) h),
                  fun h => c1 (flag_of (by decide) h),
                  fun h => (c2 (flag_of (by decide) h)).below hbk,
                  fun h => c3 (flag_of (by decide) h),
                  fun h => c4 (flag_of (by decide) h),
                  fun h => c5 (flag_of (by decide) h),
                  fun h => (c6 (flag_of (by decide) h)).below hbk,
                  fun h => c7 (flag_of (by decide) h),
                  fun h => (c8 (flag_of (by decide) h)).below hbk,
                  fun h => (c9 (flag_of (by decide) h)).below (flag_of (by decide)) hbk,
                  fun h => (c10 (flag_of (by decide) h)).below (flag_of (by decide)) hbk,
                  fun _ => BoxF.new hB (fun u => flag_not hun (c17 (flag_of (by decide) u)).2) _ _ _ _,
                  fun h k => c12 (flag_of (by decide) h) (flag_of (by decide) k),
                  fun h _ => (c9 (flag_of (by decide) h)).fresh,
                  fun h _ => (c10 (flag_of (by decide) h)).fresh,
                  fun h => ⟨flag_old (c15 (flag_of (by decide) h)).1, flag_old (c15 (flag_of (by decide) h)).2⟩,
                  fun h => ⟨flag_old (c16 (flag_of (by decide) h)).1, flag_old (c16 (flag_of (by decide) h)).2⟩,
                  fun h => ⟨flag_old (c17 (flag_of (by decide) h)).1, flag_old (c17 (flag_of (by decide) h)).2⟩,
                  fun h k => c18 (flag_of (by decide) h) (flag_of (by decide) k),
                  fun h k => c19 (flag_of (by decide) h) (flag_of (by decide) k),
                  fun h k => c20 (flag_of (by decide) h) (flag_of (by decide) k)⟩
            · have hp := ready_after (o := { dst := none, op := Go.Op.store 24 (Go.Operand.tmp 16) (Go.Operand.tmp 96), type := 0, pos := "law.go:64", after := #[{ on := 9, ground := Go.Ground.data }, { on := 2, ground := Go.Ground.data }, { on := 8, ground := Go.Ground.chain }, { on := 0, ground := Go.Ground.phase }, { on := 1, ground := Go.Ground.phase }, { on := 2, ground := Go.Ground.phase }, { on := 3, ground := Go.Ground.textOnly Go.Departure.lateStores }, { on := 4, ground := Go.Ground.textOnly Go.Departure.lateStores }, { on := 5, ground := Go.Ground.textOnly Go.Departure.lateStores }, { on := 6, ground := Go.Ground.textOnly Go.Departure.lateStoresUnsure }, { on := 7, ground := Go.Ground.textOnly Go.Departure.lateStores }, { on := 8, ground := Go.Ground.textOnly Go.Departure.lateStoresUnsure }, { on := 9, ground := Go.Ground.phase }, { on := 10, ground := Go.Ground.phase }, { on := 11, ground := Go.Ground.phase }], guard := none }) hi rfl
              simp [Region.binds] at hp
              have hfa : listed.getD 9 false = true := by first | exact hp.1 | simp [hp]
              have hfs : listed.getD 2 false = true := by first | exact hp.1 | simp [hp]
              obtain ⟨p, x, y, z, rfl, hBp, hh, _⟩ := c9 hfa
              obtain ⟨X, xc, rfl, _⟩ := id (c2 hfs)
              obtain ⟨s1, s2, s3, s4, s5, s6⟩ := blk3 hh
              refine wpOp_shut (o := { dst := none, op := Go.Op.store 24 (Go.Operand.tmp 16) (Go.Operand.tmp 96), type := 0, pos := "law.go:64", after := #[{ on := 9, ground := Go.Ground.data }, { on := 2, ground := Go.Ground.data }, { on := 8, ground := Go.Ground.chain }, { on := 0, ground := Go.Ground.phase }, { on := 1, ground := Go.Ground.phase }, { on := 2, ground := Go.Ground.phase }, { on := 3, ground := Go.Ground.textOnly Go.Departure.lateStores }, { on := 4, ground := Go.Ground.textOnly Go.Departure.lateStores }, { on := 5, ground := Go.Ground.textOnly Go.Departure.lateStores }, { on := 6, ground := Go.Ground.textOnly Go.Departure.lateStoresUnsure }, { on := 7, ground := Go.Ground.textOnly Go.Departure.lateStores }, { on := 8, ground := Go.Ground.textOnly Go.Departure.lateStoresUnsure }, { on := 9, ground := Go.Ground.phase }, { on := 10, ground := Go.Ground.phase }, { on := 11, ground := Go.Ground.phase }], guard := none }) rfl (fun K hK => ?_)
              simp only [Act.put, List.setIfInBounds_toArray, List.set_cons_zero, List.set_cons_succ]
              go_simp
              have hs3 := fun x y z => set3h (W := w') x y z hBp hh
              exact hK.out _ _ ⟨by simp [hsz], (hb.trans (hs3 _ _ _).2.2), (Nat.le_trans hB (hs3 _ _ _).2.2.size), _, _, _, _, _, _, _, _, _, _, _, _, by simp only [Act.put, List.setIfInBounds_toArray, List.set_cons_zero, List.set_cons_succ],
                  fun h => c0 (flag_of (by decide) h),
                  fun h => c1 (flag_of (by decide) h),
                  fun h => (c2 (flag_of (by decide) h)).but hh (hs3 _ _ _).2.1,
                  fun h => c3 (flag_of (by decide) h),
                  fun h => c4 (flag_of (by decide) h),
                  fun h => c5 (flag_of (by decide) h),
                  fun h => (c6 (flag_of (by decide) h)).but hh (hs3 _ _ _).2.1,
                  fun h => c7 (flag_of (by decide) h),
                  fun h => (c8 (flag_of (by decide) h)).but hh (hs3 _ _ _).2.1,
                  fun _ => ⟨p, _, _, _, rfl, hBp, (hs3 _ _ _).1, fun _ => rfl⟩,
                  fun h => (c10 (flag_of (by decide) h)).but (flag_of (by decide)) (Ne.symm (c12 hfa (flag_of (by decide) h))) (hs3 _ _ _).2.1,
                  fun h => (c11 (flag_of (by decide) h)).but (flag_of (by decide)) (Ne.symm (c13 hfa (flag_of (by decide) h))) (hs3 _ _ _).2.1,
                  fun h k => c12 (flag_of (by decide) h) (flag_of (by decide) k),
                  fun h k => c13 (flag_of (by decide) h) (flag_of (by decide) k),
                  fun h k => c14 (flag_of (by decide) h) (flag_of (by decide) k),
                  fun _ => ⟨flag_old hfs, flag_old hfa⟩,
                  fun h => ⟨flag_old (c16 (flag_of (by decide) h)).1, flag_old (c16 (flag_of (by decide) h)).2⟩,
                  fun h => ⟨flag_old (c17 (flag_of (by decide) h)).1, flag_old (c17 (flag_of (by decide) h)).2⟩,
                  fun h k => c18 (flag_of (by decide) h) (flag_of (by decide) k),
                  fun h k => c19 (flag_of (by decide) h) (flag_of (by decide) k),
                  fun h k => c20 (flag_of (by decide) h) (flag_of (by decide) k)⟩
            · have hp := ready_after (o := { dst := none, op := Go.Op.store 24 (Go.Operand.tmp 17) (Go.Operand.tmp 100), type := 0, pos := "law.go:64", after := #[{ on := 10, ground := Go.Ground.data }, { on := 6, ground := Go.Ground.data }, { on := 12, ground := Go.Ground.chain }, { on := 0, ground := Go.Ground.phase }, { on := 1, ground := Go.Ground.phase }, { on := 2, ground := Go.Ground.phase }, { on := 3, ground := Go.Ground.phase }, { on := 4, ground := Go.Ground.phase }, { on := 5, ground := Go.Ground.phase }, { on := 6, ground := Go.Ground.phase }, { on := 7, ground := Go.Ground.textOnly Go.Departure.lateStores }, { on := 8, ground := Go.Ground.textOnly Go.Departure.lateStoresUnsure }, { on := 9, ground := Go.Ground.phase }, { on := 10, ground := Go.Ground.phase }, { on := 11, ground := Go.Ground.phase }, { on := 12, ground := Go.Ground.phase }], guard := none }) hi rfl
              simp [Region.binds] at hp
              have hfa : listed.getD 10 false = true := by first | exact hp.1 | simp [hp]
              have hfs : listed.getD 6 false = true := by first | exact hp.1 | simp [hp]
              obtain ⟨p, x, y, z, rfl, hBp, hh, _⟩ := c10 hfa
              obtain ⟨X, xc, rfl, _⟩ := id (c6 hfs)
              obtain ⟨s1, s2, s3, s4, s5, s6⟩ := blk3 hh
              refine wpOp_shut (o := { dst := none, op := Go.Op.store 24 (Go.Operand.tmp 17) (Go.Operand.tmp 100), type := 0, pos := "law.go:64", after := #[{ on := 10, ground := Go.Ground.data }, { on := 6, ground := Go.Ground.data }, { on := 12, ground := Go.Ground.chain }, { on := 0, ground := Go.Ground.phase }, { on := 1, ground := Go.Ground.phase }, { on := 2, ground := Go.Ground.phase }, { on := 3, ground := Go.Ground.phase }, { on := 4, ground := Go.Ground.phase }, { on := 5, ground := Go.Ground.phase }, { on := 6, ground := Go.Ground.phase }, { on := 7, ground := Go.Ground.textOnly Go.Departure.lateStores }, { on := 8, ground := Go.Ground.textOnly Go.Departure.lateStoresUnsure }, { on := 9, ground := Go.Ground.phase }, { on := 10, ground := Go.Ground.phase }, { on := 11, ground := Go.Ground.phase }, { on := 12, ground := Go.Ground.phase }], guard := none }) rfl (fun K hK => ?_)
              simp only [Act.put, List.setIfInBounds_toArray, List.set_cons_zero, List.set_cons_succ]
              go_simp
              have hs3 := fun x y z => set3h (W := w') x y z hBp hh
              exact hK.out _ _ ⟨by simp [hsz], (hb.trans (hs3 _ _ _).2.2), (Nat.le_trans hB (hs3 _ _ _).2.2.size), _, _, _, _, _, _, _, _, _, _, _, _, by simp only [Act.put, List.setIfInBounds_toArray, List.set_cons_zero, List.set_cons_succ],
                  fun h => c0 (flag_of (by decide) h),
                  fun h => c1 (flag_of (by decide) h),
                  fun h => (c2 (flag_of (by decide) h)).but hh (hs3 _ _ _).2.1,
                  fun h => c3 (flag_of (by decide) h),
                  fun h => c4 (flag_of (by decide) h),
                  fun h => c5 (flag_of (by decide) h),
                  fun h => (c6 (flag_of (by decide) h)).but hh (hs3 _ _ _).2.1,
                  fun h => c7 (flag_of (by decide) h),
                  fun h => (c8 (flag_of (by decide) h)).but hh (hs3 _ _ _).2.1,
                  fun h => (c9 (flag_of (by decide) h)).but (flag_of (by decide)) (c12 (flag_of (by decide) h) hfa) (hs3 _ _ _).2.1,
                  fun _ => ⟨p, _, _, _, rfl, hBp, (hs3 _ _ _).1, fun _ => rfl⟩,
                  fun h => (c11 (flag_of (by decide) h)).but (flag_of (by decide)) (Ne.symm (c14 hfa (flag_of (by decide) h))) (hs3 _ _ _).2.1,
                  fun h k => c12 (flag_of (by decide) h) (flag_of (by decide) k),
                  fun h k => c13 (flag_of (by decide) h) (flag_of (by decide) k),
                  fun h k => c14 (flag_of (by decide) h) (flag_of (by decide) k),
                  fun h => ⟨flag_old (c15 (flag_of (by decide) h)).1, flag_old (c15 (flag_of (by decide) h)).2⟩,
                  fun _ => ⟨flag_old hfs, flag_old hfa⟩,
                  fun h => ⟨flag_old (c17 (flag_of (by decide) h)).1, flag_old (c17 (flag_of (by decide) h)).2⟩,
                  fun h k => c18 (flag_of (by decide) h) (flag_of (by decide) k),
                  fun h k => c19 (flag_of (by decide) h) (flag_of (by decide) k),
                  fun h k => c20 (flag_of (by decide) h) (flag_of (by decide) k)⟩
            · have hp := ready_after (o := { dst := none, op := Go.Op.store 24 (Go.Operand.tmp 18) (Go.Operand.tmp 102), type := 0, pos := "law.go:64", after := #[{ on := 11, ground := Go.Ground.data }, { on := 8, ground := Go.Ground.data }, { on := 13, ground := Go.Ground.chain }, { on := 0, ground := Go.Ground.phase }, { on := 1, ground := Go.Ground.phase }, { on := 2, ground := Go.Ground.phase }, { on := 3, ground := Go.Ground.phase }, { on := 4, ground := Go.Ground.phase }, { on := 5, ground := Go.Ground.phase }, { on := 6, ground := Go.Ground.phase }, { on := 7, ground := Go.Ground.phase }, { on := 8, ground := Go.Ground.phase }, { on := 9, ground := Go.Ground.phase }, { on := 10, ground := Go.Ground.phase }, { on := 11, ground := Go.Ground.phase }, { on := 12, ground := Go.Ground.phase }, { on := 13, ground := Go.Ground.phase }], guard := none }) hi rfl
              simp [Region.binds] at hp
              have hfa : listed.getD 11 false = true := by first | exact hp.1 | simp [hp]
              have hfs : listed.getD 8 false = true := by first | exact hp.1 | simp [hp]
              obtain ⟨p, x, y, z, rfl, hBp, hh, _⟩ := c11 hfa
              obtain ⟨X, xc, rfl, _⟩ := id (c8 hfs)
              obtain ⟨s1, s2, s3, s4, s5, s6⟩ := blk3 hh
              refine wpOp_shut (o := { dst := none, op := Go.Op.store 24 (Go.Operand.tmp 18) (Go.Operand.tmp 102), type := 0, pos := "law.go:64", after := #[{ on := 11, ground := Go.Ground.data }, { on := 8, ground := Go.Ground.data }, { on := 13, ground := Go.Ground.chain }, { on := 0, ground := Go.Ground.phase }, { on := 1, ground := Go.Ground.phase }, { on := 2, ground := Go.Ground.phase }, { on := 3, ground := Go.Ground.phase }, { on := 4, ground := Go.Ground.phase }, { on := 5, ground := Go.Ground.phase }, { on := 6, ground := Go.Ground.phase }, { on := 7, ground := Go.Ground.phase }, { on := 8, ground := Go.Ground.phase }, { on := 9, ground := Go.Ground.phase }, { on := 10, ground := Go.Ground.phase }, { on := 11, ground := Go.Ground.phase }, { on := 12, ground := Go.Ground.phase }, { on := 13, ground := Go.Ground.phase }], guard := none }) rfl (fun K hK => ?_)
              simp only [Act.put, List.setIfInBounds_toArray, List.set_cons_zero, List.set_cons_succ]
              go_simp
              have hs3 := fun x y z => set3h (W := w') x y z hBp hh
              exact hK.out _ _ ⟨by simp [hsz], (hb.trans (hs3 _ _ _).2.2), (Nat.le_trans hB (hs3 _ _ _).2.2.size), _, _, _, _, _, _, _, _, _, _, _, _, by simp only [Act.put, List.setIfInBounds_toArray, List.set_cons_zero, List.set_cons_succ],
                  fun h => c0 (flag_of (by decide) h),
                  fun h => c1 (flag_of (by decide) h),
                  fun h => (c2 (flag_of (by decide) h)).but hh (hs3 _ _ _).2.1,
                  fun h => c3 (flag_of (by decide) h),
                  fun h => c4 (flag_of (by decide) h),
                  fun h => c5 (flag_of (by decide) h),
                  fun h => (c6 (flag_of (by decide) h)).but hh (hs3 _ _ _).2.1,
                  fun h => c7 (flag_of (by decide) h),
                  fun h => (c8 (flag_of (by decide) h)).but hh (hs3 _ _ _).2.1,
                  fun h => (c9 (flag_of (by decide) h)).but (flag_of (by decide)) (c13 (flag_of (by decide) h) hfa) (hs3 _ _ _).2.1,
                  fun h => (c10 (flag_of (by decide) h)).but (flag_of (by decide)) (c14 (flag_of (by decide) h) hfa) (hs3 _ _ _).2.1,
                  fun _ => ⟨p, _, _, _, rfl, hBp, (hs3 _ _ _).1, fun _ => rfl⟩,
                  fun h k => c12 (flag_of (by decide) h) (flag_of (by decide) k),
                  fun h k => c13 (flag_of (by decide) h) (flag_of (by decide) k),
                  fun h k => c14 (flag_of (by decide) h) (flag_of (by decide) k),
                  fun h => ⟨flag_old (c15 (flag_of (by decide) h)).1, flag_old (c15 (flag_of (by decide) h)).2⟩,
                  fun h => ⟨flag_old (c16 (flag_of (by decide) h)).1, flag_old (c16 (flag_of (by decide) h)).2⟩,
                  fun _ => ⟨flag_old hfs, flag_old hfa⟩,
                  fun h k => c18 (flag_of (by decide) h) (flag_of (by decide) k),
                  fun h k => c19 (flag_of (by decide) h) (flag_of (by decide) k),
                  fun h k => c20 (flag_of (by decide) h) (flag_of (by decide) k)⟩

          · intro listed a' w9 hI hr
            obtain ⟨hsz, hb, hB, v94, v95, v96, v97, v98, v99, v100, v101, v102, v16, v17, v18, rfl, c0, c1, c2, c3, c4, c5, c6, c7, c8, c9, c10, c11, c12, c13, c14, c15, c16, c17, c18, c19, c20⟩ := hI
            have hall := all_listed hsz (by kernel_rfl) hr
            obtain rfl := c0 (hall 0 (by decide)); obtain rfl := c1 (hall 1 (by decide)); obtain rfl := c3 (hall 3 (by decide))
            obtain rfl := c4 (hall 4 (by decide)); obtain rfl := c5 (hall 5 (by decide)); obtain rfl := c7 (hall 7 (by decide))
            have HSJC := Lib.hid (c18 (hall 2 (by decide)) (hall 6 (by decide)))
            have HSJD := Lib.hid (c19 (hall 2 (by decide)) (hall 8 (by decide)))
            have HSCD := Lib.hid (c20 (hall 6 (by decide)) (hall 8 (by decide)))
            have hoj := c2 (hall 2 (by decide)); have hoc := c6 (hall 6 (by decide)); have hod := c8 (hall 8 (by decide))
            obtain ⟨J, jc, rfl, _⟩ := id hoj
            obtain ⟨C, cc, rfl, _⟩ := id hoc
            obtain ⟨D, dc, rfl, _⟩ := id hod
            obtain ⟨p16, x1, x2, x3, rfl, hp16, hk16, hs16⟩ := c9 (hall 9 (by decide))
            obtain ⟨p17, y1, y2, y3, rfl, hp17, hk17, hs17⟩ := c10 (hall 10 (by decide))
            obtain ⟨p18, z1, z2, z3, rfl, hp18, hk18, hs18⟩ := c11 (hall 11 (by decide))
            have e := hs16 (hall 12 (by decide)); simp at e; obtain ⟨rfl, rfl, rfl⟩ := e
            have e := hs17 (hall 13 (by decide)); simp at e; obtain ⟨rfl, rfl, rfl⟩ := e
            have e := hs18 (hall 14 (by decide)); simp at e; obtain ⟨rfl, rfl, rfl⟩ := e
            clear c0 c1 c2 c3 c4 c5 c6 c7 c8 c9 c10 c11 c12 c13 c14 c15 c16 c17 c18 c19 c20 hall hr hs16 hs17 hs18 hsz hB hp16 hp17 hp18
            have HOJ := Lib.hid hoj; have HOC := Lib.hid hoc; have HOD := Lib.hid hod
            clear hoj hoc hod
            have HB9 := Lib.hid hb; clear hb
            have HK16 := Lib.hid hk16; have HK17 := Lib.hid hk17; have HK18 := Lib.hid hk18
            clear hk16 hk17 hk18
            simp only [Act.put, List.setIfInBounds_toArray, List.set_cons_zero, List.set_cons_succ]
            clear HG
            have HGA := Lib.hid (show ∀ w', Below wr.heap.size wr w' → ((w'.cell? ⟨w.heap.size, 0, none⟩ = some (.bool ak) ∧ w'.cell? ⟨w.heap.size, 1, none⟩ = some (.int .i64 at') ∧ w'.cell? ⟨w.heap.size, 2, none⟩ = some (.slice A al.length c)) ∧ (w'.cell? ⟨w.heap.size + 1, 0, none⟩ = some (.bool bk) ∧ w'.cell? ⟨w.heap.size + 1, 1, none⟩ = some (.int .i64 bt) ∧ w'.cell? ⟨w.heap.size + 1, 2, none⟩ = some (.slice B bl.length d))) ∧ ((w'.cell? ⟨p13, 0, none⟩ = some (.bool ak) ∧ w'.cell? ⟨p13, 1, none⟩ = some (.int .i64 at') ∧ w'.cell? ⟨p13, 2, none⟩ = some (.slice X al.length xc)) ∧ (w'.cell? ⟨p14, 0, none⟩ = some (.bool bk) ∧ w'.cell? ⟨p14, 1, none⟩ = some (.int .i64 bt) ∧ w'.cell? ⟨p14, 2, none⟩ = some (.slice Y bl.length yc))) from fun w' hb => by
              have h := (HG3.out _ (HRR.out _ hb)).1; exact ⟨⟨h.1, h.2.1⟩, h.2.2⟩)
            obtain ⟨_, ⟨f1, f2, f3⟩, _⟩ := HGA.out _ HB9.out
            go_wp2_with fail
            have hsh := shift_any ⟨ak, at', al⟩ by' X xc w9 (HR3.out.2.2.1 _ (HRR.out _ HB9.out)) HSA.out hla HBY.out
            rw [HS.out] at hsh
            refine hsh.mono ?_
            clear hsh f1 f2 f3
            rintro e w10 hp
            obtain ⟨S, sc, rfl, HOS, hb10⟩ := hp.own
            clear hp
            have HOJ2 := Lib.hid (HOJ.out.below hb10); have HOC2 := Lib.hid (HOC.out.below hb10); have HOD2 := Lib.hid (HOD.out.below hb10)
            have HSJS := Lib.hid (SepO.of HOJ.out HOS.out); have HSCS := Lib.hid (SepO.of HOC.out HOS.out); have HSDS := Lib.hid (SepO.of HOD.out HOS.out)
            clear HOJ HOC HOD
            have HKA := Lib.hid (show w10.heap[p16]? = _ ∧ w10.heap[p17]? = _ ∧ w10.heap[p18]? = _ from ⟨(hb10.block _ (heap_lt HK16.out)).trans HK16.out, (hb10.block _ (heap_lt HK17.out)).trans HK17.out, (hb10.block _ (heap_lt HK18.out)).trans HK18.out⟩)
            clear HK16 HK17 HK18
            have HZ9 := Lib.hid HB9.out.size
            have HB10 := Lib.hid (HB9.out.trans (hb10.mono HB9.out.size)); clear hb10 HB9
            have hz10 := HB10.out.size
            obtain ⟨⟨⟨f1, f2, f3⟩, _⟩, _⟩ := HGA.out _ HB10.out
            have hm10 : w.heap.size < w10.heap.size := cellLt f1
            go_wp2_with fail
            generalize hV10 : w10.alloc (.cells #[.bool sk, .int .i64 st, .slice S sl.length sc] 24) = V10
            have HBV := Lib.hid (show Below w10.heap.size w10 V10 by rw [← hV10]; exact box1 _ _)
            have HK19 := Lib.hid (show V10.heap[w10.heap.size]? = some (.cells #[.bool sk, .int .i64 st, .slice S sl.length sc] 24 (0, 0)) by rw [← hV10]; exact heap_alloc_new _ _)
            clear hV10
            have HB10' := Lib.hid (HB10.out.trans (HBV.out.mono hz10))
            have hsh := rshift_any ⟨ak, at', al⟩ by' A c V10 (HR3.out.1 _ (HRR.out _ HB10'.out)) HSA.out hla HBY.out
            rw [HS.out] at hsh
            refine hsh.mono ?_
            clear hsh f1 f2 f3 hm10
            rintro e w11 hp
            obtain ⟨T, tc, rfl, HRT, hb11⟩ := hp.row
            clear hp
            go_wp2_with fail
            generalize hV11 : w11.alloc (.cells #[.bool sk, .int .i64 st, .slice T sl.length tc] 24) = V11
            have HB11 := Lib.hid (show Below V10.heap.size V10 V11 by rw [← hV11]; exact hb11.trans ((box1 _ _).mono hb11.size))
            have HK21 := Lib.hid (show V11.heap[w11.heap.size]? = some (.cells #[.bool sk, .int .i64 st, .slice T sl.length tc] 24 (0, 0)) by rw [← hV11]; exact heap_alloc_new _ _)
            have HRT2 := Lib.hid (show RowAt V11 T (cellsOf sl) by rw [← hV11]; exact HRT.out.below (box1 _ _))
            clear hV11 hb11 HRT
            have HB12 := Lib.hid (show Below w10.heap.size w10 V11 from HBV.out.trans (HB11.out.mono HBV.out.size))
            have HKB := Lib.hid (show V11.heap[p16]? = _ ∧ V11.heap[p17]? = _ ∧ V11.heap[p18]? = _ ∧ V11.heap[w10.heap.size]? = _ from ⟨(HB12.out.block _ (heap_lt HKA.out.1)).trans HKA.out.1, (HB12.out.block _ (heap_lt HKA.out.2.1)).trans HKA.out.2.1, (HB12.out.block _ (heap_lt HKA.out.2.2)).trans HKA.out.2.2, (HB11.out.block _ (heap_lt HK19.out)).trans HK19.out⟩)
            have HOJ := Lib.hid (HOJ2.out.below HB12.out); have HOC := Lib.hid (HOC2.out.below HB12.out); have HOD := Lib.hid (HOD2.out.below HB12.out); have HOS2 := Lib.hid (HOS.out.below HB12.out)
            clear HKA HOJ2 HOC2 HOD2 HOS HK19 HBV HB11 HB10'
            have HBW := Lib.hid (HB10.out.trans (HB12.out.mono hz10)); clear HB10 HB12
            have HZW := Lib.hid HBW.out.size
            generalize w10.heap.size = p19 at *
            generalize w11.heap.size = p21 at *
            have HG12 := Lib.hid (show ∀ w', Below V11.heap.size V11 w' → ((w'.cell? ⟨w.heap.size, 0, none⟩ = some (.bool ak) ∧ w'.cell? ⟨w.heap.size, 1, none⟩ = some (.int .i64 at') ∧ w'.cell? ⟨w.heap.size, 2, none⟩ = some (.slice A al.length c)) ∧ (w'.cell? ⟨w.heap.size + 1, 0, none⟩ = some (.bool bk) ∧ w'.cell? ⟨w.heap.size + 1, 1, none⟩ = some (.int .i64 bt) ∧ w'.cell? ⟨w.heap.size + 1, 2, none⟩ = some (.slice B bl.length d)) ∧ (w'.cell? ⟨p16, 0, none⟩ = some (.bool jk) ∧ w'.cell? ⟨p16, 1, none⟩ = some (.int .i64 jt) ∧ w'.cell? ⟨p16, 2, none⟩ = some (.slice J jl.length jc)) ∧ (w'.cell? ⟨p17, 0, none⟩ = some (.bool ck) ∧ w'.cell? ⟨p17, 1, none⟩ = some (.int .i64 ct) ∧ w'.cell? ⟨p17, 2, none⟩ = some (.slice C cl.length cc)) ∧ (w'.cell? ⟨p18, 0, none⟩ = some (.bool ak) ∧ w'.cell? ⟨p18, 1, none⟩ = some (.int .i64 at') ∧ w'.cell? ⟨p18, 2, none⟩ = some (.slice D al.length dc)) ∧ (w'.cell? ⟨p19, 0, none⟩ = some (.bool sk) ∧ w'.cell? ⟨p19, 1, none⟩ = some (.int .i64 st) ∧ w'.cell? ⟨p19, 2, none⟩ = some (.slice S sl.length sc)) ∧ (w'.cell? ⟨p21, 0, none⟩ = some (.bool sk) ∧ w'.cell? ⟨p21, 1, none⟩ = some (.int .i64 st) ∧ w'.cell? ⟨p21, 2, none⟩ = some (.slice T sl.length tc))) ∧ Below V11.heap.size V11 w' from fun w' hb => by
              have h1 := blk3 ((hb.block _ (heap_lt HKB.out.1)).trans HKB.out.1)
              have h2 := blk3 ((hb.block _ (heap_lt HKB.out.2.1)).trans HKB.out.2.1)
              have h3 := blk3 ((hb.block _ (heap_lt HKB.out.2.2.1)).trans HKB.out.2.2.1)
              have h4 := blk3 ((hb.block _ (heap_lt HKB.out.2.2.2)).trans HKB.out.2.2.2)
              have h5 := blk3 ((hb.block _ (heap_lt HK21.out)).trans HK21.out)
              have h6 := (HGA.out _ (HBW.out.trans (hb.mono HZW.out))).1
              exact ⟨⟨h6.1, h6.2, ⟨h1.1, h1.2.1, h1.2.2.1⟩, ⟨h2.1, h2.2.1, h2.2.2.1⟩, ⟨h3.1, h3.2.1, h3.2.2.1⟩, ⟨h4.1, h4.2.1, h4.2.2.1⟩, h5.1, h5.2.1, h5.2.2.1⟩, hb⟩)
            have HRW := Lib.hid (show ∀ w', Below V11.heap.size V11 w' → Below w3.heap.size w3 w' from fun w' hb => HRR.out _ (HBW.out.trans (hb.mono HZW.out)))
            have HB := Lib.hid (show Below V11.heap.size V11 V11.drew from (Below.refl _ _).drew)
            obtain ⟨SP, hSP⟩ : ∃ SP : World → Prop, SP = fun w' => ((w'.cell? ⟨w.heap.size, 0, none⟩ = some (.bool ak) ∧ w'.cell? ⟨w.heap.size, 1, none⟩ = some (.int .i64 at') ∧ w'.cell? ⟨w.heap.size, 2, none⟩ = some (.slice A al.length c)) ∧ (w'.cell? ⟨w.heap.size + 1, 0, none⟩ = some (.bool bk) ∧ w'.cell? ⟨w.heap.size + 1, 1, none⟩ = some (.int .i64 bt) ∧ w'.cell? ⟨w.heap.size + 1, 2, none⟩ = some (.slice B bl.length d)) ∧ (w'.cell? ⟨p16, 0, none⟩ = some (.bool jk) ∧ w'.cell? ⟨p16, 1, none⟩ = some (.int .i64 jt) ∧ w'.cell? ⟨p16, 2, none⟩ = some (.slice J jl.length jc)) ∧ (w'.cell? ⟨p17, 0, none⟩ = some (.bool ck) ∧ w'.cell? ⟨p17, 1, none⟩ = some (.int .i64 ct) ∧ w'.cell? ⟨p17, 2, none⟩ = some (.slice C cl.length cc)) ∧ (w'.cell? ⟨p18, 0, none⟩ = some (.bool ak) ∧ w'.cell? ⟨p18, 1, none⟩ = some (.int .i64 at') ∧ w'.cell? ⟨p18, 2, none⟩ = some (.slice D al.length dc)) ∧ (w'.cell? ⟨p19, 0, none⟩ = some (.bool sk) ∧ w'.cell? ⟨p19, 1, none⟩ = some (.int .i64 st) ∧ w'.cell? ⟨p19, 2, none⟩ = some (.slice S sl.length sc)) ∧ (w'.cell? ⟨p21, 0, none⟩ = some (.bool sk) ∧ w'.cell? ⟨p21, 1, none⟩ = some (.int .i64 st) ∧ w'.cell? ⟨p21, 2, none⟩ = some (.slice T sl.length tc))) ∧ Below V11.heap.size V11 w' := ⟨_, rfl⟩
            have HSD := Lib.hid hSP; clear hSP
            have es : (sb == sb) = true := by simp
            refine wp_region_held_drew (S := SP) (by kernel_rfl) (by rw [HSD.out]; exact HG12.out _ HB.out) (fun hHeld => ?_)
            try simp only [Act.put, List.setIfInBounds_toArray, List.set_cons_zero, List.set_cons_succ]
            (refine wpAnyH_take (i := 0) (oi := { dst := some 115, op := Go.Op.load 24 (Go.Operand.tmp 16), type := 24, pos := "law.go:67", after := #[], guard := none }) (v := ?_) rfl (by kernel_rfl) (by kernel_rfl) (by kernel_rfl) (fun _ _ _ h => h) (Or.inl ⟨by rfl, ?_⟩) (by assumption) ?_; rotate_left 1; (focus (intro w hSw; rw [HSD.out] at hSw; (try dsimp only at hSw); go_simp; (try with_reducible rfl))); (try simp only [Act.put, List.setIfInBounds_toArray, List.set_cons_zero, List.set_cons_succ]))
            (refine wpAnyH_take (i := 1) (oi := { dst := some 116, op := Go.Op.load 24 (Go.Operand.tmp 6), type := 24, pos := "law.go:67", after := #[], guard := none }) (v := ?_) rfl (by kernel_rfl) (by kernel_rfl) (by kernel_rfl) (fun _ _ _ h => h) (Or.inl ⟨by rfl, ?_⟩) (by assumption) ?_; rotate_left 1; (focus (intro w hSw; rw [HSD.out] at hSw; (try dsimp only at hSw); go_simp; (try with_reducible rfl))); (try simp only [Act.put, List.setIfInBounds_toArray, List.set_cons_zero, List.set_cons_succ]))
            (refine wpAnyH_take (i := 2) (oi := { dst := some 117, op := Go.Op.load 24 (Go.Operand.tmp 7), type := 24, pos := "law.go:67", after := #[], guard := none }) (v := ?_) rfl (by kernel_rfl) (by kernel_rfl) (by kernel_rfl) (fun _ _ _ h => h) (Or.inl ⟨by rfl, ?_⟩) (by assumption) ?_; rotate_left 1; (focus (intro w hSw; rw [HSD.out] at hSw; (try dsimp only at hSw); go_simp; (try with_reducible rfl))); (try simp only [Act.put, List.setIfInBounds_toArray, List.set_cons_zero, List.set_cons_succ]))
            (refine wpAnyH_ready (rs := [3]) (by kernel_rfl) (by simp) ?_; refine AllReadyH.cons (o := { dst := some 118, op := Go.Op.call { callee := Go.Callee.value (Go.Operand.func 28), args := #[Go.Operand.tmp 116, Go.Operand.tmp 117], argTypes := #[24, 24] }, type := 24, pos := "law.go:67", after := #[{ on := 1, ground := Go.Ground.data }, { on := 2, ground := Go.Ground.data }], guard := none }) rfl (fun K hK => ?_) AllReadyH.nil; go_simp; (go_at_call 28; refine (rjoin_any ⟨ak, at', al⟩ ⟨bk, bt, bl⟩ A B c d _ (HR3.out.1 _ (HRW.out _ HB.out)) (HR3.out.2.1 _ (HRW.out _ HB.out)) (by simp only; omega)).mono ?_; rintro e w5 ⟨_, rfl, ho, hb5⟩; rw [HJ.out] at ho; obtain ⟨R, rc, rfl, hr⟩ := ho.row; have HRr := Lib.hid hr; clear ho hr; have HB5 := Lib.hid (HB.out.trans (hb5.mono HB.out.size)); clear hb5; clear HB; have HB := HB5; clear HB5); (try go_wp2_with fail); refine hK.out _ _ (by rw [HSD.out]; exact HG12.out _ HB.out) (fun hHeld => ?_); clear hK K; (try simp only [Act.put, List.setIfInBounds_toArray, List.set_cons_zero, List.set_cons_succ]))
            (refine wpAnyH_ready (rs := [4]) (by kernel_rfl) (by simp) ?_; refine AllReadyH.cons (o := { dst := some 119, op := Go.Op.call { callee := Go.Callee.value (Go.Operand.func 21), args := #[Go.Operand.tmp 115, Go.Operand.tmp 118], argTypes := #[24, 24] }, type := 4, pos := "law.go:67", after := #[{ on := 0, ground := Go.Ground.data }, { on := 3, ground := Go.Ground.data }, { on := 3, ground := Go.Ground.chain }], guard := none }) rfl (fun K hK => ?_) AllReadyH.nil; go_simp; (go_at_call 21; refine (calls_at (rsame_any ⟨jk, jt, jl⟩ ⟨jk, jt, jl⟩ J R jc rc _ (own_rowAt (HOJ.out.below HB.out)) HRr.out HHL.out.1 HHL.out.1) HB.out).mono ?_; rintro e w5 ⟨he, HB5⟩; obtain rfl : e = .returned (.bool true) := (by rw [he]; simp); clear he; clear HB; have HB := HB5; clear HB5; clear HRr); (try go_wp2_with fail); refine hK.out _ _ (by rw [HSD.out]; exact HG12.out _ HB.out) (fun hHeld => ?_); clear hK K; (try simp only [Act.put, List.setIfInBounds_toArray, List.set_cons_zero, List.set_cons_succ]))
            (refine wpAnyH_take (i := 5) (oi := { dst := some 120, op := Go.Op.unOp Go.UnOp.not 4 (Go.Operand.tmp 119), type := 4, pos := "law.go:67", after := #[{ on := 4, ground := Go.Ground.data }], guard := none }) (v := ?_) rfl (by kernel_rfl) (by kernel_rfl) (by kernel_rfl) (fun _ _ _ h => h) (Or.inl ⟨by rfl, ?_⟩) (by assumption) ?_; rotate_left 1; (focus (intro w hSw; rw [HSD.out] at hSw; (try dsimp only at hSw); go_simp; (try with_reducible rfl))); (try simp only [Act.put, List.setIfInBounds_toArray, List.set_cons_zero, List.set_cons_succ]))
            (refine wpAnyH_take (i := 6) (oi := { dst := some 121, op := Go.Op.move (Go.Operand.tmp 120), type := 4, pos := "law.go:67", after := #[{ on := 5, ground := Go.Ground.data }, { on := 4, ground := Go.Ground.chain }], guard := none }) (v := ?_) rfl (by kernel_rfl) (by kernel_rfl) (by kernel_rfl) (fun _ _ _ h => h) (Or.inl ⟨by rfl, ?_⟩) (by assumption) ?_; rotate_left 1; (focus (intro w hSw; rw [HSD.out] at hSw; (try dsimp only at hSw); go_simp; (try with_reducible rfl))); (try simp only [Act.put, List.setIfInBounds_toArray, List.set_cons_zero, List.set_cons_succ]))
            first | (refine wpAnyH_take (i := 7) (oi := { dst := some 122, op := Go.Op.load 24 (Go.Operand.tmp 17), type := 24, pos := "law.go:67", after := #[{ on := 6, ground := Go.Ground.guard }], guard := some (6, false) }) (v := ?_) rfl (by kernel_rfl) (by kernel_rfl) (by kernel_rfl) (fun _ _ _ h => h) (Or.inl ⟨by rfl, ?_⟩) (by assumption) ?_; rotate_left 1; (focus (intro w hSw; rw [HSD.out] at hSw; (try dsimp only at hSw); go_simp; (try with_reducible rfl))); (try simp only [Act.put, List.setIfInBounds_toArray, List.set_cons_zero, List.set_cons_succ])) | (refine wpAnyH_take (i := 7) (oi := { dst := some 122, op := Go.Op.load 24 (Go.Operand.tmp 17), type := 24, pos := "law.go:67", after := #[{ on := 6, ground := Go.Ground.guard }], guard := some (6, false) }) (v := undef) rfl (by kernel_rfl) (by kernel_rfl) (by kernel_rfl) (fun _ _ _ h => h) (Or.inr ⟨by rfl, rfl⟩) (by assumption) ?_; (try simp only [Act.put, List.setIfInBounds_toArray, List.set_cons_zero, List.set_cons_succ]))
            first | (refine wpAnyH_take (i := 8) (oi := { dst := some 123, op := Go.Op.move (Go.Operand.tmp 4), type := 9, pos := "law.go:67", after := #[{ on := 6, ground := Go.Ground.guard }], guard := some (6, false) }) (v := ?_) rfl (by kernel_rfl) (by kernel_rfl) (by kernel_rfl) (fun _ _ _ h => h) (Or.inl ⟨by rfl, ?_⟩) (by assumption) ?_; rotate_left 1; (focus (intro w hSw; rw [HSD.out] at hSw; (try dsimp only at hSw); go_simp; (try with_reducible rfl))); (try simp only [Act.put, List.setIfInBounds_toArray, List.set_cons_zero, List.set_cons_succ])) | (refine wpAnyH_take (i := 8) (oi := { dst := some 123, op := Go.Op.move (Go.Operand.tmp 4), type := 9, pos := "law.go:67", after := #[{ on := 6, ground := Go.Ground.guard }], guard := some (6, false) }) (v := undef) rfl (by kernel_rfl) (by kernel_rfl) (by kernel_rfl) (fun _ _ _ h => h) (Or.inr ⟨by rfl, rfl⟩) (by assumption) ?_; (try simp only [Act.put, List.setIfInBounds_toArray, List.set_cons_zero, List.set_cons_succ]))
            first | (refine wpAnyH_take (i := 9) (oi := { dst := some 124, op := Go.Op.move (Go.Operand.tmp 2), type := 3, pos := "law.go:67", after := #[{ on := 6, ground := Go.Ground.guard }], guard := some (6, false) }) (v := ?_) rfl (by kernel_rfl) (by kernel_rfl) (by kernel_rfl) (fun _ _ _ h => h) (Or.inl ⟨by rfl, ?_⟩) (by assumption) ?_; rotate_left 1; (focus (intro w hSw; rw [HSD.out] at hSw; (try dsimp only at hSw); go_simp; (try with_reducible rfl))); (try simp only [Act.put, List.setIfInBounds_toArray, List.set_cons_zero, List.set_cons_succ])) | (refine wpAnyH_take (i := 9) (oi := { dst := some 124, op := Go.Op.move (Go.Operand.tmp 2), type := 3, pos := "law.go:67", after := #[{ on := 6, ground := Go.Ground.guard }], guard := some (6, false) }) (v := undef) rfl (by kernel_rfl) (by kernel_rfl) (by kernel_rfl) (fun _ _ _ h => h) (Or.inr ⟨by rfl, rfl⟩) (by assumption) ?_; (try simp only [Act.put, List.setIfInBounds_toArray, List.set_cons_zero, List.set_cons_succ]))
            first | (refine wpAnyH_take (i := 10) (oi := { dst := some 125, op := Go.Op.load 24 (Go.Operand.tmp 6), type := 24, pos := "law.go:67", after := #[{ on := 6, ground := Go.Ground.guard }], guard := some (6, false) }) (v := ?_) rfl (by kernel_rfl) (by kernel_rfl) (by kernel_rfl) (fun _ _ _ h => h) (Or.inl ⟨by rfl, ?_⟩) (by assumption) ?_; rotate_left 1; (focus (intro w hSw; rw [HSD.out] at hSw; (try dsimp only at hSw); go_simp; (try with_reducible rfl))); (try simp only [Act.put, List.setIfInBounds_toArray, List.set_cons_zero, List.set_cons_succ])) | (refine wpAnyH_take (i := 10) (oi := { dst := some 125, op := Go.Op.load 24 (Go.Operand.tmp 6), type := 24, pos := "law.go:67", after := #[{ on := 6, ground := Go.Ground.guard }], guard := some (6, false) }) (v := undef) rfl (by kernel_rfl) (by kernel_rfl) (by kernel_rfl) (fun _ _ _ h => h) (Or.inr ⟨by rfl, rfl⟩) (by assumption) ?_; (try simp only [Act.put, List.setIfInBounds_toArray, List.set_cons_zero, List.set_cons_succ]))
            first | (refine wpAnyH_take (i := 11) (oi := { dst := some 126, op := Go.Op.call { callee := Go.Callee.value (Go.Operand.func 29), args := #[Go.Operand.tmp 123, Go.Operand.tmp 124, Go.Operand.tmp 125], argTypes := #[9, 3, 24] }, type := 24, pos := "law.go:67", after := #[{ on := 8, ground := Go.Ground.data }, { on := 9, ground := Go.Ground.data }, { on := 10, ground := Go.Ground.data }, { on := 6, ground := Go.Ground.chain }, { on := 6, ground := Go.Ground.guard }], guard := some (6, false) }) (v := undef) rfl (by kernel_rfl) (by kernel_rfl) (by kernel_rfl) (fun _ _ _ h => h) (Or.inr ⟨by rfl, rfl⟩) (by assumption) ?_; (try simp only [Act.put, List.setIfInBounds_toArray, List.set_cons_zero, List.set_cons_succ])) | (refine wpAnyH_ready (rs := [11]) (by kernel_rfl) (by simp) ?_; refine AllReadyH.cons (o := { dst := some 126, op := Go.Op.call { callee := Go.Callee.value (Go.Operand.func 29), args := #[Go.Operand.tmp 123, Go.Operand.tmp 124, Go.Operand.tmp 125], argTypes := #[9, 3, 24] }, type := 24, pos := "law.go:67", after := #[{ on := 8, ground := Go.Ground.data }, { on := 9, ground := Go.Ground.data }, { on := 10, ground := Go.Ground.data }, { on := 6, ground := Go.Ground.chain }, { on := 6, ground := Go.Ground.guard }], guard := some (6, false) }) rfl (fun K hK => ?_) AllReadyH.nil; go_simp; (go_at_call 29; refine (rcap_any name n ⟨ak, at', al⟩ A c _ (HR3.out.1 _ (HRW.out _ HB.out)) (by simp only; omega)).mono ?_; rintro e w5 ⟨_, rfl, ho, hb5⟩; rw [HC.out] at ho; obtain ⟨R, rc, rfl, hr⟩ := ho.row; have HRr := Lib.hid hr; clear ho hr; have HB5 := Lib.hid (HB.out.trans (hb5.mono HB.out.size)); clear hb5; clear HB; have HB := HB5; clear HB5); (try go_wp2_with fail); refine hK.out _ _ (by rw [HSD.out]; exact HG12.out _ HB.out) (fun hHeld => ?_); clear hK K; (try simp only [Act.put, List.setIfInBounds_toArray, List.set_cons_zero, List.set_cons_succ]))
            first | (refine wpAnyH_take (i := 12) (oi := { dst := some 127, op := Go.Op.call { callee := Go.Callee.value (Go.Operand.func 21), args := #[Go.Operand.tmp 122, Go.Operand.tmp 126], argTypes := #[24, 24] }, type := 4, pos := "law.go:67", after := #[{ on := 7, ground := Go.Ground.data }, { on := 11, ground := Go.Ground.data }, { on := 11, ground := Go.Ground.chain }, { on := 6, ground := Go.Ground.guard }], guard := some (6, false) }) (v := undef) rfl (by kernel_rfl) (by kernel_rfl) (by kernel_rfl) (fun _ _ _ h => h) (Or.inr ⟨by rfl, rfl⟩) (by assumption) ?_; (try simp only [Act.put, List.setIfInBounds_toArray, List.set_cons_zero, List.set_cons_succ])) | (refine wpAnyH_ready (rs := [12]) (by kernel_rfl) (by simp) ?_; refine AllReadyH.cons (o := { dst := some 127, op := Go.Op.call { callee := Go.Callee.value (Go.Operand.func 21), args := #[Go.Operand.tmp 122, Go.Operand.tmp 126], argTypes := #[24, 24] }, type := 4, pos := "law.go:67", after := #[{ on := 7, ground := Go.Ground.data }, { on := 11, ground := Go.Ground.data }, { on := 11, ground := Go.Ground.chain }, { on := 6, ground := Go.Ground.guard }], guard := some (6, false) }) rfl (fun K hK => ?_) AllReadyH.nil; go_simp; (go_at_call 21; refine (calls_at (rsame_any ⟨ck, ct, cl⟩ ⟨ck, ct, cl⟩ C R cc rc _ (own_rowAt (HOC.out.below HB.out)) HRr.out HHL.out.2.1 HHL.out.2.1) HB.out).mono ?_; rintro e w5 ⟨he, HB5⟩; obtain rfl : e = .returned (.bool true) := (by rw [he]; simp); clear he; clear HB; have HB := HB5; clear HB5; clear HRr); (try go_wp2_with fail); refine hK.out _ _ (by rw [HSD.out]; exact HG12.out _ HB.out) (fun hHeld => ?_); clear hK K; (try simp only [Act.put, List.setIfInBounds_toArray, List.set_cons_zero, List.set_cons_succ]))
            first | (refine wpAnyH_take (i := 13) (oi := { dst := some 128, op := Go.Op.unOp Go.UnOp.not 4 (Go.Operand.tmp 127), type := 4, pos := "law.go:67", after := #[{ on := 12, ground := Go.Ground.data }, { on := 6, ground := Go.Ground.guard }], guard := some (6, false) }) (v := ?_) rfl (by kernel_rfl) (by kernel_rfl) (by kernel_rfl) (fun _ _ _ h => h) (Or.inl ⟨by rfl, ?_⟩) (by assumption) ?_; rotate_left 1; (focus (intro w hSw; rw [HSD.out] at hSw; (try dsimp only at hSw); go_simp; (try with_reducible rfl))); (try simp only [Act.put, List.setIfInBounds_toArray, List.set_cons_zero, List.set_cons_succ])) | (refine wpAnyH_take (i := 13) (oi := { dst := some 128, op := Go.Op.unOp Go.UnOp.not 4 (Go.Operand.tmp 127), type := 4, pos := "law.go:67", after := #[{ on := 12, ground := Go.Ground.data }, { on := 6, ground := Go.Ground.guard }], guard := some (6, false) }) (v := undef) rfl (by kernel_rfl) (by kernel_rfl) (by kernel_rfl) (fun _ _ _ h => h) (Or.inr ⟨by rfl, rfl⟩) (by assumption) ?_; (try simp only [Act.put, List.setIfInBounds_toArray, List.set_cons_zero, List.set_cons_succ]))
            (refine wpAnyH_take (i := 14) (oi := { dst := some 129, op := Go.Op.pick (Go.Operand.tmp 121) (Go.Operand.const (Go.Value.bool true)) (Go.Operand.tmp 128), type := 4, pos := "law.go:67", after := #[{ on := 6, ground := Go.Ground.data }, { on := 13, ground := Go.Ground.data }], guard := none }) (v := ?_) rfl (by kernel_rfl) (by kernel_rfl) (by kernel_rfl) (fun _ _ _ h => h) (Or.inl ⟨by rfl, ?_⟩) (by assumption) ?_; rotate_left 1; (focus (intro w hSw; rw [HSD.out] at hSw; (try dsimp only at hSw); go_simp; (try with_reducible rfl))); (try simp only [Act.put, List.setIfInBounds_toArray, List.set_cons_zero, List.set_cons_succ]))
            (refine wpAnyH_take (i := 15) (oi := { dst := some 130, op := Go.Op.move (Go.Operand.tmp 129), type := 4, pos := "law.go:67", after := #[{ on := 14, ground := Go.Ground.data }, { on := 12, ground := Go.Ground.chain }], guard := none }) (v := ?_) rfl (by kernel_rfl) (by kernel_rfl) (by kernel_rfl) (fun _ _ _ h => h) (Or.inl ⟨by rfl, ?_⟩) (by assumption) ?_; rotate_left 1; (focus (intro w hSw; rw [HSD.out] at hSw; (try dsimp only at hSw); go_simp; (try with_reducible rfl))); (try simp only [Act.put, List.setIfInBounds_toArray, List.set_cons_zero, List.set_cons_succ]))
            first | (refine wpAnyH_take (i := 16) (oi := { dst := some 131, op := Go.Op.load 24 (Go.Operand.tmp 18), type := 24, pos := "law.go:67", after := #[{ on := 15, ground := Go.Ground.guard }], guard := some (15, false) }) (v := ?_) rfl (by kernel_rfl) (by kernel_rfl) (by kernel_rfl) (fun _ _ _ h => h) (Or.inl ⟨by rfl, ?_⟩) (by assumption) ?_; rotate_left 1; (focus (intro w hSw; rw [HSD.out] at hSw; (try dsimp only at hSw); go_simp; (try with_reducible rfl))); (try simp only [Act.put, List.setIfInBounds_toArray, List.set_cons_zero, List.set_cons_succ])) | (refine wpAnyH_take (i := 16) (oi := { dst := some 131, op := Go.Op.load 24 (Go.Operand.tmp 18), type := 24, pos := "law.go:67", after := #[{ on := 15, ground := Go.Ground.guard }], guard := some (15, false) }) (v := undef) rfl (by kernel_rfl) (by kernel_rfl) (by kernel_rfl) (fun _ _ _ h => h) (Or.inr ⟨by rfl, rfl⟩) (by assumption) ?_; (try simp only [Act.put, List.setIfInBounds_toArray, List.set_cons_zero, List.set_cons_succ]))
            first | (refine wpAnyH_take (i := 17) (oi := { dst := some 132, op := Go.Op.load 24 (Go.Operand.tmp 6), type := 24, pos := "law.go:67", after := #[{ on := 15, ground := Go.Ground.guard }], guard := some (15, false) }) (v := ?_) rfl (by kernel_rfl) (by kernel_rfl) (by kernel_rfl) (fun _ _ _ h => h) (Or.inl ⟨by rfl, ?_⟩) (by assumption) ?_; rotate_left 1; (focus (intro w hSw; rw [HSD.out] at hSw; (try dsimp only at hSw); go_simp; (try with_reducible rfl))); (try simp only [Act.put, List.setIfInBounds_toArray, List.set_cons_zero, List.set_cons_succ])) | (refine wpAnyH_take (i := 17) (oi := { dst := some 132, op := Go.Op.load 24 (Go.Operand.tmp 6), type := 24, pos := "law.go:67", after := #[{ on := 15, ground := Go.Ground.guard }], guard := some (15, false) }) (v := undef) rfl (by kernel_rfl) (by kernel_rfl) (by kernel_rfl) (fun _ _ _ h => h) (Or.inr ⟨by rfl, rfl⟩) (by assumption) ?_; (try simp only [Act.put, List.setIfInBounds_toArray, List.set_cons_zero, List.set_cons_succ]))
            first | (refine wpAnyH_take (i := 18) (oi := { dst := some 133, op := Go.Op.call { callee := Go.Callee.value (Go.Operand.func 21), args := #[Go.Operand.tmp 131, Go.Operand.tmp 132], argTypes := #[24, 24] }, type := 4, pos := "law.go:67", after := #[{ on := 16, ground := Go.Ground.data }, { on := 17, ground := Go.Ground.data }, { on := 15, ground := Go.Ground.chain }, { on := 15, ground := Go.Ground.guard }], guard := some (15, false) }) (v := undef) rfl (by kernel_rfl) (by kernel_rfl) (by kernel_rfl) (fun _ _ _ h => h) (Or.inr ⟨by rfl, rfl⟩) (by assumption) ?_; (try simp only [Act.put, List.setIfInBounds_toArray, List.set_cons_zero, List.set_cons_succ])) | (refine wpAnyH_ready (rs := [18]) (by kernel_rfl) (by simp) ?_; refine AllReadyH.cons (o := { dst := some 133, op := Go.Op.call { callee := Go.Callee.value (Go.Operand.func 21), args := #[Go.Operand.tmp 131, Go.Operand.tmp 132], argTypes := #[24, 24] }, type := 4, pos := "law.go:67", after := #[{ on := 16, ground := Go.Ground.data }, { on := 17, ground := Go.Ground.data }, { on := 15, ground := Go.Ground.chain }, { on := 15, ground := Go.Ground.guard }], guard := some (15, false) }) rfl (fun K hK => ?_) AllReadyH.nil; go_simp; (go_at_call 21; refine (calls_at (rsame_any ⟨ak, at', al⟩ ⟨ak, at', al⟩ D A dc c _ (own_rowAt (HOD.out.below HB.out)) (HR3.out.1 _ (HRW.out _ HB.out)) hla hla) HB.out).mono ?_; rintro e w5 ⟨he, HB5⟩; obtain rfl : e = .returned (.bool true) := (by rw [he]; simp); clear he; clear HB; have HB := HB5; clear HB5); (try go_wp2_with fail); refine hK.out _ _ (by rw [HSD.out]; exact HG12.out _ HB.out) (fun hHeld => ?_); clear hK K; (try simp only [Act.put, List.setIfInBounds_toArray, List.set_cons_zero, List.set_cons_succ]))
            first | (refine wpAnyH_take (i := 19) (oi := { dst := some 134, op := Go.Op.unOp Go.UnOp.not 4 (Go.Operand.tmp 133), type := 4, pos := "law.go:67", after := #[{ on := 18, ground := Go.Ground.data }, { on := 15, ground := Go.Ground.guard }], guard := some (15, false) }) (v := ?_) rfl (by kernel_rfl) (by kernel_rfl) (by kernel_rfl) (fun _ _ _ h => h) (Or.inl ⟨by rfl, ?_⟩) (by assumption) ?_; rotate_left 1; (focus (intro w hSw; rw [HSD.out] at hSw; (try dsimp only at hSw); go_simp; (try with_reducible rfl))); (try simp only [Act.put, List.setIfInBounds_toArray, List.set_cons_zero, List.set_cons_succ])) | (refine wpAnyH_take (i := 19) (oi := { dst := some 134, op := Go.Op.unOp Go.UnOp.not 4 (Go.Operand.tmp 133), type := 4, pos := "law.go:67", after := #[{ on := 18, ground := Go.Ground.data }, { on := 15, ground := Go.Ground.guard }], guard := some (15, false) }) (v := undef) rfl (by kernel_rfl) (by kernel_rfl) (by kernel_rfl) (fun _ _ _ h => h) (Or.inr ⟨by rfl, rfl⟩) (by assumption) ?_; (try simp only [Act.put, List.setIfInBounds_toArray, List.set_cons_zero, List.set_cons_succ]))
            (refine wpAnyH_take (i := 20) (oi := { dst := some 135, op := Go.Op.pick (Go.Operand.tmp 130) (Go.Operand.const (Go.Value.bool true)) (Go.Operand.tmp 134), type := 4, pos := "law.go:67", after := #[{ on := 15, ground := Go.Ground.data }, { on := 19, ground := Go.Ground.data }], guard := none }) (v := ?_) rfl (by kernel_rfl) (by kernel_rfl) (by kernel_rfl) (fun _ _ _ h => h) (Or.inl ⟨by rfl, ?_⟩) (by assumption) ?_; rotate_left 1; (focus (intro w hSw; rw [HSD.out] at hSw; (try dsimp only at hSw); go_simp; (try with_reducible rfl))); (try simp only [Act.put, List.setIfInBounds_toArray, List.set_cons_zero, List.set_cons_succ]))
            (refine wpAnyH_take (i := 21) (oi := { dst := some 136, op := Go.Op.move (Go.Operand.tmp 135), type := 4, pos := "law.go:67", after := #[{ on := 20, ground := Go.Ground.data }, { on := 18, ground := Go.Ground.chain }], guard := none }) (v := ?_) rfl (by kernel_rfl) (by kernel_rfl) (by kernel_rfl) (fun _ _ _ h => h) (Or.inl ⟨by rfl, ?_⟩) (by assumption) ?_; rotate_left 1; (focus (intro w hSw; rw [HSD.out] at hSw; (try dsimp only at hSw); go_simp; (try with_reducible rfl))); (try simp only [Act.put, List.setIfInBounds_toArray, List.set_cons_zero, List.set_cons_succ]))
            first | (refine wpAnyH_take (i := 22) (oi := { dst := some 137, op := Go.Op.move (Go.Operand.tmp 20), type := 4, pos := "law.go:67", after := #[{ on := 21, ground := Go.Ground.guard }], guard := some (21, false) }) (v := ?_) rfl (by kernel_rfl) (by kernel_rfl) (by kernel_rfl) (fun _ _ _ h => h) (Or.inl ⟨by rfl, ?_⟩) (by assumption) ?_; rotate_left 1; (focus (intro w hSw; rw [HSD.out] at hSw; (try dsimp only at hSw); go_simp; (try with_reducible rfl))); (try simp only [Act.put, List.setIfInBounds_toArray, List.set_cons_zero, List.set_cons_succ])) | (refine wpAnyH_take (i := 22) (oi := { dst := some 137, op := Go.Op.move (Go.Operand.tmp 20), type := 4, pos := "law.go:67", after := #[{ on := 21, ground := Go.Ground.guard }], guard := some (21, false) }) (v := undef) rfl (by kernel_rfl) (by kernel_rfl) (by kernel_rfl) (fun _ _ _ h => h) (Or.inr ⟨by rfl, rfl⟩) (by assumption) ?_; (try simp only [Act.put, List.setIfInBounds_toArray, List.set_cons_zero, List.set_cons_succ]))
            first | (refine wpAnyH_take (i := 23) (oi := { dst := some 138, op := Go.Op.move (Go.Operand.tmp 22), type := 4, pos := "law.go:67", after := #[{ on := 21, ground := Go.Ground.guard }], guard := some (21, false) }) (v := ?_) rfl (by kernel_rfl) (by kernel_rfl) (by kernel_rfl) (fun _ _ _ h => h) (Or.inl ⟨by rfl, ?_⟩) (by assumption) ?_; rotate_left 1; (focus (intro w hSw; rw [HSD.out] at hSw; (try dsimp only at hSw); go_simp; (try with_reducible rfl))); (try simp only [Act.put, List.setIfInBounds_toArray, List.set_cons_zero, List.set_cons_succ])) | (refine wpAnyH_take (i := 23) (oi := { dst := some 138, op := Go.Op.move (Go.Operand.tmp 22), type := 4, pos := "law.go:67", after := #[{ on := 21, ground := Go.Ground.guard }], guard := some (21, false) }) (v := undef) rfl (by kernel_rfl) (by kernel_rfl) (by kernel_rfl) (fun _ _ _ h => h) (Or.inr ⟨by rfl, rfl⟩) (by assumption) ?_; (try simp only [Act.put, List.setIfInBounds_toArray, List.set_cons_zero, List.set_cons_succ]))
            first | (refine wpAnyH_take (i := 24) (oi := { dst := some 139, op := Go.Op.binOp Go.BinOp.neq 4 (Go.Operand.tmp 137) (Go.Operand.tmp 138) 4, type := 4, pos := "law.go:67", after := #[{ on := 22, ground := Go.Ground.data }, { on := 23, ground := Go.Ground.data }, { on := 21, ground := Go.Ground.guard }], guard := some (21, false) }) (v := ?_) rfl (by kernel_rfl) (by kernel_rfl) (by kernel_rfl) (fun _ _ _ h => h) (Or.inl ⟨by rfl, ?_⟩) (by assumption) ?_; rotate_left 1; (focus (intro w hSw; rw [HSD.out] at hSw; (try dsimp only at hSw); go_simp; (try with_reducible rfl))); (try simp only [Act.put, List.setIfInBounds_toArray, List.set_cons_zero, List.set_cons_succ])) | (refine wpAnyH_take (i := 24) (oi := { dst := some 139, op := Go.Op.binOp Go.BinOp.neq 4 (Go.Operand.tmp 137) (Go.Operand.tmp 138) 4, type := 4, pos := "law.go:67", after := #[{ on := 22, ground := Go.Ground.data }, { on := 23, ground := Go.Ground.data }, { on := 21, ground := Go.Ground.guard }], guard := some (21, false) }) (v := undef) rfl (by kernel_rfl) (by kernel_rfl) (by kernel_rfl) (fun _ _ _ h => h) (Or.inr ⟨by rfl, rfl⟩) (by assumption) ?_; (try simp only [Act.put, List.setIfInBounds_toArray, List.set_cons_zero, List.set_cons_succ]))
            (refine wpAnyH_take (i := 25) (oi := { dst := some 140, op := Go.Op.pick (Go.Operand.tmp 136) (Go.Operand.const (Go.Value.bool true)) (Go.Operand.tmp 139), type := 4, pos := "law.go:67", after := #[{ on := 21, ground := Go.Ground.data }, { on := 24, ground := Go.Ground.data }], guard := none }) (v := ?_) rfl (by kernel_rfl) (by kernel_rfl) (by kernel_rfl) (fun _ _ _ h => h) (Or.inl ⟨by rfl, ?_⟩) (by assumption) ?_; rotate_left 1; (focus (intro w hSw; rw [HSD.out] at hSw; (try dsimp only at hSw); go_simp; (try with_reducible rfl))); (try simp only [Act.put, List.setIfInBounds_toArray, List.set_cons_zero, List.set_cons_succ]))
            (refine wpAnyH_take (i := 26) (oi := { dst := some 141, op := Go.Op.move (Go.Operand.tmp 140), type := 4, pos := "law.go:67", after := #[{ on := 25, ground := Go.Ground.data }, { on := 21, ground := Go.Ground.chain }], guard := none }) (v := ?_) rfl (by kernel_rfl) (by kernel_rfl) (by kernel_rfl) (fun _ _ _ h => h) (Or.inl ⟨by rfl, ?_⟩) (by assumption) ?_; rotate_left 1; (focus (intro w hSw; rw [HSD.out] at hSw; (try dsimp only at hSw); go_simp; (try with_reducible rfl))); (try simp only [Act.put, List.setIfInBounds_toArray, List.set_cons_zero, List.set_cons_succ]))
            first | (refine wpAnyH_take (i := 27) (oi := { dst := some 142, op := Go.Op.load 24 (Go.Operand.tmp 19), type := 24, pos := "law.go:67", after := #[{ on := 26, ground := Go.Ground.guard }], guard := some (26, false) }) (v := ?_) rfl (by kernel_rfl) (by kernel_rfl) (by kernel_rfl) (fun _ _ _ h => h) (Or.inl ⟨by rfl, ?_⟩) (by assumption) ?_; rotate_left 1; (focus (intro w hSw; rw [HSD.out] at hSw; (try dsimp only at hSw); go_simp; (try with_reducible rfl))); (try simp only [Act.put, List.setIfInBounds_toArray, List.set_cons_zero, List.set_cons_succ])) | (refine wpAnyH_take (i := 27) (oi := { dst := some 142, op := Go.Op.load 24 (Go.Operand.tmp 19), type := 24, pos := "law.go:67", after := #[{ on := 26, ground := Go.Ground.guard }], guard := some (26, false) }) (v := undef) rfl (by kernel_rfl) (by kernel_rfl) (by kernel_rfl) (fun _ _ _ h => h) (Or.inr ⟨by rfl, rfl⟩) (by assumption) ?_; (try simp only [Act.put, List.setIfInBounds_toArray, List.set_cons_zero, List.set_cons_succ]))
            first | (refine wpAnyH_take (i := 28) (oi := { dst := some 143, op := Go.Op.load 24 (Go.Operand.tmp 21), type := 24, pos := "law.go:67", after := #[{ on := 26, ground := Go.Ground.guard }], guard := some (26, false) }) (v := ?_) rfl (by kernel_rfl) (by kernel_rfl) (by kernel_rfl) (fun _ _ _ h => h) (Or.inl ⟨by rfl, ?_⟩) (by assumption) ?_; rotate_left 1; (focus (intro w hSw; rw [HSD.out] at hSw; (try dsimp only at hSw); go_simp; (try with_reducible rfl))); (try simp only [Act.put, List.setIfInBounds_toArray, List.set_cons_zero, List.set_cons_succ])) | (refine wpAnyH_take (i := 28) (oi := { dst := some 143, op := Go.Op.load 24 (Go.Operand.tmp 21), type := 24, pos := "law.go:67", after := #[{ on := 26, ground := Go.Ground.guard }], guard := some (26, false) }) (v := undef) rfl (by kernel_rfl) (by kernel_rfl) (by kernel_rfl) (fun _ _ _ h => h) (Or.inr ⟨by rfl, rfl⟩) (by assumption) ?_; (try simp only [Act.put, List.setIfInBounds_toArray, List.set_cons_zero, List.set_cons_succ]))
            first | (refine wpAnyH_take (i := 29) (oi := { dst := some 144, op := Go.Op.call { callee := Go.Callee.value (Go.Operand.func 21), args := #[Go.Operand.tmp 142, Go.Operand.tmp 143], argTypes := #[24, 24] }, type := 4, pos := "law.go:67", after := #[{ on := 27, ground := Go.Ground.data }, { on := 28, ground := Go.Ground.data }, { on := 26, ground := Go.Ground.chain }, { on := 26, ground := Go.Ground.guard }], guard := some (26, false) }) (v := undef) rfl (by kernel_rfl) (by kernel_rfl) (by kernel_rfl) (fun _ _ _ h => h) (Or.inr ⟨by rfl, rfl⟩) (by assumption) ?_; (try simp only [Act.put, List.setIfInBounds_toArray, List.set_cons_zero, List.set_cons_succ])) | (refine wpAnyH_ready (rs := [29]) (by kernel_rfl) (by simp) ?_; refine AllReadyH.cons (o := { dst := some 144, op := Go.Op.call { callee := Go.Callee.value (Go.Operand.func 21), args := #[Go.Operand.tmp 142, Go.Operand.tmp 143], argTypes := #[24, 24] }, type := 4, pos := "law.go:67", after := #[{ on := 27, ground := Go.Ground.data }, { on := 28, ground := Go.Ground.data }, { on := 26, ground := Go.Ground.chain }, { on := 26, ground := Go.Ground.guard }], guard := some (26, false) }) rfl (fun K hK => ?_) AllReadyH.nil; go_simp; (go_at_call 21; refine (calls_at (rsame_any ⟨sk, st, sl⟩ ⟨sk, st, sl⟩ S T sc tc _ (own_rowAt (HOS2.out.below HB.out)) (HRT2.out.below HB.out) HHL.out.2.2 HHL.out.2.2) HB.out).mono ?_; rintro e w5 ⟨he, HB5⟩; obtain rfl : e = .returned (.bool true) := (by rw [he]; simp); clear he; clear HB; have HB := HB5; clear HB5); (try go_wp2_with fail); refine hK.out _ _ (by rw [HSD.out]; exact HG12.out _ HB.out) (fun hHeld => ?_); clear hK K; (try simp only [Act.put, List.setIfInBounds_toArray, List.set_cons_zero, List.set_cons_succ]))
            first | (refine wpAnyH_take (i := 30) (oi := { dst := some 145, op := Go.Op.unOp Go.UnOp.not 4 (Go.Operand.tmp 144), type := 4, pos := "law.go:67", after := #[{ on := 29, ground := Go.Ground.data }, { on := 26, ground := Go.Ground.guard }], guard := some (26, false) }) (v := ?_) rfl (by kernel_rfl) (by kernel_rfl) (by kernel_rfl) (fun _ _ _ h => h) (Or.inl ⟨by rfl, ?_⟩) (by assumption) ?_; rotate_left 1; (focus (intro w hSw; rw [HSD.out] at hSw; (try dsimp only at hSw); go_simp; (try with_reducible rfl))); (try simp only [Act.put, List.setIfInBounds_toArray, List.set_cons_zero, List.set_cons_succ])) | (refine wpAnyH_take (i := 30) (oi := { dst := some 145, op := Go.Op.unOp Go.UnOp.not 4 (Go.Operand.tmp 144), type := 4, pos := "law.go:67", after := #[{ on := 29, ground := Go.Ground.data }, { on := 26, ground := Go.Ground.guard }], guard := some (26, false) }) (v := undef) rfl (by kernel_rfl) (by kernel_rfl) (by kernel_rfl) (fun _ _ _ h => h) (Or.inr ⟨by rfl, rfl⟩) (by assumption) ?_; (try simp only [Act.put, List.setIfInBounds_toArray, List.set_cons_zero, List.set_cons_succ]))
            (refine wpAnyH_take (i := 31) (oi := { dst := some 146, op := Go.Op.pick (Go.Operand.tmp 141) (Go.Operand.const (Go.Value.bool true)) (Go.Operand.tmp 145), type := 4, pos := "law.go:67", after := #[{ on := 26, ground := Go.Ground.data }, { on := 30, ground := Go.Ground.data }], guard := none }) (v := ?_) rfl (by kernel_rfl) (by kernel_rfl) (by kernel_rfl) (fun _ _ _ h => h) (Or.inl ⟨by rfl, ?_⟩) (by assumption) ?_; rotate_left 1; (focus (intro w hSw; rw [HSD.out] at hSw; (try dsimp only at hSw); go_simp; (try with_reducible rfl))); (try simp only [Act.put, List.setIfInBounds_toArray, List.set_cons_zero, List.set_cons_succ]))
            refine wpAnyH_done (by kernel_rfl) ?_ _
            clear es HSD HRT2 HK21 HGA HG12
            have HOJ0 := Lib.hid (HOJ.out.below HB.out); have HOC0 := Lib.hid (HOC.out.below HB.out); have HOD0 := Lib.hid (HOD.out.below HB.out); have HOS0 := Lib.hid ((HOS2.out.below HB.out).mono HZ9.out)
            have HKJ0 := Lib.hid ((HB.out.block _ (heap_lt HKB.out.1)).trans HKB.out.1)
            have HKC0 := Lib.hid ((HB.out.block _ (heap_lt HKB.out.2.1)).trans HKB.out.2.1)
            have HKD0 := Lib.hid ((HB.out.block _ (heap_lt HKB.out.2.2.1)).trans HKB.out.2.2.1)
            have HKS0 := Lib.hid ((HB.out.block _ (heap_lt HKB.out.2.2.2)).trans HKB.out.2.2.2)
            have HBX0 := Lib.hid (HBW.out.trans (HB.out.mono HZW.out))
            have HSZ0 := Lib.hid HBX0.out.size
            clear HOJ HOC HOD HOS2 HKB HBW HZW HZ9 HRW HB
            obtain ⟨f1, f2, f3, _⟩ := blk3 HKJ0.out
            go_wp2_with fail
            refine (spoil_at ⟨jk, jt, jl⟩ J jc wr.heap.size w5 HOJ0.out HSZ0.out HHL.out.1).mono ?_
            clear f1 f2 f3
            rintro e v1 ⟨rfl, HGR⟩
            have HOC1 := Lib.hid (own_grown HOJ0.out HGR.out HOC0.out HSJC.out)
            have HKC1 := Lib.hid (box_grown HOJ0.out HGR.out HKC0.out)
            have HOD1 := Lib.hid (own_grown HOJ0.out HGR.out HOD0.out HSJD.out)
            have HKD1 := Lib.hid (box_grown HOJ0.out HGR.out HKD0.out)
            have HOS1 := Lib.hid (own_grown HOJ0.out HGR.out HOS0.out HSJS.out)
            have HKS1 := Lib.hid (box_grown HOJ0.out HGR.out HKS0.out)
            have HBX1 := Lib.hid (HBX0.out.trans (below_grown HOJ0.out HGR.out HSZ0.out))
            have HSZ1 := Lib.hid HBX1.out.size
            clear HGR HOJ0 HBX0 HSZ0 HKJ0 HOC0 HKC0 HOD0 HKD0 HOS0 HKS0
            obtain ⟨f1, f2, f3, _⟩ := blk3 HKC1.out
            go_wp2_with fail
            refine (spoil_at ⟨ck, ct, cl⟩ C cc wr.heap.size v1 HOC1.out HSZ1.out HHL.out.2.1).mono ?_
            clear f1 f2 f3
            rintro e v2 ⟨rfl, HGR⟩
            have HOD2 := Lib.hid (own_grown HOC1.out HGR.out HOD1.out HSCD.out)
            have HKD2 := Lib.hid (box_grown HOC1.out HGR.out HKD1.out)
            have HOS2 := Lib.hid (own_grown HOC1.out HGR.out HOS1.out HSCS.out)
            have HKS2 := Lib.hid (box_grown HOC1.out HGR.out HKS1.out)
            have HBX2 := Lib.hid (HBX1.out.trans (below_grown HOC1.out HGR.out HSZ1.out))
            have HSZ2 := Lib.hid HBX2.out.size
            clear HGR HOC1 HBX1 HSZ1 HKC1 HOD1 HKD1 HOS1 HKS1
            obtain ⟨f1, f2, f3, _⟩ := blk3 HKD2.out
            go_wp2_with fail
            refine (spoil_at ⟨ak, at', al⟩ D dc wr.heap.size v2 HOD2.out HSZ2.out hla).mono ?_
            clear f1 f2 f3
            rintro e v3 ⟨rfl, HGR⟩
            have HOS3 := Lib.hid (own_grown HOD2.out HGR.out HOS2.out HSDS.out)
            have HKS3 := Lib.hid (box_grown HOD2.out HGR.out HKS2.out)
            have HBX3 := Lib.hid (HBX2.out.trans (below_grown HOD2.out HGR.out HSZ2.out))
            have HSZ3 := Lib.hid HBX3.out.size
            clear HGR HOD2 HBX2 HSZ2 HKD2 HOS2 HKS2
            obtain ⟨f1, f2, f3, _⟩ := blk3 HKS3.out
            go_wp2_with fail
            refine (spoil_at ⟨sk, st, sl⟩ S sc wr.heap.size v3 HOS3.out HSZ3.out HHL.out.2.2).mono ?_
            clear f1 f2 f3
            rintro e v4 ⟨rfl, HGR⟩
            have HBX4 := Lib.hid (HBX3.out.trans (below_grown HOS3.out HGR.out HSZ3.out))
            have HSZ4 := Lib.hid HBX4.out.size
            clear HGR HOS3 HBX3 HSZ3 HKS3
            go_wp2_with fail
            exact ⟨⟨k + 1, by omega, by go_num, HBR.out.trans (HBX4.out.mono HZR.out)⟩, by simp [intOf]; omega⟩
        · obtain ⟨⟨⟨f1, f2, f3⟩, _, ⟨f4, f5, f6⟩, _⟩, _⟩ := HG3.out _ HBR.out
          go_wp2_with fail
          refine (calls_at (rsame_any ⟨ak, at', al⟩ ⟨ak, at', al⟩ X A xc c _ (HR3.out.2.2.1 _ HBR.out) (HR3.out.1 _ HBR.out) hla hla) HBR.out).mono ?_
          clear f1 f2 f3 f4 f5 f6
          rintro e v1 ⟨he, HB1⟩
          obtain rfl : e = .returned (.bool true) := by rw [he]; simp
          clear he
          obtain ⟨⟨_, ⟨f1, f2, f3⟩, _, ⟨f4, f5, f6⟩⟩, _⟩ := HG3.out _ HB1.out
          go_wp2_with fail
          refine (calls_at (rsame_any ⟨bk, bt, bl⟩ ⟨bk, bt, bl⟩ Y B yc d _ (HR3.out.2.2.2 _ HB1.out) (HR3.out.2.1 _ HB1.out) hlb hlb) HB1.out).mono ?_
          clear f1 f2 f3 f4 f5 f6
          rintro e v2 ⟨he, HB2⟩
          obtain rfl : e = .returned (.bool true) := by rw [he]; simp
          clear he
          go_wp2_with fail
          refine (calls_at (works_any _ (HT3.out _ HB2.out)) HB2.out).mono ?_
          rintro e v3 ⟨rfl, HB3⟩
          go_wp2_with fail
          go_ret
          exact ⟨rfl, HEND.out _ HB3.out⟩
  · have hgo' : b = true ∨ (b = false ∧ 6000 < input.size) ∨ (b = false ∧ input.size ≤ 6000 ∧ 3000 < name.size) := by
      cases b
      · by_cases h6 : input.size ≤ 6000
        · by_cases h3 : name.size ≤ 3000
          · exact absurd ⟨rfl, h6, h3⟩ hgo
          · exact .inr (.inr ⟨rfl, h6, by omega⟩)
        · exact .inr (.inl ⟨rfl, by omega⟩)
      · exact .inl rfl
    rcases hgo' with rfl | ⟨rfl, hs3⟩ | ⟨rfl, hs6, hs3⟩
    all_goals
      clear hgo
      go_wp2_with fail
      refine (works_any _ (HTW.out.below HB2.out)).mono ?_
      rintro e w3 ⟨rfl, hb3⟩
      go_wp2_with fail
      go_ret
      exact ⟨rfl, HWB.out.trans ((HB2.out.trans (hb3.mono HB2.out.size)).mono HWB.out.size)⟩
end Go.Proofs.YtogmkekbdfckpaaDoor
