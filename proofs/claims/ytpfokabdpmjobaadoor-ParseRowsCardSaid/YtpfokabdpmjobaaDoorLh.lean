/- The contracts of quote.begin, of a reader's signs, and of the iterator that it hands back. The contracts of a reader's signs, and of the iterator that it hands back. -/
import Derived.Test.YtpfokabdpmjobaaDoorLf
import Derived.Test.YtpfokabdpmjobaaDoorQp
import Derived.Shelf.Abstract
import Derived.Shelf.RegionOpen
import Derived.OwnWalkIn
import Derived.TacticsInMore
import Derived.LoopNIn
import Derived.LoopIn
namespace Go.Proofs.YtpfokabdpmjobaaDoor
open Go.RowKit Go.Shelf
set_option linter.unusedSimpArgs false
set_option linter.unusedVariables false
def beginR (first : UInt8) (t : List UInt8) : Nat × Nat := match t[0]? with | none => (0, 8) | some c => if c = first then (1, 0) else (0, 4)
theorem begin_none {first : UInt8} {t : List UInt8} (h : t[0]? = none) : beginR first t = (0, 8) := by unfold beginR; rw [h]
theorem begin_yes {first : UInt8} {t : List UInt8} (h : t[0]? = some first) : beginR first t = (1, 0) := by unfold beginR; rw [h]; simp
theorem begin_no {first c : UInt8} {t : List UInt8} (h : t[0]? = some c) (hc : c ≠ first) : beginR first t = (0, 4) := by unfold beginR; rw [h]; simp [hc]
def BeginPost (t left : ByteArray) (en : UInt8) (p : Nat × Nat) (w : World) (e : Ending) (w' : World) : Prop :=
  ∃ r m, e = .returned (.pointer (some ⟨r, 0, none⟩)) ∧ RD w' r t left en m (p.1 : Int) (p.2 : Int) ∧ BMap w' m 1004 (escF left.data.toList) ∧ m ≠ r ∧ w.heap.size ≤ r ∧ w.heap.size ≤ m ∧ Below w.heap.size w w'
set_option maxRecDepth 100000 in
set_option maxHeartbeats 2000000 in
theorem begin_any (t left : ByteArray) (first en : UInt8) (w : World) (hs : t.size ≤ 1000000) (hl : left.size ≤ 1000) :
    Calls Tryd.prog 81 #[.string t, .string left, u8V first, u8V en] w (BeginPost t left en (beginR first t.data.toList) w) := by
  have hsz := sz_data t
  go_enter Tryd.func81, Tryd.ntmps81
  by_cases ha : 0 < t.size
  · have hA : t.data.toList[0]? = some t[0] := Lib.data_getElem? t 0 ha
    obtain ⟨b, hb⟩ : ∃ b, t[0] = b := ⟨_, rfl⟩
    rw [hb] at hA
    have HC := Lib.hid hb; clear hb
    by_cases hf : b = first
    · have HB := Lib.hid (begin_yes (hf ▸ hA))
      have HF := Lib.hid hf
      clear hf hA
      have e1 : ((b.toNat : Int) == (first.toNat : Int)) = true := by rw [HF.out]; simp
      have e2 : (b.toNat : Int) = (first.toNat : Int) := by rw [HF.out]
      go_wp2_with (first
        | (go_at_call 92; refine (escapes_any left _ hl).mono ?_; rintro e w1 ⟨m, rfl, h1, h2, h3⟩; have HR1 := Lib.hid (show RD (w1.alloc (.cells (rdCells t left en m 0 0) 145)) w1.heap.size t left en m ((0 : Nat) : Int) 0 from bx_new _ _); have HM1 := Lib.hid (h1.below (bx1 w1 (.cells (rdCells t left en m 0 0) 145))); have HB1 := Lib.hid (h2.alloc h2.size (.cells (rdCells t left en m 0 0) 145)); have HL1 := Lib.hid (show w.heap.size ≤ m ∧ m ≠ w1.heap.size ∧ w.heap.size ≤ w1.heap.size from ⟨h3, Nat.ne_of_lt h1.lt, h2.size⟩); clear h1 h2 h3)
        | (go_at_call 93; refine (next_some _ t left en _ 0 0 _ HR1.out ha hs).mono ?_; rw [HC.out]; rintro e w2 ⟨rfl, h1, h2⟩; have HR2 := Lib.hid h1; have HG2 := Lib.hid h2; clear h1 h2)
        | fail)
      go_ret
      rw [HB.out]
      exact ⟨_, _, rfl, HR2.out, HM1.out.kept HG2.out (by simpa using HL1.out.2.1), HL1.out.2.1, HL1.out.2.2, HL1.out.1, HB1.out.grown HG2.out HB1.out.size (fun k hk => by cases hk; exact HL1.out.2.2)⟩
    · have HB := Lib.hid (begin_no hA hf)
      have HF := Lib.hid hf
      have e2 : ¬ (b.toNat : Int) = (first.toNat : Int) := fun e => hf (UInt8.toNat_inj.1 (by omega))
      have e1 : ((b.toNat : Int) != (first.toNat : Int)) = true := by simpa using e2
      clear hf hA
      go_wp2_with (first
        | (go_at_call 92; refine (escapes_any left _ hl).mono ?_; rintro e w1 ⟨m, rfl, h1, h2, h3⟩; have HR1 := Lib.hid (show RD (w1.alloc (.cells (rdCells t left en m 0 0) 145)) w1.heap.size t left en m ((0 : Nat) : Int) 0 from bx_new _ _); have HM1 := Lib.hid (h1.below (bx1 w1 (.cells (rdCells t left en m 0 0) 145))); have HB1 := Lib.hid (h2.alloc h2.size (.cells (rdCells t left en m 0 0) 145)); have HL1 := Lib.hid (show w.heap.size ≤ m ∧ m ≠ w1.heap.size ∧ w.heap.size ≤ w1.heap.size from ⟨h3, Nat.ne_of_lt h1.lt, h2.size⟩); clear h1 h2 h3)
        | (go_at_call 93; refine (next_some _ t left en _ 0 0 _ HR1.out ha hs).mono ?_; rw [HC.out]; rintro e w2 ⟨rfl, h1, h2⟩; have HR2 := Lib.hid h1; have HG2 := Lib.hid h2; clear h1 h2)
        | (go_at_call 85; refine (fail_any _ t left en _ _ _ _ _ HR2.out).mono ?_; rintro e w3 ⟨rfl, h1, h2⟩; have HR3 := Lib.hid h1; have HG3 := Lib.hid (HG2.out.trans h2); clear h1 h2)
        | fail)
      go_ret
      rw [HB.out]
      exact ⟨_, _, rfl, HR3.out, HM1.out.kept HG3.out (by simpa using HL1.out.2.1), HL1.out.2.1, HL1.out.2.2, HL1.out.1, HB1.out.grown HG3.out HB1.out.size (fun k hk => by cases hk; exact HL1.out.2.2)⟩
  · have HB := Lib.hid (begin_none (first := first) (List.getElem?_eq_none (show t.data.toList.length ≤ 0 by omega)))
    have HZ := Lib.hid (show (t.size : Int) = 0 by omega)
    go_wp2_with (first
      | (go_at_call 92; refine (escapes_any left _ hl).mono ?_; rintro e w1 ⟨m, rfl, h1, h2, h3⟩; have HR1 := Lib.hid (show RD (w1.alloc (.cells (rdCells t left en m 0 0) 145)) w1.heap.size t left en m ((0 : Nat) : Int) 0 from bx_new _ _); have HM1 := Lib.hid (h1.below (bx1 w1 (.cells (rdCells t left en m 0 0) 145))); have HB1 := Lib.hid (h2.alloc h2.size (.cells (rdCells t left en m 0 0) 145)); have HL1 := Lib.hid (show w.heap.size ≤ m ∧ m ≠ w1.heap.size ∧ w.heap.size ≤ w1.heap.size from ⟨h3, Nat.ne_of_lt h1.lt, h2.size⟩); clear h1 h2 h3)
      | (go_at_call 93; refine (next_none _ t left en _ 0 0 _ HR1.out ha hs).mono ?_; rintro e w2 ⟨rfl, h1, h2⟩; have HR2 := Lib.hid h1; have HG2 := Lib.hid h2; clear h1 h2)
      | fail)
    go_ret
    rw [HB.out]
    exact ⟨_, _, rfl, by have h := HR2.out; rw [HZ.out] at h; exact h, HM1.out.kept HG2.out (by simpa using HL1.out.2.1), HL1.out.2.1, HL1.out.2.2, HL1.out.1, HB1.out.grown HG2.out HB1.out.size (fun k hk => by cases hk; exact HL1.out.2.2)⟩
end Go.Proofs.YtpfokabdpmjobaaDoor
namespace Go.Proofs.YtpfokabdpmjobaaDoor
open Go.RowKit Go.Shelf
set_option linter.unusedSimpArgs false
set_option linter.unusedVariables false
attribute [local go_sem] Oper.semAt_some
structure Sg where
  a : Nat
  b : UInt8
  n : Nat
def nxt (aft : UInt8 → Nat → Nat) (a0 : Nat) (pre : List Sg) : Nat := match pre.getLast? with | none => a0 | some x => aft x.b x.n
theorem nxt_snoc (aft : UInt8 → Nat → Nat) (a0 : Nat) (pre : List Sg) (x : Sg) : nxt aft a0 (pre ++ [x]) = aft x.b x.n := by simp [nxt]
def RdI (r : Nat) (t left : ByteArray) (en : UInt8) (m B : Nat) (a e : Nat) (W : World) : Prop :=
  RD W r t left en m (a : Int) (e : Int) ∧ BMap W m 1004 (escF left.data.toList) ∧ Boxed W B 138 (.pointer (some ⟨r, 0, none⟩))
theorem RdI.below {r : Nat} {t left : ByteArray} {en : UInt8} {m B a e : Nat} {W W' : World} (h : RdI r t left en m B a e W) (hb : Below W.heap.size W W') : RdI r t left en m B a e W' :=
  ⟨h.1.below hb, h.2.1.below hb, (hb.block _ h.2.2.lt).trans h.2.2⟩
theorem RdI.kept {r : Nat} {t left : ByteArray} {en : UInt8} {m B a e : Nat} {W W' : World} {row : Option Nat} (h : RdI r t left en m B a e W) (hg : W.grownBy W' row) (h1 : some r ≠ row) (h2 : some m ≠ row) (h3 : some B ≠ row) : RdI r t left en m B a e W' :=
  ⟨h.1.kept hg h1, h.2.1.kept hg h2, h.2.2.kept hg h3⟩
def AtP (r : Nat) (t left : ByteArray) (en : UInt8) (m B : Nat) (aft : UInt8 → Nat → Nat) (a0 e0 : Nat) (p : List Sg × Sg) (W : World) : Prop :=
  (e0 = 0 ∧ p.2.a = nxt aft a0 p.1 ∧ t.data.toList[p.2.a]? ≠ some en ∧ signR left.data.toList t.data.toList p.2.a = .ok p.2.b p.2.n) ∧ RdI r t left en m B p.2.n 0 W
def BkP (r : Nat) (t left : ByteArray) (en : UInt8) (m B : Nat) (aft : UInt8 → Nat → Nat) (a0 : Nat) (pre : List Sg) (W : World) : Prop := RdI r t left en m B (nxt aft a0 pre) 0 W
def EnP (r : Nat) (t left : ByteArray) (en : UInt8) (m B : Nat) (aft : UInt8 → Nat → Nat) (a0 e0 : Nat) (xs : List Sg) (W : World) : Prop :=
  (e0 ≠ 0 ∧ xs = [] ∧ RdI r t left en m B a0 e0 W) ∨ (e0 = 0 ∧ t.data.toList[nxt aft a0 xs]? = some en ∧ RdI r t left en m B (nxt aft a0 xs) 0 W) ∨
  (e0 = 0 ∧ t.data.toList[nxt aft a0 xs]? ≠ some en ∧ ∃ p k, signR left.data.toList t.data.toList (nxt aft a0 xs) = .no p k ∧ RdI r t left en m B p k W)
set_option maxHeartbeats 1000000 in
theorem signs_in (F : Fence) (n : Nat) (hf : F.fn 82) (hro : F.round = none) (r : Nat) (w : World) :
    CallsIn F n Tryd.prog 82 #[.pointer (some ⟨r, 0, none⟩)] w fun e w' => e = .returned (.func (.func 94) #[] #[.pointer (some ⟨w.heap.size, 0, none⟩)]) ∧ w' = w.alloc (.cells #[.pointer (some ⟨r, 0, none⟩)] 138) := by
  refine callsIn_of_wp Tryd.func82 rfl hf ?_ hro
  simp only [Tryd.ntmps82, List.size_toArray, List.length_cons, List.length_nil, Nat.reduceAdd, Nat.reduceSub, Array.replicate_succ, Array.replicate_zero, List.push_toArray, List.append_toArray, List.nil_append, List.cons_append]
  gi_wp2
  go_ret
  exact ⟨rfl, rfl⟩
set_option maxRecDepth 100000 in
set_option maxHeartbeats 2000000 in
theorem signs1_in (n : Nat) (hn : 1 ≤ n) (r : Nat) (t left : ByteArray) (en : UInt8) (m B : Nat) (aft : UInt8 → Nat → Nat) (a0 e0 : Nat) (w0 : World) (hs : t.size ≤ 1000000) (hmr : m ≠ r) (hBr : B ≠ r)
    (ha0 : a0 ≤ t.size) (haft : ∀ b k, k ≤ t.size → k ≤ aft b k ∧ aft b k ≤ t.size) (h0 : RdI r t left en m B a0 e0 w0) :
    SeqRd Fence.wide n Tryd.prog 94 #[.pointer (some ⟨B, 0, none⟩)] (fun x : Sg => #[u8V x.b]) r (AtP r t left en m B aft a0 e0) (BkP r t left en m B aft a0) (EnP r t left en m B aft a0 e0) w0 := by
  intro l J Jx W hW hJ hY hj0
  have HI0 := Lib.hid (h0.below hW); clear h0
  refine callsIn_of_wp Tryd.func94 rfl trivial ?_ rfl
  simp only [Tryd.ntmps94, List.size_toArray, List.length_cons, List.length_nil, Nat.reduceAdd, Nat.reduceSub, Array.replicate_succ, Array.replicate_zero, List.push_toArray, List.append_toArray, List.nil_append, List.cons_append]
  have hfn : ∀ k, Fence.wide.fn k := fun _ => trivial
  gi_wp2
  by_cases he : e0 = 0
  · subst he
    gi_loopw [3] (fun _ wr => ∃ pre : List Sg, Hid (RdI r t left en m B (nxt aft a0 pre) 0 wr) ∧ Hid (nxt aft a0 pre ≤ t.size) ∧ J pre wr) (fun _ wr => t.size + 1 - (intOf ((wr.cell? ⟨r, 4, none⟩).getD undef)).toNat)
    case atStart => exact ⟨[], HI0, Lib.hid ha0, hj0⟩
    case round =>
      clear hj0 HI0
      obtain ⟨pre, HI, HN, hj⟩ := hrel
      obtain ⟨c0, c1, c2, c3, c4, c5, f4, f5⟩ := HI.out.1.cells
      have b0 := HI.out.2.2.cell
      obtain ⟨a, ha⟩ : ∃ a, nxt aft a0 pre = a := ⟨_, rfl⟩
      rw [ha] at HI HN c4
      have HA := Lib.hid ha; clear ha
      have c5' : wr.cell? ⟨r, 5, none⟩ = some (.int .i64 0) := c5
      clear c5
      by_cases hse : t.data.toList[a]? = some en
      · have HSE := Lib.hid (decide_eq_true hse)
        have HD := Lib.hid (show RD wr.drew r t left en m (a : Int) ((0 : Nat) : Int) from HI.out.1)
        gi_wp2
        gi_region_with (first | (gi_at_call 83; refine (callsIn_wide.2 (sees_any r t left en m a 0 en _ HD.out hs)).mono ?_; rw [HSE.out]; rintro e w1 ⟨rfl, h1⟩; have HG1 := Lib.hid h1; clear h1))
        all_goals
          have HG2 := Lib.hid ((grewD wr none).trans HG1.out)
          gi_wp2
          go_end0
          exact ⟨⟨_, rfl⟩, .inl ⟨pre, .inr (.inl ⟨rfl, by rw [HA.out]; exact hse, by rw [HA.out]; exact HI.out.kept HG2.out (by simp) (by simp) (by simp)⟩), hJ _ _ _ hj (HG2.out.but _)⟩⟩
      · have HSE := Lib.hid (decide_eq_false hse)
        have HD := Lib.hid (show RD wr.drew r t left en m (a : Int) ((0 : Nat) : Int) from HI.out.1)
        have HX := Lib.hid hse
        clear hse
        cases hsg : signR left.data.toList t.data.toList a with
        | no p k =>
          have HSG := Lib.hid hsg; clear hsg
          gi_wp2
          gi_region_with (first | (gi_at_call 83; refine (callsIn_wide.2 (sees_any r t left en m a 0 en _ HD.out hs)).mono ?_; rw [HSE.out]; rintro e w1 ⟨rfl, h1⟩; have HG1 := Lib.hid h1; clear h1))
          all_goals
            have HG2 := Lib.hid ((grewD wr none).trans HG1.out)
            have HI1 := Lib.hid (HI.out.kept HG2.out (by simp) (by simp) (by simp))
            have b1 := HI1.out.2.2.cell
            gi_wp2_with (first | (gi_at_call 95; refine (callsIn_wide.2 (sign_any r t left en m 1004 a 0 _ HI1.out.1 HI1.out.2.1 hmr hs)).mono ?_; rw [HSG.out]; rintro e w2 ⟨⟨rfl, h1⟩, h2⟩; have HR2 := Lib.hid h1; have HG3 := Lib.hid h2; clear h1 h2))
            refine bodyPost_ret (v := .tuple #[]) (by simp [results, Tryd.results94]) rfl ?_
            exact ⟨⟨_, rfl⟩, .inl ⟨pre, .inr (.inr ⟨rfl, by rw [HA.out]; exact HX.out, p, k, by rw [HA.out]; exact HSG.out, HR2.out, HI1.out.2.1.kept HG3.out (by simpa using hmr), HI1.out.2.2.kept HG3.out (by simpa using hBr)⟩), hJ _ _ _ (hJ _ _ _ hj (HG2.out.but _)) HG3.out⟩⟩
        | ok b k =>
          have HSG := Lib.hid hsg
          have HKL := Lib.hid (signR_ok hsg); clear hsg
          gi_wp2
          gi_region_with (first | (gi_at_call 83; refine (callsIn_wide.2 (sees_any r t left en m a 0 en _ HD.out hs)).mono ?_; rw [HSE.out]; rintro e w1 ⟨rfl, h1⟩; have HG1 := Lib.hid h1; clear h1))
          all_goals
            have HG2 := Lib.hid ((grewD wr none).trans HG1.out)
            have HI1 := Lib.hid (HI.out.kept HG2.out (by simp) (by simp) (by simp))
            have b1 := HI1.out.2.2.cell
            gi_wp2_with (first | (gi_at_call 95; refine (callsIn_wide.2 (sign_any r t left en m 1004 a 0 _ HI1.out.1 HI1.out.2.1 hmr hs)).mono ?_; rw [HSG.out]; rintro e w2 ⟨⟨rfl, h1⟩, h2⟩; have HI2 := Lib.hid (show RdI r t left en m B k 0 w2 from ⟨h1, HI1.out.2.1.kept h2 (by simpa using hmr), HI1.out.2.2.kept h2 (by simpa using hBr)⟩); have hj2 := hJ _ _ _ (hJ _ _ _ hj (HG2.out.but _)) h2; clear h1 h2; obtain ⟨fn, tmps, assign, body, hy, hR⟩ := hY pre ⟨a, b, k⟩ w2 hj2 ⟨⟨rfl, HA.out.symm, HX.out, HSG.out⟩, HI2.out⟩))
            refine hR.mono ?_
            rintro e W3 (⟨rfl, hJ3, hk3⟩ | ⟨rfl, hJx3⟩)
            · have HK3 := Lib.hid (show RdI r t left en m B (aft b k) 0 W3 from by have h := hk3; unfold BkP at h; rwa [nxt_snoc] at h)
              have HM := Lib.hid (show t.size + 1 - (intOf ((W3.cell? ⟨r, 4, none⟩).getD undef)).toNat < t.size + 1 - (intOf ((wr.cell? ⟨r, 4, none⟩).getD undef)).toNat from by
                rw [HK3.out.1.cells.2.2.2.2.1, c4]
                have h1 := HKL.out; have h2 := haft b k (by have := sz_data t; omega); have := sz_data t
                simp only [Option.getD_some, intOf, Int.toNat_natCast]; omega)
              have HNN := Lib.hid (show nxt aft a0 (pre ++ [⟨a, b, k⟩]) = aft b k ∧ aft b k ≤ t.size from ⟨nxt_snoc _ _ _ _, (haft b k (by have h1 := HKL.out; have := sz_data t; omega)).2⟩)
              clear hk3
              gi_wp2
              exact ⟨⟨pre ++ [⟨a, b, k⟩], by rw [HNN.out.1]; exact HK3, Lib.hid (by rw [HNN.out.1]; exact HNN.out.2), hJ3⟩, HM.out⟩
            · gi_wp2
              refine bodyPost_ret (v := .tuple #[]) (by simp [results, Tryd.results94]) rfl ?_
              exact ⟨⟨_, rfl⟩, .inr ⟨_, hJx3⟩⟩
  · have HE := Lib.hid he
    have e1 : ((e0 : Int) == 0) = false := by simp; omega
    have e2 : ¬ (e0 : Int) = 0 := by omega
    gi_loopw [3] (fun _ wr => wr = W) (fun _ _ => 0)
    case atStart => rfl
    case round =>
      obtain rfl := hrel
      obtain ⟨c0, c1, c2, c3, c4, c5, f4, f5⟩ := HI0.out.1.cells
      have b0 := HI0.out.2.2.cell
      gi_wp2
      gi_region_with fail
      all_goals
        gi_wp2
        go_end0
        exact ⟨⟨_, rfl⟩, .inl ⟨[], .inl ⟨HE.out, rfl, HI0.out.kept (grewD wr none) (by simp) (by simp) (by simp)⟩, hJ _ _ _ hj0 ((grewD wr none).but _)⟩⟩
end Go.Proofs.YtpfokabdpmjobaaDoor
