/- The contract of span.Parse. -/
import Derived.Test.YtogmkekbdfckpaaDoorTc
namespace Go.Proofs.YtogmkekbdfckpaaDoor
open Go.RowKit Go.Shelf
set_option linter.unusedSimpArgs false
set_option linter.unusedVariables false

attribute [local go_sem] Oper.semAt_some

theorem blk1 {w : World} {b : Nat} {x : Value} {T : TypeId} (h : w.heap[b]? = some (.cells #[x] T (0, 0))) : w.cell? ⟨b, 0, none⟩ = some x ∧ w.frozen? ⟨b, 0, none⟩ = false := by
  simp [World.cell?, World.frozen?, h]

theorem store_fin {W : World} {H D : Nat} {p q r e : Value} (x y z u : Value) (hK : W.heap[D]? = some (.deferred (some []))) (i3 : W.heap[H]? = some (.cells #[p, q, r] 24 (0, 0))) (i4 : W.heap[H + 1]? = some (.cells #[e] 46 (0, 0))) :
    ((((W.setCell ⟨H, 0, none⟩ x).setCell ⟨H, 1, none⟩ y).setCell ⟨H, 2, none⟩ z).setCell ⟨H + 1, 0, none⟩ u).heap[H]? = some (.cells #[x, y, z] 24 (0, 0)) ∧
    ((((W.setCell ⟨H, 0, none⟩ x).setCell ⟨H, 1, none⟩ y).setCell ⟨H, 2, none⟩ z).setCell ⟨H + 1, 0, none⟩ u).heap[H + 1]? = some (.cells #[u] 46 (0, 0)) ∧
    ((((W.setCell ⟨H, 0, none⟩ x).setCell ⟨H, 1, none⟩ y).setCell ⟨H, 2, none⟩ z).setCell ⟨H + 1, 0, none⟩ u).heap[D]? = some (.deferred (some [])) ∧
    Below H W ((((W.setCell ⟨H, 0, none⟩ x).setCell ⟨H, 1, none⟩ y).setCell ⟨H, 2, none⟩ z).setCell ⟨H + 1, 0, none⟩ u) :=
  ⟨(Below.heap_setCell _ _ _ _ (by simp)).trans (heap_set (heap_set (heap_set i3))),
    heap_set ((Below.heap_setCell _ _ _ _ (by simp)).trans ((Below.heap_setCell _ _ _ _ (by simp)).trans ((Below.heap_setCell _ _ _ _ (by simp)).trans i4))),
    ((((KeepsOthers.setCell W _ _).trans (KeepsOthers.setCell _ _ _)).trans (KeepsOthers.setCell _ _ _)).trans (KeepsOthers.setCell _ _ _)).same D _ hK rfl,
    (set3b (Below.refl H W) (Nat.le_refl _)).setCell (p := ⟨H + 1, 0, none⟩) (by simp) _⟩

theorem store_fin0 {W : World} {H : Nat} {p q r e : Value} (x y z u : Value) (i3 : W.heap[H]? = some (.cells #[p, q, r] 24 (0, 0))) (i4 : W.heap[H + 1]? = some (.cells #[e] 46 (0, 0))) :
    ((((W.setCell ⟨H, 0, none⟩ x).setCell ⟨H, 1, none⟩ y).setCell ⟨H, 2, none⟩ z).setCell ⟨H + 1, 0, none⟩ u).heap[H]? = some (.cells #[x, y, z] 24 (0, 0)) ∧
    ((((W.setCell ⟨H, 0, none⟩ x).setCell ⟨H, 1, none⟩ y).setCell ⟨H, 2, none⟩ z).setCell ⟨H + 1, 0, none⟩ u).heap[H + 1]? = some (.cells #[u] 46 (0, 0)) ∧
    Below H W ((((W.setCell ⟨H, 0, none⟩ x).setCell ⟨H, 1, none⟩ y).setCell ⟨H, 2, none⟩ z).setCell ⟨H + 1, 0, none⟩ u) :=
  ⟨(Below.heap_setCell _ _ _ _ (by simp)).trans (heap_set (heap_set (heap_set i3))),
    heap_set ((Below.heap_setCell _ _ _ _ (by simp)).trans ((Below.heap_setCell _ _ _ _ (by simp)).trans ((Below.heap_setCell _ _ _ _ (by simp)).trans i4))),
    (set3b (Below.refl H W) (Nat.le_refl _)).setCell (p := ⟨H + 1, 0, none⟩) (by simp) _⟩
theorem set3h {W : World} {H b : Nat} {p q r : Value} {T : TypeId} (x y z : Value) (hb : H ≤ b) (i : W.heap[b]? = some (.cells #[p, q, r] T (0, 0))) :
    (((W.setCell ⟨b, 0, none⟩ x).setCell ⟨b, 1, none⟩ y).setCell ⟨b, 2, none⟩ z).heap[b]? = some (.cells #[x, y, z] T (0, 0)) ∧
    (∀ k, k ≠ b → (((W.setCell ⟨b, 0, none⟩ x).setCell ⟨b, 1, none⟩ y).setCell ⟨b, 2, none⟩ z).heap[k]? = W.heap[k]?) ∧
    Below H W (((W.setCell ⟨b, 0, none⟩ x).setCell ⟨b, 1, none⟩ y).setCell ⟨b, 2, none⟩ z) :=
  ⟨heap_set (heap_set (heap_set i)), fun k hk => (Below.heap_setCell _ _ _ _ hk).trans ((Below.heap_setCell _ _ _ _ hk).trans (Below.heap_setCell _ _ _ _ hk)), set3b (Below.refl H W) hb⟩
theorem own_put {V : World} {B D : Nat} {C : Option Addr} {n c : Nat} {l : List Cap} (h : OwnCaps V B (.slice C n c) l) (hK : V.heap[D]? = some (.deferred (some []))) : OwnCaps (V.putObj D (.deferred none)) B (.slice C n c) l := by
  refine World.ownsRow.kept h (grownBy_putObj' V D _) ?_
  cases hv : Value.ownBlock (.slice C n c) with
  | none => exact .inl rfl
  | some g =>
    refine .inr (fun e => ?_)
    injection e with e
    subst e
    rcases h.2 with ⟨hx, _⟩ | ⟨g', cap, cur, hx, _, hh, _⟩
    · rw [hx] at hv; cases hv
    · rw [hx] at hv
      have hv : g' = g := by simpa [Value.ownBlock] using hv
      subst hv; rw [hh] at hK; cases hK

/-- What is known between two rounds: H the number of the first box. -/
def PInv (H : Nat) (w0 : World) (pre : List Line) (W : World) : Prop := ∃ (row : Nat) (o : Outc) (C : Option Addr) (cp : Nat),
  strict (pre.map lineOf) = some (row, o) ∧ row ≤ 65537 ∧
  W.heap[H]? = some (.cells #[.bool false, .int .i64 0, .slice none 0 0] 24 (0, 0)) ∧ W.heap[H + 1]? = some (.cells #[.int .i64 0] 46 (0, 0)) ∧
  W.heap[H + 2]? = some (.cells #[.bool o.ok, .int .i64 o.to, .slice C o.caps.length cp] 24 (0, 0)) ∧ W.heap[H + 3]? = some (.cells #[.int .i64 row] 3 (0, 0)) ∧
  OwnCaps W (H + 4) (.slice C o.caps.length cp) o.caps ∧ (∀ c ∈ o.caps, c.name.size ≤ 281474976710656) ∧ Below H w0 W
/-- A round has left. -/
def PEnd (H : Nat) (w0 : World) (c : Code) (pre : List Line) (W : World) : Prop :=
  c = .ret ∧ strict (pre.map lineOf) = none ∧ W.heap[H]? = some (.cells #[.bool false, .int .i64 0, .slice none 0 0] 24 (0, 0)) ∧ W.heap[H + 1]? = some (.cells #[.int .i64 4] 46 (0, 0)) ∧ Below H w0 W

set_option maxRecDepth 100000 in
set_option maxHeartbeats 2000000 in
theorem parse_in (n : Nat) (hn : 3 ≤ n) (s : ByteArray) (hs : s.size ≤ 134217728) (w : World) :
    CallsIn Fence.wide n Tryd.prog 33 #[.string s] w (ParsePost w (parseO s.data.toList)) := by
  have h1 : 1 ≤ n := by omega
  have hfn : ∀ k, Fence.wide.fn k := fun _ => trivial
  have h12 : 1 ≤ n - 1 - 1 := by omega
  refine callsIn_of_wp_marks Tryd.func33 rfl trivial ?_ rfl
  simp only [Tryd.ntmps33, List.size_toArray, List.length_cons, List.length_nil, Nat.reduceAdd, Nat.reduceSub, Array.replicate_succ, Array.replicate_zero, List.push_toArray, List.append_toArray, List.nil_append, List.cons_append]
  gi_wp2_with (first | (gi_at_call 45; refine (lines_in _ _ trivial rfl _ _).mono ?_; rintro e w' ⟨rfl, rfl⟩))
  generalize hW : (((((w.alloc (.cells #[.bool false, .int .i64 0, .slice none 0 0] 24)).alloc (.cells #[.int .i64 0] 46)).alloc (.cells #[.bool false, .int .i64 0, .slice none 0 0] 24)).alloc (.cells #[.int .i64 0] 3)).alloc (.cells #[.string s] 9)) = W0
  have hWz : W0.heap.size = w.heap.size + 5 := by rw [← hW]; simp
  have HS := Lib.hid (show W0.cell? ⟨w.heap.size + 4, 0, none⟩ = some (.string s) by
    rw [← hW]
    have h := (cell_new1 ((((w.alloc (.cells #[.bool false, .int .i64 0, .slice none 0 0] 24)).alloc (.cells #[.int .i64 0] 46)).alloc (.cells #[.bool false, .int .i64 0, .slice none 0 0] 24)).alloc (.cells #[.int .i64 0] 3)) (.string s) 9)
    simpa using h)
  have H0 := Lib.hid (show PInv w.heap.size w [] W0 by
    refine ⟨0, ⟨false, 0, []⟩, none, 0, rfl, by omega, ?_, ?_, ?_, ?_, World.ownsRow_nil _ _ _ _, by simp, ?_⟩
    · rw [← hW]; exact heap_alloc_old (heap_alloc_old (heap_alloc_old (heap_alloc_old (heap_alloc_new _ _))))
    · rw [← hW]; have h := heap_alloc_new (w.alloc (.cells #[.bool false, .int .i64 0, .slice none 0 0] 24)) (.cells #[.int .i64 0] 46); exact heap_alloc_old (heap_alloc_old (heap_alloc_old (by simpa using h)))
    · rw [← hW]; have h := heap_alloc_new ((w.alloc (.cells #[.bool false, .int .i64 0, .slice none 0 0] 24)).alloc (.cells #[.int .i64 0] 46)) (.cells #[.bool false, .int .i64 0, .slice none 0 0] 24); exact heap_alloc_old (heap_alloc_old (by simpa using h))
    · rw [← hW]; have h := heap_alloc_new (((w.alloc (.cells #[.bool false, .int .i64 0, .slice none 0 0] 24)).alloc (.cells #[.int .i64 0] 46)).alloc (.cells #[.bool false, .int .i64 0, .slice none 0 0] 24)) (.cells #[.int .i64 0] 3); exact heap_alloc_old (by simpa using h)
    · rw [← hW]; exact ((box3 w _ _ _).alloc (by simp; omega) _).alloc (by simp; omega) _)
  clear hW
  refine wpIn_rangeFunc_ownG rfl h1 (gf := 56) (lb := #[.pointer (some ⟨w.heap.size + 1 + 1 + 1 + 1, 0, none⟩)]) rfl trivial (enters_of Tryd.func56 (by kernel_rfl) rfl)
    (lines_stops (n - 1) (by omega) (w.heap.size + 4) s (by omega) W0 (by omega) HS.out) (fun h k => Nat.le_trans h k) (fun W l o o' _ _ _ _ => by simp [SizeK]) (Below.refl _ _) (fun _ => rfl)
    (fun pre W => PInv w.heap.size w pre W) (fun c pre W => PEnd w.heap.size w c pre W)
    ?hI ?hIx ?h0
    (fun x => { tmps := #[.string s, undef, .pointer (some ⟨w.heap.size, 0, none⟩), .pointer (some ⟨w.heap.size + 1, 0, none⟩), .pointer (some ⟨w.heap.size + 1 + 1, 0, none⟩), .pointer (some ⟨w.heap.size + 1 + 1 + 1, 0, none⟩), .string x.1.1, .bool x.1.2, undef, undef, .string s, .func (.func 56) #[] #[.pointer (some ⟨w.heap.size + 1 + 1 + 1 + 1, 0, none⟩)], .string x.1.1, .bool x.1.2, undef, undef, undef, undef, undef, undef, undef, undef, undef, undef, undef, undef, undef, undef, undef, undef, undef, undef, undef, undef, undef, undef, undef, undef, undef, undef, undef, undef, undef, undef, undef, undef, undef, undef, undef, undef, undef, undef, undef, undef, undef], defers := [] }) ?assign ?body ?done ?stop
  case hI =>
    intro pre A B rw_ hs hg hr
    obtain ⟨row, o, C, cp, i1, i2, i3, i4, i5, i6, i7, i8, i9⟩ := hs
    have hne : ∀ k, k < w.heap.size + 5 → some k ≠ rw_ := fun k hk e => by have := (hr k e.symm).1; omega
    refine ⟨row, o, C, cp, i1, i2, (hg.block _ (heap_lt i3) (hne _ (by omega))).trans i3, (hg.block _ (heap_lt i4) (hne _ (by omega))).trans i4, (hg.block _ (heap_lt i5) (hne _ (by omega))).trans i5, (hg.block _ (heap_lt i6) (hne _ (by omega))).trans i6, World.ownsRow.kept i7 hg ?_, i8, ?_⟩
    · cases hv : Value.ownBlock (.slice C o.caps.length cp) with
      | none => exact .inl rfl
      | some g =>
        refine .inr (fun e => ?_)
        obtain ⟨_, ob, ho, hc⟩ := hr g e.symm
        rcases i7.2 with ⟨hx, _⟩ | ⟨g', cap, cur, hx, _, hh, _⟩
        · rw [hx] at hv; cases hv
        · rw [hx] at hv
          have hv : g' = g := by simpa [Value.ownBlock] using hv
          subst hv; rw [hh] at ho; injection ho with ho; subst ho; cases hc
    · exact i9.grown hg i9.size (fun k e => by have := (hr k e).1; omega)
  case hIx =>
    intro c pre A B rw_ hs hg hr
    obtain ⟨i1, i2, i3, i4, i5⟩ := hs
    have hne : ∀ k, k < w.heap.size + 5 → some k ≠ rw_ := fun k hk e => by have := (hr k e.symm).1; omega
    exact ⟨i1, i2, (hg.block _ (heap_lt i3) (hne _ (by omega))).trans i3, (hg.block _ (heap_lt i4) (hne _ (by omega))).trans i4, i5.grown hg i5.size (fun k e => by have := (hr k e).1; omega)⟩
  case h0 => exact H0.out
  case assign =>
    intro l x W K hK
    gi_wp2
    exact hK
  case body =>
    rintro l pre ⟨⟨x, f⟩, hx⟩ W ⟨row, o, C, cp, i1, i2, i3, i4, i5, i6, i7, i8, i9⟩ _
    simp only at hx
    obtain ⟨a1, a2, a3, a4, a5, a6⟩ := blk3 i3
    obtain ⟨b1, b4⟩ := blk1 i4
    obtain ⟨c1, c2, c3, c4, c5, c6⟩ := blk3 i5
    obtain ⟨d1, d4⟩ := blk1 i6
    have I1 := Lib.hid i1; have I3 := Lib.hid i3; have I4 := Lib.hid i4; have I5 := Lib.hid i5; have I6 := Lib.hid i6; have I7 := Lib.hid i7; have I8 := Lib.hid i8; have I9 := Lib.hid i9
    clear i1 i3 i4 i5 i6 i7 i8 i9
    have HSN := Lib.hid (show strict ((pre ++ [(⟨(x, f), hx⟩ : Line)]).map lineOf) = stepP (some (row, o)) (x.data.toList, f) by rw [List.map_append, List.map_cons, List.map_nil, strict_snoc, I1.out]; rfl)
    cases f
    · have HN := Lib.hid (show strict ((pre ++ [(⟨(x, false), hx⟩ : Line)]).map lineOf) = none by rw [HSN.out]; simp [stepP])
      gi_wp2
      obtain ⟨m1, m2, mB⟩ := store_fin0 (.bool false) (.int .i64 0) (.slice none 0 0) (.int .i64 4) I3.out I4.out
      exact ⟨((((KeepsOthers.setCell W _ _).trans (KeepsOthers.setCell _ _ _)).trans (KeepsOthers.setCell _ _ _)).trans (KeepsOthers.setCell _ _ _)).from _, ⟨rfl, HN.out, m1, m2, I9.out.trans mB⟩⟩
    · by_cases hr : row ≤ 65536
      · by_cases h0 : row = 0
        · subst h0
          have HO0 := Lib.hid (show o = ⟨false, 0, []⟩ by
            rcases (strict_text _ _ _ I1.out).2.2 with ⟨_, h⟩ | ⟨h, _⟩
            · exact h
            · exact absurd rfl h)
          have hh := fun w => head_any x w hx
          have HCP := Lib.hid (head_caps x.data.toList)
          have HST := Lib.hid (show stepP (some (0, o)) (x.data.toList, true) = (if (headL x.data.toList).2 = true then some (1, (headL x.data.toList).1) else none) by simp [stepP])
          rw [HST.out] at HSN
          clear HST
          generalize headL x.data.toList = R at hh HCP HSN
          obtain ⟨⟨hk, ht, hl⟩, hb⟩ := R
          have hl0 : hl = [] := HCP.out
          subst hl0
          have HH := Lib.hid hh
          clear hh
          unfold HeadPost at HH
          simp only at HH HSN
          cases hb
          · have HN := Lib.hid (show strict ((pre ++ [(⟨(x, true), hx⟩ : Line)]).map lineOf) = none by rw [HSN.out]; rfl)
            gi_wp2_with (first | (gi_at_call 46; refine (CallsIn.inRound l (callsIn_wide.2 (HH.out _))).mono ?_; rintro e w2 ⟨rfl, hb2⟩; have J3 := Lib.hid ((hb2.block _ (heap_lt I3.out)).trans I3.out); have J4 := Lib.hid ((hb2.block _ (heap_lt I4.out)).trans I4.out); have J5 := Lib.hid ((hb2.block _ (heap_lt I5.out)).trans I5.out); have J6 := Lib.hid ((hb2.block _ (heap_lt I6.out)).trans I6.out); have JB := Lib.hid (I9.out.trans (hb2.mono I9.out.size)); have JK := Lib.hid (keepsOthers_below hb2); have JZ := Lib.hid hb2.size; obtain ⟨q1, q2, q3, q4, q5, q6⟩ := blk3 J3.out; obtain ⟨r1, r2⟩ := blk1 J4.out; obtain ⟨t1, t2, t3, t4, t5, t6⟩ := blk3 J5.out; obtain ⟨u1, u2⟩ := blk1 J6.out; clear hb2))
            obtain ⟨p5, pf, pB⟩ := set3h (W := w2) (H := w.heap.size) (b := w.heap.size + 2) (.bool hk) (.int .i64 ht) (.slice none 0 0) (by omega) J5.out
            obtain ⟨m1, m2, mB⟩ := store_fin0 (.bool false) (.int .i64 0) (.slice none 0 0) (.int .i64 4) ((pf _ (by omega)).trans J3.out) ((pf _ (by omega)).trans J4.out)
            exact ⟨(((((JK.out.trans (KeepsOthers.setCell _ _ _)).trans (KeepsOthers.setCell _ _ _)).trans (KeepsOthers.setCell _ _ _)).trans ((((KeepsOthers.setCell _ _ _).trans (KeepsOthers.setCell _ _ _)).trans (KeepsOthers.setCell _ _ _)).trans (KeepsOthers.setCell _ _ _)))).from _, ⟨rfl, HN.out, m1, m2, (JB.out.trans pB).trans mB⟩⟩
          · have HN := Lib.hid (show strict ((pre ++ [(⟨(x, true), hx⟩ : Line)]).map lineOf) = some (1, ⟨hk, ht, []⟩) by rw [HSN.out]; rfl)
            gi_wp2_with (first | (gi_at_call 46; refine (CallsIn.inRound l (callsIn_wide.2 (HH.out _))).mono ?_; rintro e w2 ⟨rfl, hb2⟩; have J3 := Lib.hid ((hb2.block _ (heap_lt I3.out)).trans I3.out); have J4 := Lib.hid ((hb2.block _ (heap_lt I4.out)).trans I4.out); have J5 := Lib.hid ((hb2.block _ (heap_lt I5.out)).trans I5.out); have J6 := Lib.hid ((hb2.block _ (heap_lt I6.out)).trans I6.out); have JB := Lib.hid (I9.out.trans (hb2.mono I9.out.size)); have JK := Lib.hid (keepsOthers_below hb2); have JZ := Lib.hid hb2.size; obtain ⟨q1, q2, q3, q4, q5, q6⟩ := blk3 J3.out; obtain ⟨r1, r2⟩ := blk1 J4.out; obtain ⟨t1, t2, t3, t4, t5, t6⟩ := blk3 J5.out; obtain ⟨u1, u2⟩ := blk1 J6.out; clear hb2))
            obtain ⟨p5, pf, pB⟩ := set3h (W := w2) (H := w.heap.size) (b := w.heap.size + 2) (.bool hk) (.int .i64 ht) (.slice none 0 0) (by omega) J5.out
            exact ⟨((((JK.out.trans (KeepsOthers.setCell _ _ _)).trans (KeepsOthers.setCell _ _ _)).trans (KeepsOthers.setCell _ _ _)).trans (KeepsOthers.setCell _ _ _)).from _, Nat.le_trans JZ.out (by simp [World.setCell]),
              ⟨1, ⟨hk, ht, []⟩, none, 0, HN.out, by omega, (Below.heap_setCell _ _ _ _ (by first | (simp; done) | (simp; omega))).trans ((pf _ (by omega)).trans J3.out), (Below.heap_setCell _ _ _ _ (by first | (simp; done) | (simp; omega))).trans ((pf _ (by omega)).trans J4.out), (Below.heap_setCell _ _ _ _ (by simp)).trans p5, heap_set ((pf _ (by omega)).trans J6.out), World.ownsRow_nil _ _ _ _, by simp, (JB.out.trans pB).setCell (p := ⟨w.heap.size + 3, 0, none⟩) (by simp) _⟩⟩
        · have e0 : ((row : Int) == 0) = false := by simp only [beq_eq_false_iff_ne]; omega
          have e1 : (row : Int) ≤ 65536 := by omega
          have hh := fun w => capture_any x w hx
          have HST := Lib.hid (show stepP (some (row, o)) (x.data.toList, true) = (if (capL x.data.toList).2 = true then some (row + 1, ⟨o.ok, o.to, o.caps ++ [capOf (capL x.data.toList).1]⟩) else none) by simp only [stepP]; rw [if_pos ⟨trivial, hr⟩, if_neg h0])
          rw [HST.out] at HSN
          clear HST
          have hnz : (capL x.data.toList).1.1.length ≤ x.size := by have := (cut1_len 32 x.data.toList).1; rw [sz_data] at this; exact this
          generalize capL x.data.toList = R at hh HSN hnz
          obtain ⟨⟨nm, fr, tt⟩, cb⟩ := R
          simp only at hnz
          have HH := Lib.hid hh
          clear hh
          unfold CapPost at HH
          simp only at HH HSN
          have hcl : o.caps.length ≤ 65536 := by
            rcases (strict_text _ _ _ I1.out).2.2 with ⟨h, _⟩ | ⟨_, h, _⟩
            · exact absurd h h0
            · omega
          obtain ⟨i0, hi, hz0, hz1, hz2⟩ := info_parts infoCap
          have hzc : (Value.agg #[.string ByteArray.empty, .int .i64 0, .int .i64 0]).cells.size = 3 := rfl
          have hob : ∀ g, Value.ownBlock (.slice C o.caps.length cp) = some g → g < W.heap.size := fun g e => (World.ownsRow.lt I7.out g e).2
          have hWz : w.heap.size + 3 < W.heap.size := heap_lt I6.out
          gi_wp2
          refine (CallsIn.inRound l (callsIn_wide.2 (HH.out _))).mono ?_
          rintro e w2 ⟨own, rfl, hown, hb2⟩
          have HOWN := Lib.hid hown
          have hz2w : W.heap.size < w2.heap.size := by have := hb2.size; simp at this; omega
          have KC := Lib.hid ((hb2.block W.heap.size (by simp)).trans (heap_alloc_new W _))
          have J3 := Lib.hid ((hb2.block _ (by simp; omega)).trans (heap_alloc_old I3.out))
          have J4 := Lib.hid ((hb2.block _ (by simp; omega)).trans (heap_alloc_old I4.out))
          have J5 := Lib.hid ((hb2.block _ (by simp; omega)).trans (heap_alloc_old I5.out))
          have J6 := Lib.hid ((hb2.block _ (by simp; omega)).trans (heap_alloc_old I6.out))
          have J7 := Lib.hid (show OwnCaps w2 (w.heap.size + 4) (.slice C o.caps.length cp) o.caps from World.ownsRow.kept (row := none) (World.ownsRow.alloc I7.out _) (grown_below hb2 none) (by cases h : Value.ownBlock (.slice C o.caps.length cp) <;> simp))
          have JB := Lib.hid ((I9.out.alloc I9.out.size _).trans (hb2.mono (by have := I9.out.size; simp; omega)))
          have JK := Lib.hid ((KeepsOthers.alloc W _).trans (keepsOthers_below hb2))
          clear hown hb2
          obtain ⟨q1, q2, q3, q4, q5, q6⟩ := blk3 J3.out
          obtain ⟨r1, r2⟩ := blk1 J4.out
          obtain ⟨t1, t2, t3, t4, t5, t6⟩ := blk3 J5.out
          obtain ⟨u1, u2⟩ := blk1 J6.out
          obtain ⟨v1, v2, v3, v4, v5, v6⟩ := blk3 KC.out
          obtain ⟨p5, pf, pB⟩ := set3h (W := w2) (H := w.heap.size) (b := W.heap.size) (.string own) (.int .i64 fr) (.int .i64 tt) (by omega) KC.out
          have HO3 := Lib.hid (show ((((w2.setCell ⟨W.heap.size, 0, none⟩ (.string own)).setCell ⟨W.heap.size, 1, none⟩ (.int .i64 fr)).setCell ⟨W.heap.size, 2, none⟩ (.int .i64 tt))).ownsRow (w.heap.size + 4) 33 3 (.slice C o.caps.length cp) o.caps.length (cellsOf o.caps) from
            World.ownsRow.kept (row := some W.heap.size) J7.out ⟨rfl, rfl, rfl, by simp [World.setCell], fun k _ hk => pf k (fun e => hk (by rw [e]))⟩ (by
              cases h : Value.ownBlock (.slice C o.caps.length cp) with
              | none => exact .inl rfl
              | some g => exact .inr (fun e => by injection e with e; have := hob g h; omega)))
          have HPF := Lib.hid pf; have HPB := Lib.hid pB
          have HZ3 := Lib.hid (show ((((w2.setCell ⟨W.heap.size, 0, none⟩ (.string own)).setCell ⟨W.heap.size, 1, none⟩ (.int .i64 fr)).setCell ⟨W.heap.size, 2, none⟩ (.int .i64 tt))).heap.size = w2.heap.size by simp [World.setCell])
          clear p5 pf pB
          have hrow := (row_new3 ((((w2.setCell ⟨W.heap.size, 0, none⟩ (.string own)).setCell ⟨W.heap.size, 1, none⟩ (.int .i64 fr)).setCell ⟨W.heap.size, 2, none⟩ (.int .i64 tt))) (.string own) (.int .i64 fr) (.int .i64 tt) 33)
          rw [HZ3.out] at hrow
          have HROW := Lib.hid hrow; clear hrow
          have HCO := Lib.hid (show (⟨own, fr, tt⟩ : Cap) = capOf (nm, fr, tt) by simp only [capOf, ← HOWN.out, ba_eta])
          gi_wp2_with (first | (gi_at_builtin; refine wpListIn_append_own _ rfl (.tmp 25) (.tmp 27) _ rfl (w.heap.size + 4) 33 i0 _ 3 32 Tryd.underlying22 hi hz0 hz1 hz2 hzc (by decide) _ _ _ rfl (World.ownsRow.alloc HO3.out _) ⟨w2.heap.size, 0, none⟩ 1 1 (cellsOf [⟨own, fr, tt⟩]) rfl rfl ?_ (cellsOf_one _) ?_ ?_ ?_ ?_))
          · intro j u hu
            obtain ⟨_, e, h⟩ := HROW.out j u hu
            cases e
            exact h
          · unfold maxLen; omega
          · omega
          · rw [World.size_alloc, HZ3.out]; omega
          intro v3 w4 hown4 hgrow4 _
          obtain ⟨C4, c4', rfl⟩ := ownsRow_slice hown4
          have hno : ∀ k, k < w.heap.size + 4 → some k ≠ Value.ownBlock (.slice C o.caps.length cp) := fun k hk e => by have := (World.ownsRow.lt I7.out k e.symm).1; omega
          have hz4 : w2.heap.size ≤ w4.heap.size := by have := hgrow4.size; rw [World.size_alloc, HZ3.out] at this; omega
          have KK := Lib.hid (show ∀ k, k < w.heap.size + 4 → w4.heap[k]? = w2.heap[k]? from fun k hk => (hgrow4.block k (by rw [World.size_alloc, HZ3.out]; omega) (hno k hk)).trans ((Below.heap_alloc _ _ _ (by rw [HZ3.out]; omega)).trans (HPF.out k (by omega))))
          have K3 := Lib.hid ((KK.out _ (by omega)).trans J3.out)
          have K4 := Lib.hid ((KK.out _ (by omega)).trans J4.out)
          have K5 := Lib.hid ((KK.out _ (by omega)).trans J5.out)
          have K6 := Lib.hid ((KK.out _ (by omega)).trans J6.out)
          have KB := Lib.hid ((((JB.out.trans HPB.out).alloc (by rw [HZ3.out]; omega) (.cells #[.string own, .int .i64 fr, .int .i64 tt] 33)).grown hgrow4 (by rw [World.size_alloc, HZ3.out]; omega) (fun k e => by have := (World.ownsRow.lt I7.out k e).1; omega)))
          have KO := Lib.hid ((((JK.out.trans (KeepsOthers.setCell _ _ _)).trans (KeepsOthers.setCell _ _ _)).trans (KeepsOthers.setCell _ _ _)).trans ((KeepsOthers.alloc _ (.cells #[.string own, .int .i64 fr, .int .i64 tt] 33)).trans (KeepsOthers.of_grownBy hgrow4 (fun j ob e ho => by
            have ha := World.ownsRow.alloc HO3.out (.cells #[.string own, .int .i64 fr, .int .i64 tt] 33)
            rcases ha.2 with ⟨hv, _⟩ | ⟨g, cap, cur, hv, _, hh, _⟩
            · rw [hv] at e; cases e
            · rw [hv] at e
              have e : g = j := by simpa [Value.ownBlock] using e
              subst e; rw [hh] at ho; injection ho with ho; subst ho; rfl))))
          have KW := Lib.hid (show OwnCaps w4 (w.heap.size + 4) (.slice C4 (o.caps ++ [(⟨own, fr, tt⟩ : Cap)]).length c4') (o.caps ++ [(⟨own, fr, tt⟩ : Cap)]) by unfold OwnCaps; rw [cellsOf_append, List.length_append]; exact hown4)
          have hoz : own.size ≤ 281474976710656 := by rw [← sz_data, HOWN.out]; omega
          have HLC := Lib.hid (show (o.caps ++ [(⟨own, fr, tt⟩ : Cap)]).length = o.caps.length + 1 by simp)
          clear hown4 hgrow4 hno q1 q2 q3 q4 q5 q6 r1 r2 t1 t2 t3 t4 t5 t6 u1 u2 v1 v2 v3 v4 v5 v6
          obtain ⟨q1, q2, q3, q4, q5, q6⟩ := blk3 K3.out
          obtain ⟨r1, r2⟩ := blk1 K4.out
          obtain ⟨t1, t2, t3, t4, t5, t6⟩ := blk3 K5.out
          obtain ⟨u1, u2⟩ := blk1 K6.out
          cases cb
          · have HN := Lib.hid (show strict ((pre ++ [(⟨(x, true), hx⟩ : Line)]).map lineOf) = none by rw [HSN.out]; rfl)
            gi_wp2
            obtain ⟨m1, m2, mB⟩ := store_fin0 (.bool false) (.int .i64 0) (.slice none 0 0) (.int .i64 4) ((Below.heap_setCell w4 ⟨w.heap.size + 2, 2, none⟩ (.slice C4 (o.caps.length + 1) c4') w.heap.size (by simp)).trans K3.out) ((Below.heap_setCell w4 ⟨w.heap.size + 2, 2, none⟩ (.slice C4 (o.caps.length + 1) c4') (w.heap.size + 1) (by simp)).trans K4.out)
            exact ⟨((KO.out.trans (KeepsOthers.setCell _ _ _)).trans ((((KeepsOthers.setCell _ _ _).trans (KeepsOthers.setCell _ _ _)).trans (KeepsOthers.setCell _ _ _)).trans (KeepsOthers.setCell _ _ _))).from _, ⟨rfl, HN.out, m1, m2, (KB.out.setCell (p := ⟨w.heap.size + 2, 2, none⟩) (by simp) _).trans mB⟩⟩
          · have HN := Lib.hid (show strict ((pre ++ [(⟨(x, true), hx⟩ : Line)]).map lineOf) = some (row + 1, ⟨o.ok, o.to, o.caps ++ [(⟨own, fr, tt⟩ : Cap)]⟩) by rw [HSN.out, HCO.out]; rfl)
            gi_wp2
            exact ⟨((KO.out.trans (KeepsOthers.setCell _ _ _)).trans (KeepsOthers.setCell _ _ _)).from _, Nat.le_trans (show W.heap.size ≤ w4.heap.size by omega) (by simp [World.setCell]),
              ⟨row + 1, ⟨o.ok, o.to, o.caps ++ [(⟨own, fr, tt⟩ : Cap)]⟩, C4, c4', HN.out, by omega, (Below.heap_setCell _ _ _ _ (by first | (simp; done) | (simp; omega) | omega)).trans ((Below.heap_setCell _ _ _ _ (by first | (simp; done) | (simp; omega) | omega)).trans K3.out), (Below.heap_setCell _ _ _ _ (by first | (simp; done) | (simp; omega) | omega)).trans ((Below.heap_setCell _ _ _ _ (by first | (simp; done) | (simp; omega) | omega)).trans K4.out),
                (Below.heap_setCell _ _ _ _ (by first | (simp; done) | (simp; omega) | omega)).trans (by show _ = some (Obj.cells #[_, _, .slice C4 (o.caps ++ [(⟨own, fr, tt⟩ : Cap)]).length c4'] _ _); rw [HLC.out]; exact heap_set K5.out),
                by rw [show ((row + 1 : Nat) : Int) = (row : Int) + 1 by omega]; exact heap_set ((Below.heap_setCell _ _ _ _ (by first | (simp; done) | (simp; omega) | omega)).trans K6.out),
                (KW.out.set (a := ⟨w.heap.size + 2, 2, none⟩) (by simp) _).set (a := ⟨w.heap.size + 3, 0, none⟩) (by simp) _,
                fun y hy => by
                  rcases List.mem_append.1 hy with hy | hy
                  · exact I8.out y hy
                  · simp only [List.mem_singleton] at hy; subst hy; exact hoz,
                (KB.out.setCell (p := ⟨w.heap.size + 2, 2, none⟩) (by simp) _).setCell (p := ⟨w.heap.size + 3, 0, none⟩) (by simp) _⟩⟩
      · have HN := Lib.hid (show strict ((pre ++ [(⟨(x, true), hx⟩ : Line)]).map lineOf) = none by rw [HSN.out]; simp only [stepP]; rw [if_neg (by intro h; exact hr h.2)])
        have e1 : ¬ (row : Int) ≤ 65536 := by omega
        gi_wp2
        obtain ⟨m1, m2, mB⟩ := store_fin0 (.bool false) (.int .i64 0) (.slice none 0 0) (.int .i64 4) I3.out I4.out
        exact ⟨((((KeepsOthers.setCell W _ _).trans (KeepsOthers.setCell _ _ _)).trans (KeepsOthers.setCell _ _ _)).trans (KeepsOthers.setCell _ _ _)).from _, ⟨rfl, HN.out, m1, m2, I9.out.trans mB⟩⟩
  case done =>
    rintro D xs W hD hT ⟨row, o, C, cp, i1, i2, i3, i4, i5, i6, i7, i8, i9⟩ hK
    have HST := Lib.hid (show strict (seqL s.data.toList) = some (row, o) by unfold Told at hT; rw [hT, seqL_nil, List.append_nil]; exact i1)
    obtain ⟨a1, a2, a3, a4, a5, a6⟩ := blk3 i3
    obtain ⟨b1, b4⟩ := blk1 i4
    obtain ⟨c1, c2, c3, _, _, _⟩ := blk3 i5
    obtain ⟨d1, _⟩ := blk1 i6
    have I3 := Lib.hid i3; have I4 := Lib.hid i4; have I5 := Lib.hid i5; have I7 := Lib.hid i7; have I8 := Lib.hid i8; have I9 := Lib.hid i9; have HK := Lib.hid hK
    have hlen : o.caps.length ≤ 281474976710656 := by
      have h := (strict_text _ _ _ i1).2.2
      rcases h with ⟨_, rfl⟩ | ⟨_, h, _⟩
      · simp
      · omega
    clear i1 i3 i4 i5 i6 i7 i8 i9 hK hT
    by_cases h0 : row = 0
    · subst h0
      have HN := Lib.hid (strict_none (s := s.data.toList) (fun row' o' h hne => by rw [HST.out] at h; injection h with h; injection h with h _; exact absurd h.symm hne))
      gi_wp2
      obtain ⟨m1, m2, mK, mB⟩ := store_fin (.bool false) (.int .i64 0) (.slice none 0 0) (.int .i64 4) HK.out I3.out I4.out
      generalize ((((W.setCell ⟨w.heap.size, 0, none⟩ (.bool false)).setCell ⟨w.heap.size, 1, none⟩ (.int .i64 0)).setCell ⟨w.heap.size, 2, none⟩ (.slice none 0 0)).setCell ⟨w.heap.size + 1, 0, none⟩ (.int .i64 4)) = V at *
      have hg := grownBy_putObj' V D (.deferred none)
      have hne : ∀ r, some r = some D → ∃ ob : Obj, V.heap[r]? = some ob ∧ ob.isCells = false := fun r e => by cases e; exact ⟨_, mK, rfl⟩
      obtain ⟨n1, n2, n3, _, _, _⟩ := blk3 m1
      have k1 := cell_kept n1 hg (fun r e => hne r e.symm)
      have k2 := cell_kept n2 hg (fun r e => hne r e.symm)
      have k3 := cell_kept n3 hg (fun r e => hne r e.symm)
      have k4 := cell_kept (blk1 m2).1 hg (fun r e => hne r e.symm)
      refine ⟨by simp, .inl ⟨_, _, rfl, run_takeDeferred mK, ?_⟩⟩
      refine ⟨.tuple #[outV none 0 ⟨false, 0, []⟩, .int .i64 4], ?_, ?_⟩
      · simp [results, Tryd.f33, go_sem, k1, k2, k3, k4]
      · unfold ParsePost; rw [HN.out]
        exact ⟨_, rfl, OutOwn.fail _ _, ((I9.out.trans mB).grown hg (I9.out.trans mB).size (fun k e => by cases e; omega))⟩
    · have e0 : ((row : Int) == 0) = false := by simp only [beq_eq_false_iff_ne]; omega
      cases hm : mayO o 4096
      · have HM := Lib.hid hm
        have HN := Lib.hid (strict_none (s := s.data.toList) (fun row' o' h _ => by rw [HST.out] at h; injection h with h; injection h with _ h; subst h; exact hm))
        clear hm
        gi_wp2_with (first | (gi_at_call 13; refine (callsIn_wide.2 (smay_any o 4096 C cp _ (OwnCaps.row I7.out) I8.out hlen)).mono ?_; rintro e w2 ⟨he, hb2⟩; rw [HM.out] at he; subst he; have J3 := Lib.hid ((hb2.block _ (heap_lt I3.out)).trans I3.out); have J4 := Lib.hid ((hb2.block _ (heap_lt I4.out)).trans I4.out); have J5 := Lib.hid ((hb2.block _ (heap_lt I5.out)).trans I5.out); have JK := Lib.hid ((hb2.block _ (heap_lt HK.out)).trans HK.out); have JB := Lib.hid (I9.out.trans (hb2.mono I9.out.size)); have J7 := Lib.hid (show OwnCaps w2 (w.heap.size + 4) (.slice C o.caps.length cp) o.caps from World.ownsRow.kept (row := none) I7.out (grown_below hb2 none) (by cases h : Value.ownBlock (.slice C o.caps.length cp) <;> simp)); obtain ⟨q1, q2, q3, q4, q5, q6⟩ := blk3 J3.out; obtain ⟨r1, r2⟩ := blk1 J4.out; obtain ⟨t1, t2, t3, _, _, _⟩ := blk3 J5.out; clear hb2))
        obtain ⟨m1, m2, mK, mB⟩ := store_fin (.bool false) (.int .i64 0) (.slice none 0 0) (.int .i64 4) JK.out J3.out J4.out
        generalize ((((w2.setCell ⟨w.heap.size, 0, none⟩ (.bool false)).setCell ⟨w.heap.size, 1, none⟩ (.int .i64 0)).setCell ⟨w.heap.size, 2, none⟩ (.slice none 0 0)).setCell ⟨w.heap.size + 1, 0, none⟩ (.int .i64 4)) = V at *
        have hg := grownBy_putObj' V D (.deferred none)
        have hne : ∀ r, some r = some D → ∃ ob : Obj, V.heap[r]? = some ob ∧ ob.isCells = false := fun r e => by cases e; exact ⟨_, mK, rfl⟩
        obtain ⟨n1, n2, n3, _, _, _⟩ := blk3 m1
        have k1 := cell_kept n1 hg (fun r e => hne r e.symm)
        have k2 := cell_kept n2 hg (fun r e => hne r e.symm)
        have k3 := cell_kept n3 hg (fun r e => hne r e.symm)
        have k4 := cell_kept (blk1 m2).1 hg (fun r e => hne r e.symm)
        refine ⟨by simp, .inl ⟨_, _, rfl, run_takeDeferred mK, ?_⟩⟩
        refine ⟨.tuple #[outV none 0 ⟨false, 0, []⟩, .int .i64 4], ?_, ?_⟩
        · simp [results, Tryd.f33, go_sem, k1, k2, k3, k4]
        · unfold ParsePost; rw [HN.out]
          exact ⟨_, rfl, OutOwn.fail _ _, ((JB.out.trans mB).grown hg (JB.out.trans mB).size (fun k e => by cases e; omega))⟩
      · have HM := Lib.hid hm
        have HN := Lib.hid (strict_parse HST.out h0 hm)
        clear hm
        gi_wp2_with (first | (gi_at_call 13; refine (callsIn_wide.2 (smay_any o 4096 C cp _ (OwnCaps.row I7.out) I8.out hlen)).mono ?_; rintro e w2 ⟨he, hb2⟩; rw [HM.out] at he; subst he; have J3 := Lib.hid ((hb2.block _ (heap_lt I3.out)).trans I3.out); have J4 := Lib.hid ((hb2.block _ (heap_lt I4.out)).trans I4.out); have J5 := Lib.hid ((hb2.block _ (heap_lt I5.out)).trans I5.out); have JK := Lib.hid ((hb2.block _ (heap_lt HK.out)).trans HK.out); have JB := Lib.hid (I9.out.trans (hb2.mono I9.out.size)); have J7 := Lib.hid (show OwnCaps w2 (w.heap.size + 4) (.slice C o.caps.length cp) o.caps from World.ownsRow.kept (row := none) I7.out (grown_below hb2 none) (by cases h : Value.ownBlock (.slice C o.caps.length cp) <;> simp)); obtain ⟨q1, q2, q3, q4, q5, q6⟩ := blk3 J3.out; obtain ⟨r1, r2⟩ := blk1 J4.out; obtain ⟨t1, t2, t3, _, _, _⟩ := blk3 J5.out; clear hb2))
        have HO := Lib.hid ((((J7.out.set (a := ⟨w.heap.size, 0, none⟩) (by simp) (.bool o.ok)).set (a := ⟨w.heap.size, 1, none⟩) (by simp) (.int .i64 o.to)).set (a := ⟨w.heap.size, 2, none⟩) (by simp) (.slice C o.caps.length cp)).set (a := ⟨w.heap.size + 1, 0, none⟩) (by simp) (.int .i64 0))
        obtain ⟨m1, m2, mK, mB⟩ := store_fin (.bool o.ok) (.int .i64 o.to) (.slice C o.caps.length cp) (.int .i64 0) JK.out J3.out J4.out
        generalize ((((w2.setCell ⟨w.heap.size, 0, none⟩ (.bool o.ok)).setCell ⟨w.heap.size, 1, none⟩ (.int .i64 o.to)).setCell ⟨w.heap.size, 2, none⟩ (.slice C o.caps.length cp)).setCell ⟨w.heap.size + 1, 0, none⟩ (.int .i64 0)) = V at *
        have hg := grownBy_putObj' V D (.deferred none)
        have hne : ∀ r, some r = some D → ∃ ob : Obj, V.heap[r]? = some ob ∧ ob.isCells = false := fun r e => by cases e; exact ⟨_, mK, rfl⟩
        obtain ⟨n1, n2, n3, _, _, _⟩ := blk3 m1
        have k1 := cell_kept n1 hg (fun r e => hne r e.symm)
        have k2 := cell_kept n2 hg (fun r e => hne r e.symm)
        have k3 := cell_kept n3 hg (fun r e => hne r e.symm)
        have k4 := cell_kept (blk1 m2).1 hg (fun r e => hne r e.symm)
        refine ⟨by simp, .inl ⟨_, _, rfl, run_takeDeferred mK, ?_⟩⟩
        refine ⟨.tuple #[outV C cp o, .int .i64 0], ?_, ?_⟩
        · simp [results, Tryd.f33, go_sem, k1, k2, k3, k4]
        · unfold ParsePost; rw [HN.out]
          exact ⟨_, rfl, ⟨C, cp, rfl, OwnCaps.mono (own_put HO.out mK) (by omega)⟩, ((JB.out.trans mB).grown hg (JB.out.trans mB).size (fun k e => by cases e; omega))⟩
  case stop =>
    rintro D c pre W hD ⟨rest, hT⟩ ⟨rfl, hst, i3, i4, hB⟩ hK
    have HN := Lib.hid (strict_none (s := s.data.toList) (fun row o hso _ => by
      unfold Told at hT
      rw [hT, strict, List.foldl_append] at hso
      unfold strict at hst
      rw [hst, stepP_none] at hso; cases hso))
    clear hT hst
    obtain ⟨c1, c2, c3, _, _, _⟩ := blk3 i3
    obtain ⟨b1, _⟩ := blk1 i4
    gi_wp2
    have hg := grownBy_putObj' W D (.deferred none)
    have hne : ∀ r, some r = some D → ∃ ob : Obj, W.heap[r]? = some ob ∧ ob.isCells = false := fun r e => by cases e; exact ⟨_, hK, rfl⟩
    have k1 := cell_kept c1 hg (fun r e => hne r e.symm)
    have k2 := cell_kept c2 hg (fun r e => hne r e.symm)
    have k3 := cell_kept c3 hg (fun r e => hne r e.symm)
    have k4 := cell_kept b1 hg (fun r e => hne r e.symm)
    refine ⟨by simp, .inl ⟨_, _, rfl, run_takeDeferred hK, ?_⟩⟩
    refine ⟨.tuple #[outV none 0 ⟨false, 0, []⟩, .int .i64 4], ?_, ?_⟩
    · simp [results, Tryd.f33, go_sem, k1, k2, k3, k4]
    · unfold ParsePost; rw [HN.out]
      exact ⟨_, rfl, OutOwn.fail _ _, hB.grown hg hB.size (fun k e => by cases e; omega)⟩

theorem parse_any (s : ByteArray) (hs : s.size ≤ 134217728) (w : World) : Calls Tryd.prog 33 #[.string s] w (ParsePost w (parseO s.data.toList)) :=
  (callsIn_wide (n := 3)).1 (parse_in 3 (Nat.le_refl _) s hs w)
end Go.Proofs.YtogmkekbdfckpaaDoor
