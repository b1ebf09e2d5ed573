/- The contracts of diff.same, and of the closure that diff.needed hands back. -/
import Derived.Test.YtbfjanfhgpgmdaaDoorDs
import Derived.Test.YtbfjanfhgpgmdaaDoorDc
namespace Go.Proofs.YtbfjanfhgpgmdaaDoor
open Go.RowKit
set_option linter.unusedSimpArgs false
set_option linter.unusedVariables false

set_option maxRecDepth 100000 in
set_option maxHeartbeats 1600000 in
theorem dsame_any (a b : Ld) (S T : Nat → Prop) (w : World) (hA : dfL.inn w S a) (hB : dfL.inn w T b) (hl : a.t.ls.length ≤ 4294967296) (hm : b.t.ls.length ≤ 4294967296) (ht : CntTab w) :
    Calls Tryd.prog 43 #[.agg #[.string a.name, .slice a.t.A a.t.ls.length a.t.c, .int .i64 a.t.root], .agg #[.string b.name, .slice b.t.A b.t.ls.length b.t.c, .int .i64 b.t.root]] w fun e w' => e = .returned (.bool (sameD a.df b.df)) ∧ Below w.heap.size w w' := by
  obtain ⟨an, ⟨A, c, ls, ra⟩⟩ := a
  obtain ⟨bn, ⟨B, d, ms, rb⟩⟩ := b
  simp only at hl hm ⊢
  have HA := Lib.hid (show ndL.row w S A ls from hA.2.2); have HB := Lib.hid (show ndL.row w T B ms from hB.2.2); clear hA hB
  have HC := Lib.hid ht; clear ht
  by_cases hn : an = bn
  · have e1 : (an.toList == bn.toList) = true := by simp [hn]
    have HX := Lib.hid (show sameD (Ld.df ⟨an, A, c, ls, ra⟩) (Ld.df ⟨bn, B, d, ms, rb⟩) = sameT ⟨ls.map Ln.nd, ra⟩ ⟨ms.map Ln.nd, rb⟩ by simp [sameD, Ld.df, Lt.tr, hn])
    clear hn
    go_enter Tryd.func43, Tryd.ntmps43
    go_wp2_with (go_at_call 39; refine (tsame_any A B c d ls ms ra rb S T _ (HA.out.below (bx2 w _ _)) (HB.out.below (bx2 w _ _)) hl hm (HC.out.below (bx2 w _ _))).mono ?_; rintro e w' ⟨rfl, hb⟩)
    go_ret
    exact ⟨ret_bool HX.out.symm, Below.step (bx2 w _ _) hb⟩
  · have e1 : (an.toList == bn.toList) = false := by
      rw [beq_eq_false_iff_ne]
      intro e
      rw [Lib.toList_data, Lib.toList_data] at e
      exact hn (str_ext e)
    have HX := Lib.hid (show sameD (Ld.df ⟨an, A, c, ls, ra⟩) (Ld.df ⟨bn, B, d, ms, rb⟩) = false by simp [sameD, Ld.df, hn])
    clear hn
    go_enter Tryd.func43, Tryd.ntmps43
    go_wp2_with fail
    go_ret
    exact ⟨ret_bool HX.out.symm, bx2 w _ _⟩

set_option maxRecDepth 100000 in
set_option maxHeartbeats 800000 in
theorem ask_any (i j wide N g Bc Bw : Nat) (x : Int) (w : World) (hc : w.heap[Bc]? = some (.cells #[.slice (some ⟨g, 0, none⟩) N N] 55 (0, 0))) (hw : w.heap[Bw]? = some (.cells #[.int .i64 (wide : Int)] 3 (0, 0)))
    (hx : w.cell? ⟨g, i * wide + j, none⟩ = some (.int .i64 x)) (hN : i * wide + j < N) (hN2 : N ≤ 281474976710656) :
    Calls Tryd.prog 67 #[.int .i64 (i : Int), .int .i64 (j : Int), .pointer (some ⟨Bc, 0, none⟩), .pointer (some ⟨Bw, 0, none⟩)] w fun e w' => e = .returned (.int .i64 x) ∧ w = w' := by
  obtain ⟨p1, _⟩ := blk1 hc
  obtain ⟨p2, _⟩ := blk1 hw
  have h1 : (i : Int) * (wide : Int) = ((i * wide : Nat) : Int) := by simp
  have hle : i * wide ≤ 281474976710656 := by omega
  generalize i * wide = m at *
  have HH := Lib.hid h1
  clear hc hw h1
  go_enter Tryd.func67, Tryd.ntmps67
  have h2 : (i : Int) * (wide : Int) = (m : Int) := HH.out
  go_wp2_with fail
  go_ret
  exact ⟨rfl, rfl⟩

set_option maxRecDepth 100000 in
theorem field_rules (w : World) (A : Option Addr) (n c : Nat) : (Instr.field 24 (.agg #[.slice A n c]) 0).run Tryd.prog w = .ok (.slice A n c) w := by
  kernel_rfl
attribute [local go_sem] field_rules
theorem blk3f {w : World} {b : Nat} {x y z : Value} {T : TypeId} (h : w.heap[b]? = some (.cells #[x, y, z] T (0, 0))) :
    w.cell? ⟨b, 0, none⟩ = some x ∧ w.cell? ⟨b, 1, none⟩ = some y ∧ w.cell? ⟨b, 2, none⟩ = some z ∧ w.frozen? ⟨b, 0, none⟩ = false ∧ w.frozen? ⟨b, 1, none⟩ = false ∧ w.frozen? ⟨b, 2, none⟩ = false := by
  simp [World.cell?, World.frozen?, h]
/-- A rule of the call's own. -/
def DefPost (d : Df) (w : World) (e : Ending) (w' : World) : Prop := ∃ (n : ByteArray) (A : Option Addr) (c : Nat) (ls : List Ln) (r : Int), e = .returned (.agg #[.string n, .slice A ls.length c, .int .i64 r]) ∧ Ld.df ⟨n, A, c, ls, r⟩ = d ∧ TreeOwn w' (w.heap.size ≤ ·) ⟨A, c, ls, r⟩ ∧ Below w.heap.size w w'
set_option maxRecDepth 100000 in
set_option maxHeartbeats 1600000 in
theorem down_any (a : Ld) (S : Nat → Prop) (w : World) (hA : dfL.inn w S a) (hm : DMod a) :
    Calls Tryd.prog 44 #[.agg #[.string a.name, .slice a.t.A a.t.ls.length a.t.c, .int .i64 a.t.root]] w (DefPost a.df w) := by
  obtain ⟨an, ⟨A, c, ls, ra⟩⟩ := a
  simp only
  have HW3 := Lib.hid (bx3 w (.cells #[.string an, .slice A ls.length c, .int .i64 ra] 36) (.cells #[.string ByteArray.empty, .slice none 0 0, .int .i64 0] 36) (.cells #[.string an, .slice A ls.length c, .int .i64 ra] 36))
  have HRW := Lib.hid (show dfL.row (((w.alloc (.cells #[.string an, .slice A ls.length c, .int .i64 ra] 36)).alloc (.cells #[.string ByteArray.empty, .slice none 0 0, .int .i64 0] 36)).alloc (.cells #[.string an, .slice A ls.length c, .int .i64 ra] 36)) (fun _ => True) (some ⟨w.heap.size + 1 + 1, 0, none⟩) [⟨an, A, c, ls, ra⟩] from by
    refine ⟨⟨?_, fun _ _ _ => trivial⟩, fun d hd => ?_⟩
    · have h := bx_new ((w.alloc (.cells #[.string an, .slice A ls.length c, .int .i64 ra] 36)).alloc (.cells #[.string ByteArray.empty, .slice none 0 0, .int .i64 0] 36)) (.cells #[.string an, .slice A ls.length c, .int .i64 ra] 36)
      exact row_blk (cs := [.string an, .slice A ls.length c, .int .i64 ra]) (by simpa using h)
    · simp only [List.mem_singleton] at hd
      subst hd
      exact dfL.mono (dfL.agree hA (below_all HW3.out)) (fun _ _ _ => trivial))
  have HM := Lib.hid (show ∀ d ∈ [(⟨an, A, c, ls, ra⟩ : Ld)], DMod d from fun d hd => by simp only [List.mem_singleton] at hd; subst hd; exact hm)
  clear hA hm
  unfold DefPost
  go_enter Tryd.func44, Tryd.ntmps44
  go_wp2_with fail
  refine (gcopy_any (some ⟨w.heap.size + 1 + 1, 0, none⟩) 1 [⟨an, A, c, ls, ra⟩] _ _ HRW.out (by simp) HM.out).mono ?_
  rintro e w1 ⟨V, vc, ds, rfl, hds, hgo, hgb⟩
  have hl1 : ds.length = 1 := by have := congrArg List.length hds; simpa using this
  obtain ⟨d, rfl⟩ := List.length_eq_one_iff.1 hl1
  obtain ⟨n', ⟨A', c', l', r'⟩⟩ := d
  simp only [List.map_cons, List.map_nil, List.cons.injEq, and_true] at hds
  have HDS := Lib.hid hds
  have HGO := Lib.hid hgo
  have HB := Lib.hid hgb
  clear hds hgo hgb hl1
  obtain ⟨g, rfl, _, hg2⟩ := own_some (h := HGO.out.row.1) (by simp)
  obtain ⟨x0, x1, x2⟩ := own_at3 HGO.out.row.1 0 (by simp)
  simp only [Nat.zero_mul, Nat.zero_add, List.getElem_cons_zero] at x0 x1 x2
  have HK := Lib.hid (show w1.heap[w.heap.size + 1]? = some (.cells #[.string ByteArray.empty, .slice none 0 0, .int .i64 0] 36 (0, 0)) from bx_kept HB.out (bx_old (by have h := bx_new (w.alloc (.cells #[.string an, .slice A ls.length c, .int .i64 ra] 36)) (.cells #[.string ByteArray.empty, .slice none 0 0, .int .i64 0] 36); simpa using h)))
  obtain ⟨s1, s2, s3, s4, s5, s6⟩ := blk3f HK.out
  simp only [List.length_singleton]
  go_wp2_with fail
  refine bodyPost_ret (v := .agg #[.string n', .slice A' l'.length c', .int .i64 r']) (by simp [results, Tryd.results44, go_sem, s1, s2, s3]) rfl ⟨n', A', c', l', r', rfl, HDS.out, ?_, ?_⟩
  · obtain ⟨Q, h1, h2, _⟩ := HGO.out.kids
    have hq := ((h1 0 (by simp)).2.mono (T := fun x => w.heap.size + 3 ≤ x) (fun x _ hx => by have := h2 0 x hx; simp at this; omega))
    simp only [List.getElem_cons_zero] at hq
    refine (hq.agree (fun x hx _ => ?_)).mono (fun x _ hx => by have hx : w.heap.size + 3 ≤ x := hx; omega)
    have hx : w.heap.size + 3 ≤ x := hx
    have hne : x ≠ w.heap.size + 1 := by omega
    exact (Below.heap_setCell _ _ _ _ hne).trans ((Below.heap_setCell _ _ _ _ hne).trans (Below.heap_setCell _ _ _ _ hne))
  · exact (((Below.step HW3.out HB.out).setCell (p := ⟨w.heap.size + 1, 0, none⟩) (by simp) _).setCell (p := ⟨w.heap.size + 1, 1, none⟩) (by simp) _).setCell (p := ⟨w.heap.size + 1, 2, none⟩) (by simp) _
end Go.Proofs.YtbfjanfhgpgmdaaDoor
