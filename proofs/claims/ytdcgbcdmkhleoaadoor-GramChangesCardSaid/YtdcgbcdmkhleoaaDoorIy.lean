/- The contract of bonsailaw09.wide; trees that read alike are found the same by the reference. -/
import Derived.Test.YtdcgbcdmkhleoaaDoorIs
import Derived.Test.YtdcgbcdmkhleoaaDoorEg
import Derived.Test.YtdcgbcdmkhleoaaDoorIp
namespace Go.Proofs.YtdcgbcdmkhleoaaDoor
open Go.RowKit
set_option linter.unusedSimpArgs false
set_option linter.unusedVariables false

theorem exactT_any (x y : Lt) (S T : Nat → Prop) (w : World) (hx : x.inn w S) (hy : y.inn w T) (h : x.tr = y.tr) :
    Calls Tryd.prog 15 #[.agg #[.slice x.A x.ls.length x.c, .int .i64 x.root], .agg #[.slice y.A y.ls.length y.c, .int .i64 y.root]] w fun e w' => e = .returned (.bool true) ∧ Below w.heap.size w w' := by
  have h1 : x.root = y.root := congrArg Tr.root h
  rw [← h1]
  exact exact4_any x.A y.A x.c y.c x.ls y.ls x.root S T w hx.2 hy.2 (congrArg Tr.nodes h) hx.1

/-- Wide, or else small. -/
def Wide9Post (t : Lt) (w : World) (e : Ending) (w' : World) : Prop := ∃ r, e = .returned (.bool r) ∧ (r = false → t.ls.length ≤ 600 ∧ ∀ l ∈ t.ls, l.nd.kids.length ≤ 600) ∧ Below w.heap.size w w'
set_option maxRecDepth 100000 in
set_option maxHeartbeats 3200000 in
theorem wide9_any (t : Lt) (S : Nat → Prop) (w : World) (hT : t.inn w S) :
    Calls Tryd.prog 42 #[.agg #[.slice t.A t.ls.length t.c, .int .i64 t.root]] w (Wide9Post t w) := by
  obtain ⟨A, c, ls, r⟩ := t
  simp only
  generalize ho1 : Obj.cells #[.slice A ls.length c, .int .i64 r] 24 (0, 0) = o1
  generalize ho2 : Obj.cells #[.string ⟨#[]⟩, .slice A ls.length c, .int .i64 r] 47 (0, 0) = o2
  have HB3 := Lib.hid (bx3 w o1 o2 (.cells #[.slice (some ⟨w.heap.size + 1, 0, none⟩) 1 1] 50))
  have HGR := Lib.hid (show grL.row (((w.alloc o1).alloc o2).alloc (.cells #[.slice (some ⟨w.heap.size + 1, 0, none⟩) 1 1] 50)) (fun _ => True) (some ⟨w.heap.size + 1 + 1, 0, none⟩) [⟨some ⟨w.heap.size + 1, 0, none⟩, 1, [⟨⟨#[]⟩, ⟨A, c, ls, r⟩⟩]⟩] from by
    refine ⟨⟨?_, fun _ _ _ => trivial⟩, fun g hg => ?_⟩
    · have h := bx_new ((w.alloc o1).alloc o2) (.cells #[.slice (some ⟨w.heap.size + 1, 0, none⟩) 1 1] 50)
      rw [World.size_alloc, World.size_alloc] at h
      exact row_blk (cs := [.slice (some ⟨w.heap.size + 1, 0, none⟩) 1 1]) h
    · simp only [List.mem_cons, List.not_mem_nil, or_false] at hg
      subst hg
      refine ⟨by simp, ⟨?_, fun _ _ _ => trivial⟩, fun d hd => ?_⟩
      · have h := bx_new (w.alloc o1) o2
        rw [World.size_alloc] at h
        have h2 := bx_old (p := .cells #[.slice (some ⟨w.heap.size + 1, 0, none⟩) 1 1] 50) h
        rw [← ho2] at h2 ⊢
        exact row_blk (cs := [.string ⟨#[]⟩, .slice A ls.length c, .int .i64 r]) h2
      · simp only [List.mem_cons, List.not_mem_nil, or_false] at hd
        subst hd
        exact ⟨by show (⟨#[]⟩ : ByteArray).size ≤ _; decide, (hT.below HB3.out).mono (fun _ _ _ => trivial)⟩)
  unfold Wide9Post
  subst ho1 ho2
  clear hT
  go_enter Tryd.func42, Tryd.ntmps42
  go_wp2_with fail
  refine (large9_any [⟨some ⟨w.heap.size + 1, 0, none⟩, 1, [⟨⟨#[]⟩, ⟨A, c, ls, r⟩⟩]⟩] (some ⟨w.heap.size + 1 + 1, 0, none⟩) 1 (fun _ => True) _ HGR.out (by simp)).mono ?_
  rintro e w1 ⟨b, rfl, hr1, hb1⟩
  have HR := Lib.hid hr1; have HB1 := Lib.hid (Below.step HB3.out hb1)
  clear hr1 hb1
  go_wp2_with fail
  go_ret
  exact ⟨b, rfl, fun h => ((HR.out h) _ (List.mem_singleton.2 rfl)).2 _ (List.mem_singleton.2 rfl), HB1.out⟩
end Go.Proofs.YtdcgbcdmkhleoaaDoor
