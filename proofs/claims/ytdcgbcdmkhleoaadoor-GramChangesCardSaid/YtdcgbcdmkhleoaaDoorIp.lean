/- The grammar of the examples of layer 9. -/
import Derived.Test.YtdcgbcdmkhleoaaDoorIo
import Derived.Test.YtdcgbcdmkhleoaaDoorIh
import Derived.Test.YtdcgbcdmkhleoaaDoorIn
namespace Go.Proofs.YtdcgbcdmkhleoaaDoor
open Go.RowKit
set_option linter.unusedSimpArgs false
set_option linter.unusedVariables false

def seqN : Nd := ⟨4, 0, 0, 0, 0, ⟨#[]⟩, 0, 0, []⟩
def body9 : Tr := ofT seqN [⟨[ruleLf ⟨#[98]⟩], 0⟩, ⟨[textLf ⟨#[120]⟩], 0⟩]
def some9 : List Df := [⟨⟨#[97]⟩, body9⟩, ⟨⟨#[98]⟩, ⟨[emptyLf], 0⟩⟩]
theorem ok9 : okT seqN [⟨[ruleLf ⟨#[98]⟩], 0⟩, ⟨[textLf ⟨#[120]⟩], 0⟩] = true := by kernel_rfl
theorem may9 : mayG some9 = 0 := by kernel_rfl
theorem nodes9 : nodesG some9 = 4 := by kernel_rfl

theorem dmod_of {d : Ld} (h : d.df.body.nodes.length ≤ 1000 ∧ ∀ n ∈ d.df.body.nodes, n.kids.length ≤ 1000) : DMod d := ⟨by
  have h1 : (d.t.ls.map Ln.nd).length ≤ 1000 := h.1
  rw [List.length_map] at h1; omega, fun l hl => by
  have h1 := h.2 l.nd (List.mem_map.2 ⟨l, hl, rfl⟩); omega⟩
/-- The grammar of the examples, just made. -/
def SomePost (w : World) (e : Ending) (w' : World) : Prop := ∃ (g : Nat) (d1 d2 : Ld), e = .returned (.agg #[.slice (some ⟨g, 0, none⟩) 2 2]) ∧ [d1, d2].map Ld.df = some9 ∧ w.heap.size ≤ g ∧ w'.heap[g]? = some (.cells (dfL.all [d1, d2]).toArray 47 (0, 0)) ∧
  (∀ d ∈ [d1, d2], dfL.inn w' (fun x => w.heap.size ≤ x ∧ x ≠ g) d) ∧ Below w.heap.size w w'
set_option maxRecDepth 100000 in
set_option maxHeartbeats 3200000 in
theorem some_any (w : World) (ht : CntTab w) :
    Calls Tryd.prog 34 #[] w (SomePost w) := by
  have HT := Lib.hid ht; clear ht
  unfold SomePost
  go_enter Tryd.func34, Tryd.ntmps34
  have HB0 := Lib.hid (bx1 w (.cells #[.slice none 0 0] 50))
  have HK0 := Lib.hid (bx_new w (.cells #[.slice none 0 0] 50))
  go_wp2_with fail
  refine (rule_any ⟨#[98]⟩ _ (by decide)).mono ?_
  rintro e w1 ⟨b1, rfl, hto1, hb1⟩
  have HB1 := Lib.hid (Below.step HB0.out hb1); have HK1 := Lib.hid (bx_kept hb1 HK0.out); have HZ1 := Lib.hid (show w.heap.size + 1 ≤ w1.heap.size from by have := hb1.size; simp at this; omega)
  have HO1 := Lib.hid (hto1.mono (T := fun x => w.heap.size + 1 ≤ x ∧ x < w1.heap.size) (fun x h1 h2 => ⟨by have h2 : (w.alloc _).heap.size ≤ x := h2; rw [World.size_alloc] at h2; exact h2, h1⟩))
  clear hto1 hb1 HB0 HK0
  go_wp2_with fail
  refine (text_any ⟨#[120]⟩ _ (by decide)).mono ?_
  rintro e w2 ⟨b2, rfl, hto2, hb2⟩
  have HB2 := Lib.hid (Below.step HB1.out hb2); have HK2 := Lib.hid (bx_kept hb2 HK1.out); have HZ2 := Lib.hid hb2.size
  have HO12 := Lib.hid (HO1.out.below hb2)
  have HO2 := Lib.hid hto2
  clear hto2 hb2 HB1 HK1 HO1
  have HRW := Lib.hid (show ttL.row (w2.alloc (.cells #[.slice (some ⟨b1, 0, none⟩) 1 1, .int .i64 0, .slice (some ⟨b2, 0, none⟩) 1 1, .int .i64 0] 24)) (fun _ => True) (some ⟨w2.heap.size, 0, none⟩) [⟨some ⟨b1, 0, none⟩, 1, [⟨ruleLf ⟨#[98]⟩, none, 0⟩], 0⟩, ⟨some ⟨b2, 0, none⟩, 1, [⟨textLf ⟨#[120]⟩, none, 0⟩], 0⟩] from by
    refine ⟨⟨?_, fun _ _ _ => trivial⟩, fun t ht => ?_⟩
    · exact row_blk (cs := [.slice (some ⟨b1, 0, none⟩) 1 1, .int .i64 0, .slice (some ⟨b2, 0, none⟩) 1 1, .int .i64 0]) (bx_new w2 _)
    · simp only [List.mem_cons, List.not_mem_nil, or_false] at ht
      rcases ht with rfl | rfl
      · exact ((HO12.out.below (bx1 w2 _)).inn).mono (fun _ _ _ => trivial)
      · exact ((HO2.out.below (bx1 w2 _)).inn).mono (fun _ _ _ => trivial))
  have HC := Lib.hid (of9_any seqN (.slice none 0 0) (some ⟨w2.heap.size, 0, none⟩) 2 [⟨some ⟨b1, 0, none⟩, 1, [⟨ruleLf ⟨#[98]⟩, none, 0⟩], 0⟩, ⟨some ⟨b2, 0, none⟩, 1, [⟨textLf ⟨#[120]⟩, none, 0⟩], 0⟩] _ _ (by refine ⟨?_, ?_, ?_, ?_, ?_, ?_, ?_⟩ <;> first | decide | (simp [seqN, U64])) HRW.out (by simp) (by simp) (HT.out.below (HB2.out.trans ((bx1 w2 _).mono HB2.out.size))) ok9)
  clear HO12 HO2 HRW
  go_wp2_with fail
  refine HC.out.mono ?_
  rintro e w3 ⟨⟨A, c, ls, root⟩, he, htr, hto3, hb3⟩
  simp only [Lt.val] at he; subst he
  have HZ3 := Lib.hid (show w2.heap.size + 1 ≤ w3.heap.size from by have := hb3.size; simp at this; omega)
  have HB3 := Lib.hid (Below.step (HB2.out.trans ((bx1 w2 (.cells #[.slice (some ⟨b1, 0, none⟩) 1 1, .int .i64 0, .slice (some ⟨b2, 0, none⟩) 1 1, .int .i64 0] 24)).mono HB2.out.size)) hb3)
  have HK3 := Lib.hid (bx_kept hb3 (bx_old HK2.out))
  have HTR := Lib.hid (show Lt.tr ⟨A, c, ls, root⟩ = body9 from htr)
  have HO3 := Lib.hid (hto3.mono (T := fun x => w.heap.size + 1 ≤ x ∧ x < w3.heap.size) (fun x h1 h2 => ⟨by have h2 : (w2.alloc _).heap.size ≤ x := h2; rw [World.size_alloc] at h2; have := HZ1.out; have := HZ2.out; omega, h1⟩))
  clear htr hto3 hb3 HB2 HK2 HC
  go_wp2_with fail
  refine (empty_any _).mono ?_
  rintro e w4 ⟨b4, rfl, hto4, hb4⟩
  have HB4 := Lib.hid (Below.step HB3.out hb4); have HK4 := Lib.hid (bx_kept hb4 HK3.out); have HZ4 := Lib.hid hb4.size
  have HO34 := Lib.hid (HO3.out.below hb4)
  have HO4 := Lib.hid (hto4.mono (T := fun x => w3.heap.size ≤ x ∧ x < w4.heap.size) (fun x h1 h2 => ⟨h2, h1⟩))
  clear hto4 hb4 HB3 HK3 HO3
  have HB5 := Lib.hid (bx1 w4 (.cells #[.string ⟨#[97]⟩, .slice A ls.length c, .int .i64 root, .string ⟨#[98]⟩, .slice (some ⟨b4, 0, none⟩) 1 1, .int .i64 0] 47))
  have HN5 := Lib.hid (bx_new w4 (.cells #[.string ⟨#[97]⟩, .slice A ls.length c, .int .i64 root, .string ⟨#[98]⟩, .slice (some ⟨b4, 0, none⟩) 1 1, .int .i64 0] 47))
  obtain ⟨t1, t2⟩ := blk1 (bx_old (p := .cells #[.string ⟨#[97]⟩, .slice A ls.length c, .int .i64 root, .string ⟨#[98]⟩, .slice (some ⟨b4, 0, none⟩) 1 1, .int .i64 0] 47) HK4.out)
  go_wp2_with fail
  refine bodyPost_ret (v := .agg #[.slice (some ⟨w4.heap.size, 0, none⟩) 2 2]) (by simp [results, Tryd.results34, go_sem, t1]) rfl ?_
  have hz1 := HZ1.out; have hz2 := HZ2.out; have hz3 := HZ3.out; have hz4 := HZ4.out
  have hx : ∀ x, x ≠ w.heap.size → x < w4.heap.size + 1 → ((w4.alloc (.cells #[.string ⟨#[97]⟩, .slice A ls.length c, .int .i64 root, .string ⟨#[98]⟩, .slice (some ⟨b4, 0, none⟩) 1 1, .int .i64 0] 47)).setCell ⟨w.heap.size, 0, none⟩ (.slice (some ⟨w4.heap.size, 0, none⟩) 2 2)).heap[x]? = (w4.alloc (.cells #[.string ⟨#[97]⟩, .slice A ls.length c, .int .i64 root, .string ⟨#[98]⟩, .slice (some ⟨b4, 0, none⟩) 1 1, .int .i64 0] 47)).heap[x]? := fun x h1 _ => Below.heap_setCell _ _ _ _ h1
  refine ⟨w4.heap.size, ⟨⟨#[97]⟩, ⟨A, c, ls, root⟩⟩, ⟨⟨#[98]⟩, ⟨some ⟨b4, 0, none⟩, 1, [⟨emptyLf, none, 0⟩], 0⟩⟩, rfl, ?_, by omega, (hx _ (by omega) (by omega)).trans HN5.out, ?_, ?_⟩
  · show [Df.mk _ (Lt.tr ⟨A, c, ls, root⟩), _] = some9
    rw [HTR.out]; rfl
  · intro d hd
    simp only [List.mem_cons, List.not_mem_nil, or_false] at hd
    rcases hd with rfl | rfl
    · refine ⟨show (⟨#[97]⟩ : ByteArray).size ≤ 281474976710656 by decide, ?_⟩
      exact (((HO34.out.below HB5.out).agree (fun x hy _ => Below.heap_setCell _ _ _ _ (by show x ≠ w.heap.size; omega))).inn).mono (fun x _ hy => ⟨by omega, by omega⟩)
    · refine ⟨show (⟨#[98]⟩ : ByteArray).size ≤ 281474976710656 by decide, ?_⟩
      exact (((HO4.out.below HB5.out).agree (fun x hy _ => Below.heap_setCell _ _ _ _ (by show x ≠ w.heap.size; omega))).inn).mono (fun x _ hy => ⟨by omega, by omega⟩)
  · exact (HB4.out.trans (HB5.out.mono HB4.out.size)).setCell (p := ⟨w.heap.size, 0, none⟩) (Nat.le_refl _) _
end Go.Proofs.YtdcgbcdmkhleoaaDoor
