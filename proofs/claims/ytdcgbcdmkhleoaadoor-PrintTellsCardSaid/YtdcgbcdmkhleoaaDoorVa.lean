/- The contract of bonsailaw08.own. -/
import Derived.Test.YtdcgbcdmkhleoaaDoorDw
import Derived.Test.YtdcgbcdmkhleoaaDoorDn
namespace Go.Proofs.YtdcgbcdmkhleoaaDoor
open Go.RowKit
set_option linter.unusedSimpArgs false
set_option linter.unusedVariables false

section
variable {P : Program} {w : World} {ops : Array Oper} {rest : List Oper} {o : Oper} {a : Act}
theorem exec_field {T : TypeId} {x : Operand} {k : Nat} {p v : Value} (ho : o.op = .fieldAddr T x k) (hx : a.eval x = p) (h : (Instr.fieldAt T p k).run P w = .ok v w) : (execOp a.eval o).run P w = .ok (.value v) w := by
  unfold execOp; simp only [ho, hx, Sem.run_bind, h, Result.andThen_ok, Sem.run_pure]
end
theorem field_tree0 (w : World) (b : Nat) : (Instr.fieldAt 24 (.pointer (some ⟨b, 0, none⟩)) 0).run Tryd.prog w = .ok (.pointer (some ⟨b, 0, none⟩)) w := by go_simp
theorem load_nodes (w : World) (b : Nat) (v : Value) (h : w.cell? ⟨b, 0, none⟩ = some v) : (Instr.loadAt 22 (.pointer (some ⟨b, 0, none⟩))).run Tryd.prog w = .ok v w := by go_simp

def Own8Rel (w : World) (A : Option Addr) (c : Nat) (ls : List Ln) (root : Int) (v4 : Value) (wr : World) : Prop :=
  ∃ (k : Nat) (V : Option Addr) (vc : Nat) (l4 : List Ln), k ≤ ls.length ∧ v4 = .int .i64 k ∧ Hid (l4.length = k ∧ l4.map Ln.nd = (ls.take k).map Ln.nd) ∧ Hid (wr.ownsRow (w.heap.size + 3) 41 9 (.slice V k vc) k (ndL.all l4)) ∧
    Hid (∀ l ∈ l4, NdOwn wr (fun x => w.heap.size + 3 ≤ x ∧ blkOf V ≠ some x) l) ∧
    Hid (wr.heap[w.heap.size]? = some (.cells #[.slice A ls.length c, .int .i64 root] 24 (0, 0))) ∧ Hid (wr.heap[w.heap.size + 1]? = some (.cells #[.slice none 0 0, .int .i64 0] 24 (0, 0))) ∧ Hid (wr.heap[w.heap.size + 1 + 1]? = some (.cells #[.slice V k vc, .int .i64 root] 24 (0, 0))) ∧
    Hid (Below w.heap.size w wr) ∧ Hid (w.heap.size + 3 ≤ wr.heap.size)

set_option maxRecDepth 100000 in
set_option maxHeartbeats 12800000 in
theorem own8_any (A : Option Addr) (c : Nat) (ls : List Ln) (root : Int) (S : Nat → Prop) (w : World) (hT : ndL.row w S A ls) (hl : ls.length ≤ 16777216) (hkl : ∀ l ∈ ls, l.nd.kids.length ≤ 4294967296) :
    Calls Tryd.prog 10 #[.agg #[.slice A ls.length c, .int .i64 root]] w (TreePost ⟨ls.map Ln.nd, root⟩ w) := by
  obtain ⟨m0, hmi, hm0, hm1, hm2⟩ := info_parts infoInt
  obtain ⟨j0, hj, hy0, hy1, hy2⟩ := info_parts infoNode
  have HT := Lib.hid hT; have HKL := Lib.hid hkl
  clear hT hkl
  unfold TreePost
  go_enter Tryd.func10, Tryd.ntmps10
  have HB0 := Lib.hid (bx3 w (.cells #[.slice A ls.length c, .int .i64 root] 24) (.cells #[.slice none 0 0, .int .i64 0] 24) (.cells #[.slice none 0 0, .int .i64 root] 24))
  have HK0 := Lib.hid (bx_old (p := .cells #[.slice none 0 0, .int .i64 root] 24) (bx_old (p := .cells #[.slice none 0 0, .int .i64 0] 24) (bx_new w (.cells #[.slice A ls.length c, .int .i64 root] 24))))
  have HK1 := Lib.hid (show (((w.alloc (.cells #[.slice A ls.length c, .int .i64 root] 24)).alloc (.cells #[.slice none 0 0, .int .i64 0] 24)).alloc (.cells #[.slice none 0 0, .int .i64 root] 24)).heap[w.heap.size + 1]? = some (.cells #[.slice none 0 0, .int .i64 0] 24 (0, 0)) from by
    refine bx_old ?_
    have h := bx_new (w.alloc (.cells #[.slice A ls.length c, .int .i64 root] 24)) (.cells #[.slice none 0 0, .int .i64 0] 24)
    rw [World.size_alloc] at h; exact h)
  have HK2 := Lib.hid (show (((w.alloc (.cells #[.slice A ls.length c, .int .i64 root] 24)).alloc (.cells #[.slice none 0 0, .int .i64 0] 24)).alloc (.cells #[.slice none 0 0, .int .i64 root] 24)).heap[w.heap.size + 1 + 1]? = some (.cells #[.slice none 0 0, .int .i64 root] 24 (0, 0)) from by
    have h := bx_new ((w.alloc (.cells #[.slice A ls.length c, .int .i64 root] 24)).alloc (.cells #[.slice none 0 0, .int .i64 0] 24)) (.cells #[.slice none 0 0, .int .i64 root] 24)
    rw [World.size_alloc, World.size_alloc] at h; exact h)
  go_wp2_with fail
  go_loopw [4] (fun v4 wr => Own8Rel w A c ls root v4 wr) (fun v4 _ => ls.length - (intOf v4).toNat)
  case atStart => exact ⟨0, none, 0, [], Nat.zero_le _, rfl, Lib.hid ⟨rfl, rfl⟩, Lib.hid (World.ownsRow_nil _ _ _ _), Lib.hid (by simp), HK0, HK1, HK2, HB0, Lib.hid (by simp)⟩
  case round =>
    clear HK0 HK1 HK2 HB0
    obtain ⟨k, V, vc, l4, hk, rfl, HL4, HO, HND, HKA, HKR, HKO, HB, HZ⟩ := hrel
    obtain ⟨a0, a1, _, _⟩ := blk2 HKA.out
    by_cases hlt : k < ls.length
    · have i1 : (k : Int) < (ls.length : Int) := by omega
      have i2 : (0 : Int) ≤ (k : Int) := by omega
      have HRW := Lib.hid (HT.out.below HB.out)
      obtain ⟨ab, ao, rfl, _, hab, x0, x1, x2, x3, x4, x5, x6, x7, x8⟩ := ndRow HRW.out k hlt
      have HKRW := Lib.hid (ndSub HRW.out k hlt)
      have HWF := Lib.hid (ndWf HRW.out k hlt)
      have HKQ := Lib.hid (HKL.out ls[k] (List.getElem_mem hlt))
      have HTQ := Lib.hid (show ls.take (k + 1) = ls.take k ++ [ls[k]] from List.take_succ_eq_append_getElem hlt)
      generalize ls[k] = x at *
      have hz := HZ.out
      go_upto_region 6 with (fail)
      have HN6 := Lib.hid (bx_new wr (.cells #[.int .u8 x.nd.kind, .int .u64 x.nd.s0, .int .u64 x.nd.s1, .int .u64 x.nd.s2, .int .u64 x.nd.s3, .string x.nd.text, .int .i64 x.nd.mn, .int .i64 x.nd.mx, .slice x.A x.nd.kids.length x.c] 41))
      have HZ6 := Lib.hid (show (wr.alloc (.cells #[.int .u8 x.nd.kind, .int .u64 x.nd.s0, .int .u64 x.nd.s1, .int .u64 x.nd.s2, .int .u64 x.nd.s3, .string x.nd.text, .int .i64 x.nd.mn, .int .i64 x.nd.mx, .slice x.A x.nd.kids.length x.c] 41)).heap.size = wr.heap.size + 1 from by simp)
      have HE6 := Lib.hid (show ∀ y, y < wr.heap.size → (wr.alloc (.cells #[.int .u8 x.nd.kind, .int .u64 x.nd.s0, .int .u64 x.nd.s1, .int .u64 x.nd.s2, .int .u64 x.nd.s3, .string x.nd.text, .int .i64 x.nd.mn, .int .i64 x.nd.mx, .slice x.A x.nd.kids.length x.c] 41)).heap[y]? = wr.heap[y]? from fun y hy => Below.heap_alloc wr _ y hy)
      have HB6 := Lib.hid (show Below w.heap.size w (wr.alloc (.cells #[.int .u8 x.nd.kind, .int .u64 x.nd.s0, .int .u64 x.nd.s1, .int .u64 x.nd.s2, .int .u64 x.nd.s3, .string x.nd.text, .int .i64 x.nd.mn, .int .i64 x.nd.mx, .slice x.A x.nd.kids.length x.c] 41)) from HB.out.alloc HB.out.size _)
      have HKR6 := Lib.hid (HKRW.out.below (bx1 wr (.cells #[.int .u8 x.nd.kind, .int .u64 x.nd.s0, .int .u64 x.nd.s1, .int .u64 x.nd.s2, .int .u64 x.nd.s3, .string x.nd.text, .int .i64 x.nd.mn, .int .i64 x.nd.mx, .slice x.A x.nd.kids.length x.c] 41)))
      clear x0 x1 x2 x3 x4 x5 x6 x7 x8 a0 a1 HKRW HRW
      generalize hw6 : wr.alloc (.cells #[.int .u8 x.nd.kind, .int .u64 x.nd.s0, .int .u64 x.nd.s1, .int .u64 x.nd.s2, .int .u64 x.nd.s3, .string x.nd.text, .int .i64 x.nd.mn, .int .i64 x.nd.mx, .slice x.A x.nd.kids.length x.c] 41) = w6 at *
      clear hw6
      generalize hnb : wr.heap.size = nb at *
      have HNBE := Lib.hid hnb
      obtain ⟨_, _, _, _, _, _, _, _, y8, _⟩ := blk9 HN6.out
      have HOI := Lib.hid (show (w6.alloc (.cells #[] 3)).ownsRow w6.heap.size 3 1 (.slice (some ⟨w6.heap.size, 0, none⟩) 0 0) 0 [] from ⟨rfl, .inr ⟨w6.heap.size, 0, #[], rfl, Nat.le_refl _, bx_new w6 _, Nat.le_refl _, by unfold maxLen; omega, rfl, rfl⟩⟩)
      have FI := Lib.hid (show 0 + x.nd.kids.length ≤ maxLen ∧ (0 + x.nd.kids.length) * 8 ≤ 140737488355328 from by have := HKQ.out; exact ⟨by unfold maxLen; omega, by omega⟩)

      have hlw : nb < w6.heap.size := by have := HZ6.out; omega
      go_upto_region 7 with (at_builtin; refine wpList_append_at _ rfl (.tmp 21) (.tmp 23) 39 rfl w6.heap.size 3 m0 (.int .i64 0) 1 8 Tryd.underlying39 hmi hm0 hm1 hm2 rfl (by decide) (some ⟨w6.heap.size, 0, none⟩) 0 0 [] rfl HOI.out x.A x.nd.kids.length x.c (intL.all x.nd.kids) rfl (intL.all_length _) (HKR6.out.below (bx1 w6 _)).rowAt (intL.all_one' _) FI.out.1 FI.out.2 (by simp) ?_; intro Q qc w3 HK3 HG3 HA3; have HC3 := Lib.hid (show ∀ y, y < w6.heap.size → w3.heap[y]? = w6.heap[y]? from fun y hy => (HG3.out.block y (by simp; omega) (fun e => by have e : some y = some w6.heap.size := e; injection e with e; omega)).trans (Below.heap_alloc _ _ y hy)); have HN3 := Lib.hid ((HC3.out nb (by omega)).trans HN6.out); obtain ⟨_, _, _, _, _, _, _, _, z8, _, _, _, _, _, _, _, _, zf⟩ := blk9 HN3.out)
      try simp only [Nat.zero_add]
      have HKI := Lib.hid (show w3.ownsRow w6.heap.size 3 1 (.slice Q x.nd.kids.length qc) x.nd.kids.length (intL.all x.nd.kids) from by have h := HK3.out; rw [Nat.zero_add, List.nil_append] at h; exact h)
      have hs3 : w6.heap.size + 1 ≤ w3.heap.size := by have h := HG3.out.size; simpa using h
      have HX7 := Lib.hid (set_blk9 (u := (.slice Q x.nd.kids.length qc)) HN3.out)
      have HE7 := Lib.hid (show ∀ y, y ≠ nb → (w3.setCell ⟨nb, 8, none⟩ (.slice Q x.nd.kids.length qc)).heap[y]? = w3.heap[y]? from fun y hy => Below.heap_setCell _ _ _ _ hy)
      have HZ7 := Lib.hid (show (w3.setCell ⟨nb, 8, none⟩ (.slice Q x.nd.kids.length qc)).heap.size = w3.heap.size from by simp)
      have HB7 := Lib.hid (show Below w.heap.size w (w3.setCell ⟨nb, 8, none⟩ (.slice Q x.nd.kids.length qc)) from ((HB6.out.alloc HB6.out.size _).grown HG3.out (by have := HZ6.out; simp; omega) (fun y hy => by have hy : some w6.heap.size = some y := hy; injection hy with hy; have := HZ6.out; omega)).setCell (p := ⟨nb, 8, none⟩) (by show w.heap.size ≤ nb; omega) _)
      have HCH := Lib.hid (show ∀ y, y < nb → (w3.setCell ⟨nb, 8, none⟩ (.slice Q x.nd.kids.length qc)).heap[y]? = wr.heap[y]? from fun y h1 => (HE7.out y (by omega)).trans ((HC3.out y (by have := HZ6.out; omega)).trans (HE6.out y h1)))
      have HKI7 := Lib.hid (show OwnS (w3.setCell ⟨nb, 8, none⟩ (.slice Q x.nd.kids.length qc)) (fun y => nb + 1 ≤ y ∧ y < w3.heap.size) 3 1 Q x.nd.kids.length qc (intL.all x.nd.kids) from by
        have h7 : OwnS w3 (fun y => nb + 1 ≤ y ∧ y < w3.heap.size) 3 1 Q x.nd.kids.length qc (intL.all x.nd.kids) := ⟨own_mono HKI.out (Nat.zero_le _), fun y hy => by have h1 := own_blk HKI.out y hy; have := HZ6.out; exact ⟨by omega, h1.2⟩⟩
        exact h7.agree (fun y hy _ => HE7.out y (by omega)))
      generalize w3.setCell ⟨nb, 8, none⟩ (.slice Q x.nd.kids.length qc) = w7 at *
      clear y8 z8 zf
      have HVB := Lib.hid (show ∀ y, blkOf V = some y → w.heap.size + 3 ≤ y ∧ y < nb from fun y hy => by have h := own_blk HO.out y hy; have := HNBE.out; omega)
      have HKO7 := Lib.hid ((HCH.out (w.heap.size + 1 + 1) (by omega)).trans HKO.out)
      have HO8b := Lib.hid (show (w7.alloc (.cells #[.int .u8 x.nd.kind, .int .u64 x.nd.s0, .int .u64 x.nd.s1, .int .u64 x.nd.s2, .int .u64 x.nd.s3, .string x.nd.text, .int .i64 x.nd.mn, .int .i64 x.nd.mx, .slice Q x.nd.kids.length qc] 41)).ownsRow (w.heap.size + 3) 41 9 (.slice V k vc) k (ndL.all l4) from World.ownsRow.alloc (own_agree HO.out (fun y hy => HCH.out y (HVB.out y hy).2)) _)
      have HNO := Lib.hid (show ∀ u ∈ ([.int .u8 x.nd.kind, .int .u64 x.nd.s0, .int .u64 x.nd.s1, .int .u64 x.nd.s2, .int .u64 x.nd.s3, .string x.nd.text, .int .i64 x.nd.mn, .int .i64 x.nd.mx, .slice Q x.nd.kids.length qc] : List Value), u.oneCell' = true from (fun u hu => by simp only [List.mem_cons, List.not_mem_nil, or_false] at hu; rcases hu with rfl | rfl | rfl | rfl | rfl | rfl | rfl | rfl | rfl <;> rfl))
      have HFF := Lib.hid (show k + 1 ≤ maxLen ∧ (k + 1) * 96 ≤ 140737488355328 ∧ w.heap.size + 3 ≤ (w7.alloc (.cells #[.int .u8 x.nd.kind, .int .u64 x.nd.s0, .int .u64 x.nd.s1, .int .u64 x.nd.s2, .int .u64 x.nd.s3, .string x.nd.text, .int .i64 x.nd.mn, .int .i64 x.nd.mx, .slice Q x.nd.kids.length qc] 41)).heap.size from ⟨by unfold maxLen; omega, by omega, by have h1 := HZ7.out; have h3 := HZ6.out; simp; omega⟩)
      refine wp_region_list ?_
      refine wpList_val rfl (exec_field rfl rfl (field_tree0 _ _)) ?_
      refine wpList_val rfl (exec_load rfl rfl (load_nodes _ _ _ (blk2 HKO7.out).1)) ?_
      refine wpList_val rfl (exec_load rfl rfl (load9 w7 nb _ _ _ _ _ _ _ _ _ _ HX7.out)) ?_
      refine wpList_val rfl (exec_build rfl rfl (build9 w7 _ _ _ _ _ _ _ _ _)) ?_
      refine wpList_append_at _ rfl (.tmp 27) (.tmp 29) 22 rfl (w.heap.size + 3) 41 j0 _ 9 96 Tryd.underlying22 hj hy0 hy1 hy2 rfl (by decide) V vc k (ndL.all l4) rfl HO8b.out (some ⟨w7.heap.size, 0, none⟩) 1 1 [.int .u8 x.nd.kind, .int .u64 x.nd.s0, .int .u64 x.nd.s1, .int .u64 x.nd.s2, .int .u64 x.nd.s3, .string x.nd.text, .int .i64 x.nd.mn, .int .i64 x.nd.mx, .slice Q x.nd.kids.length qc] rfl rfl (row_blk (bx_new w7 _)) HNO.out HFF.out.1 HFF.out.2.1 HFF.out.2.2 ?_
      intro V'' vc'' w8 HO9 HG9 HA9
      simp only [Act.put, List.setIfInBounds_toArray, List.set_cons_zero, List.set_cons_succ]
      have hz7 := HZ7.out; have hz6 := HZ6.out
      have h8s : w7.heap.size + 1 ≤ w8.heap.size := by have h := HG9.out.size; simpa using h
      have hK8 : ∀ y, y < w7.heap.size → blkOf V ≠ some y → w8.heap[y]? = w7.heap[y]? := fun y h1 h2 => (HG9.out.block y (by simp; omega) (fun e => h2 e.symm)).trans (Below.heap_alloc _ _ y h1)
      have hV2 : ∀ y, y < w7.heap.size → blkOf V ≠ some y → blkOf V'' ≠ some y := fun y h1 h2 e => by
        rcases HA9.out with h | h
        · exact h2 (h ▸ e)
        · rw [h] at e; injection e with e; rw [World.size_alloc] at e; omega
      have hB8 : Below w.heap.size w w8 := (HB7.out.alloc HB7.out.size _).grown HG9.out (by simp; omega) (fun y hy => by have := (HVB.out y hy).1; omega)
      have hVn : ∀ y, y < w.heap.size + 3 ∨ nb ≤ y → blkOf V ≠ some y := fun y h e => by have := HVB.out y e; omega
      have HKA8 := Lib.hid ((hK8 w.heap.size (by omega) (hVn _ (by omega))).trans ((HCH.out _ (by omega)).trans HKA.out))
      have HKR8 := Lib.hid ((hK8 (w.heap.size + 1) (by omega) (hVn _ (by omega))).trans ((HCH.out _ (by omega)).trans HKR.out))
      have HKO8 := Lib.hid ((hK8 (w.heap.size + 1 + 1) (by omega) (hVn _ (by omega))).trans HKO7.out)
      obtain ⟨p0, p1, p2, p3⟩ := blk2 HKO8.out
      have HQ8 := Lib.hid (And.intro hK8 (And.intro hV2 (And.intro hB8 (And.intro hVn h8s))))
      clear hK8 hV2 hB8 hVn h8s hz7 hz6
      go_wp2_with fail
      obtain ⟨hK8, hV2, hB8, hVn, h8s⟩ := HQ8.out
      have hz7 := HZ7.out; have hz6 := HZ6.out
      have hE9 : ∀ y, y ≠ w.heap.size + 1 + 1 → (w8.setCell ⟨w.heap.size + 1 + 1, 0, none⟩ (.slice V'' (k + 1) vc'')).heap[y]? = w8.heap[y]? := fun y hy => Below.heap_setCell _ _ _ _ hy
      obtain ⟨hl1, hl2⟩ := HL4.out
      refine ⟨⟨k + 1, V'', vc'', l4 ++ [⟨x.nd, Q, qc⟩], hlt, by go_num, Lib.hid ⟨by rw [List.length_append, hl1]; rfl, ?_⟩, Lib.hid ?_, Lib.hid ?_, Lib.hid ((hE9 _ (by omega)).trans HKA8.out), Lib.hid ((hE9 _ (by omega)).trans HKR8.out), Lib.hid (set_blk2 HKO8.out), Lib.hid (hB8.setCell (p := ⟨w.heap.size + 1 + 1, 0, none⟩) (by show w.heap.size ≤ w.heap.size + 1 + 1; omega) _), Lib.hid (by simp; omega)⟩, by simp [intOf]; omega⟩
      · rw [HTQ.out, List.map_append, List.map_append, hl2]; rfl
      · have h := HO9.out
        rw [Lay.all_append, Lay.all_one, show ndL.cells ⟨x.nd, Q, qc⟩ = [.int .u8 x.nd.kind, .int .u64 x.nd.s0, .int .u64 x.nd.s1, .int .u64 x.nd.s2, .int .u64 x.nd.s3, .string x.nd.text, .int .i64 x.nd.mn, .int .i64 x.nd.mx, .slice Q x.nd.kids.length qc] by simp [ndL]]
        exact own_agree h (fun y hy => hE9 y (by have := (own_blk h y hy).1; omega))
      · intro l hl
        rcases List.mem_append.1 hl with hl | hl
        · have h1 := (HND.out l hl).mono (T := fun y => y < nb ∧ w.heap.size + 3 ≤ y ∧ blkOf V ≠ some y) (fun y a b => ⟨by have := HNBE.out; omega, b⟩)
          exact (h1.agree (fun y hy _ => (hE9 y (by omega)).trans ((hK8 y (by omega) hy.2.2).trans (HCH.out y hy.1)))).mono (fun y _ hy => ⟨hy.2.1, hV2 y (by omega) hy.2.2⟩)
        · simp only [List.mem_singleton] at hl
          subst hl
          refine ⟨HWF.out, ?_⟩
          show OwnS _ _ _ 1 Q x.nd.kids.length qc (intL.all x.nd.kids)
          exact (HKI7.out.agree (fun y hy _ => (hE9 y (by omega)).trans (hK8 y (by omega) (hVn y (by omega))))).mono (fun y _ hy => ⟨by omega, hV2 y (by omega) (hVn y (by omega))⟩)
    · obtain rfl : k = ls.length := by omega
      obtain ⟨b0, b1, _, _⟩ := blk2 HKO.out
      obtain ⟨t1, t2, t3, t4⟩ := blk2 HKR.out
      have hz := HZ.out
      have HVB := Lib.hid (show ∀ y, blkOf V = some y → w.heap.size + 3 ≤ y ∧ y < wr.heap.size from fun y hy => own_blk HO.out y hy)
      go_wp2_with fail
      refine bodyPost_ret (v := .agg #[.slice V ls.length vc, .int .i64 root]) (by simp [results, Tryd.results10, go_sem, t1, t2]) rfl ?_
      obtain ⟨hl1, hl2⟩ := HL4.out
      have hE9 : ∀ y, y ≠ w.heap.size + 1 → ((wr.setCell ⟨w.heap.size + 1, 0, none⟩ (.slice V ls.length vc)).setCell ⟨w.heap.size + 1, 1, none⟩ (.int .i64 root)).heap[y]? = wr.heap[y]? := fun y hy => (Below.heap_setCell _ _ _ _ hy).trans (Below.heap_setCell _ _ _ _ hy)
      refine ⟨⟨V, vc, l4, root⟩, by show _ = Ending.returned (.agg #[.slice V l4.length vc, .int .i64 root]); rw [hl1], ?_, ⟨by show l4.length ≤ _; omega, ?_, ?_⟩, (HB.out.setCell (p := ⟨w.heap.size + 1, 0, none⟩) (by simp) _).setCell (p := ⟨w.heap.size + 1, 1, none⟩) (by simp) _⟩
      · show Tr.mk (l4.map Ln.nd) root = _
        rw [hl2, List.take_length]
      · show OwnS _ _ _ 9 V l4.length vc (ndL.all l4)
        rw [hl1]
        have h7 : OwnS wr (fun y => w.heap.size + 3 ≤ y) 41 9 V ls.length vc (ndL.all l4) := ⟨own_mono HO.out (Nat.zero_le _), fun y hy => (HVB.out y hy).1⟩
        exact (h7.agree (fun y hy _ => hE9 y (by omega))).mono (fun y _ hy => by show w.heap.size ≤ y; omega)
      · intro l hl
        exact ((HND.out l hl).agree (fun y hy _ => hE9 y (by omega))).mono (fun y _ hy => by show w.heap.size ≤ y; have := hy.1; omega)
end Go.Proofs.YtdcgbcdmkhleoaaDoor
