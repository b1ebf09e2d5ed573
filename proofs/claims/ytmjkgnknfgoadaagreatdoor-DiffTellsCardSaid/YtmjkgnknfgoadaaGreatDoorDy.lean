/- The contracts of the closures that diff.doings hands back. -/
import Derived.Test.YtmjkgnknfgoadaaGreatDoorDv
namespace Go.Proofs.YtmjkgnknfgoadaaGreatDoor
open Go.RowKit
set_option linter.unusedSimpArgs false
set_option linter.unusedVariables false
set_option maxRecDepth 100000 in
set_option maxHeartbeats 1600000 in
theorem does2_none (Bw : Nat) (A : Option Addr) (c : Nat) (M : Value) (e : Value) (w : World) (hw : w.heap[Bw]? = some (.cells #[.slice A 0 c, M] 148 (0, 0))) (e0 e1 e2 e3 : Value) :
    Calls Tryz.prog 146 #[.pointer (some ⟨Bw, 0, none⟩), .agg #[e0, e1, e2, e3]] w fun en w' => en = .returned (.bool false) ∧ Below w.heap.size w w' := by
  obtain ⟨p1, p2, _, _⟩ := blk2 hw
  have hlt := heap_lt' hw
  go_enter Tryz.func146, Tryz.ntmps146
  go_wp2_with fail
  go_ret
  exact ⟨rfl, bx1 w _⟩
def LeftOn (w : World) (Bw b o : Nat) (n : Nat) (M : Value) (w' : World) : Prop := ∃ A' c', w'.heap[Bw]? = some (.cells #[.slice A' n c', M] 148 (0, 0)) ∧ (A' = some ⟨b, o + 3, none⟩ ∨ n = 0) ∧ (n ≤ c' ∧ c' ≤ 9223372036854775807) ∧ w.grownBy w' (some Bw)
set_option maxRecDepth 100000 in
set_option maxHeartbeats 1600000 in
theorem does2_some (Bw b o n c : Nat) (M : Value) (w : World) (hw : w.heap[Bw]? = some (.cells #[.slice (some ⟨b, o, none⟩) (n + 1) c, M] 148 (0, 0))) (hc : n + 1 ≤ c) (hc2 : c ≤ 9223372036854775807) (e0 e1 e2 e3 : Value) :
    Calls Tryz.prog 146 #[.pointer (some ⟨Bw, 0, none⟩), .agg #[e0, e1, e2, e3]] w fun en w' => en = .returned (.bool true) ∧ LeftOn w Bw b o n M w' := by
  obtain ⟨p1, p2, p3, p4⟩ := blk2 hw
  have hlt := heap_lt' hw
  have HW := Lib.hid hw; clear hw
  by_cases h1 : c = 1
  · subst h1
    obtain rfl : n = 0 := by omega
    go_enter Tryz.func146, Tryz.ntmps146
    go_wp2_with fail
    go_ret
    exact ⟨rfl, _, _, bx_old (set_blk2 HW.out), Or.inr rfl, ⟨by omega, by omega⟩, ⟨rfl, rfl, rfl, by simp, fun x hx hne => (Below.heap_alloc _ _ x (by simpa using hx)).trans (Below.heap_setCell _ _ _ _ (fun e => hne (by rw [e])))⟩⟩
  · have hn0 : ((n : Int) + 1 == 0) = false := by rw [beq_eq_false_iff_ne]; omega
    go_enter Tryz.func146, Tryz.ntmps146
    go_wp2_with fail
    go_ret
    exact ⟨rfl, _, _, bx_old (set_blk2 HW.out), Or.inl rfl, ⟨by omega, by omega⟩, ⟨rfl, rfl, rfl, by simp, fun x hx hne => (Below.heap_alloc _ _ x (by simpa using hx)).trans (Below.heap_setCell _ _ _ _ (fun e => hne (by rw [e])))⟩⟩
def Worked (w : World) (Bw B : Nat) (V : Option Addr) (L : Value) (n : Nat) (xs : List Value) (w' : World) : Prop := ∃ V' vc', w'.heap[Bw]? = some (.cells #[L, .slice V' n vc'] 148 (0, 0)) ∧ w'.ownsRow B 50 3 (.slice V' n vc') n xs ∧ Below Bw w w' ∧ ∀ x, x < w.heap.size → x ≠ Bw → blkOf V ≠ some x → w'.heap[x]? = w.heap[x]?
theorem worked_of {w W w2 : World} {o : Obj} {Bw B n n' : Nat} {V V' : Option Addr} {vc' : Nat} {L : Value} {xs : List Value} {vc : Nat} (h1 : Below w.heap.size w W) (h2 : (W.alloc o).drew.grownBy w2 (blkOf V) ∨ (W.drew.alloc o).grownBy w2 (blkOf V)) (h3 : w2.heap[Bw]? = some (.cells #[L, .slice V n vc] 148 (0, 0)))
    (h4 : w2.ownsRow B 50 3 (.slice V' n' vc') n' xs) (hBw : Bw < B) (hlt : Bw < w.heap.size) (hVB : ∀ x, blkOf V = some x → B ≤ x) : Worked w Bw B V L n' xs (w2.setCell ⟨Bw, 1, none⟩ (.slice V' n' vc')) := by
  have hW := h1.size
  have hb : ∀ x, x < w.heap.size → x ≠ Bw → blkOf V ≠ some x → (w2.setCell ⟨Bw, 1, none⟩ (.slice V' n' vc')).heap[x]? = w.heap[x]? := fun x hx hne hv => by
    refine (Below.heap_setCell _ _ _ _ hne).trans (Eq.trans ?_ (h1.block x hx))
    rcases h2 with h2 | h2
    · exact (h2.block x (by simp; omega) (fun e => hv e.symm)).trans (Below.heap_alloc W _ x (by omega))
    · exact (h2.block x (by simp; omega) (fun e => hv e.symm)).trans (Below.heap_alloc W.drew _ x (by show x < W.heap.size; omega))
  refine ⟨V', vc', set_blk2' h3, own_agree h4 (fun x hx => Below.heap_setCell _ _ _ _ (by have := (own_blk h4 x hx).1; show x ≠ Bw; omega)), ?_, hb⟩
  have h5 : Below Bw w w2 := by
    rcases h2 with h2 | h2
    · exact (((h1.mono (by omega)).trans ((bx1 W o).mono (by omega))).drew).grown h2 (by simp; omega) (fun k hk => by have := hVB k hk; omega)
    · exact ((((h1.mono (by omega)).drew).trans ((bx1 W.drew o).mono (by show Bw ≤ W.heap.size; omega)))).grown h2 (by simp; omega) (fun k hk => by have := hVB k hk; omega)
  exact h5.setCell (p := ⟨Bw, 1, none⟩) (Nat.le_refl _) _
set_option maxRecDepth 100000 in
set_option maxHeartbeats 3200000 in
theorem does3_any (Bw n vc B : Nat) (V : Option Addr) (L : Value) (ds : List Ld) (e : Le) (w : World) (hw : w.heap[Bw]? = some (.cells #[L, .slice V n vc] 148 (0, 0))) (ho : w.ownsRow B 50 3 (.slice V n vc) n (dfL.all ds)) (hB : B ≤ w.heap.size) (hn : n ≤ 4294967296) (hBB : Bw < B) :
    Calls Tryz.prog 147 #[.pointer (some ⟨Bw, 0, none⟩), .agg #[.int .u8 e.kind, .string e.d.name, .slice e.d.t.A e.d.t.ls.length e.d.t.c, .int .i64 e.d.t.root]] w fun en w' => en = .returned (.bool true) ∧ Worked w Bw B V L (n + 1) (dfL.all (ds ++ [e.d])) w' := by
  obtain ⟨j0, hj, hy0, hy1, hy2⟩ := info_parts infoDef
  have hzc : (Value.agg #[.string ByteArray.empty, .slice none 0 0, .int .i64 0]).cells.size = 3 := rfl
  have HVB := Lib.hid (show ∀ x, blkOf V = some x → B ≤ x from fun x hx => (own_blk ho x hx).1)
  have HVB2 := Lib.hid (show blkOf V ≠ some Bw from fun e => by have := HVB.out Bw e; omega)
  obtain ⟨p1, p2, p3, p4⟩ := blk2 hw
  have hlt := heap_lt' hw
  have HW := Lib.hid hw; have HO := Lib.hid ho; clear hw ho
  go_enter Tryz.func147, Tryz.ntmps147
  go_upto_region 1 with (fail)
  have hWB : Below w.heap.size w (w.alloc (.cells #[.int .u8 e.kind, .string e.d.name, .slice e.d.t.A e.d.t.ls.length e.d.t.c, .int .i64 e.d.t.root] 52)) := bx1 w _
  have hWN := bx_new w (.cells #[.int .u8 e.kind, .string e.d.name, .slice e.d.t.A e.d.t.ls.length e.d.t.c, .int .i64 e.d.t.root] 52)
  generalize (w.alloc (.cells #[.int .u8 e.kind, .string e.d.name, .slice e.d.t.A e.d.t.ls.length e.d.t.c, .int .i64 e.d.t.root] 52)) = W at *
  clear p1 p2 p3 p4
  obtain ⟨p1, p2, p3, p4⟩ := blk2 (bx_kept hWB HW.out)
  have q : W.cell? ⟨w.heap.size, 1, none⟩ = some (.string e.d.name) ∧ W.cell? ⟨w.heap.size, 2, none⟩ = some (.slice e.d.t.A e.d.t.ls.length e.d.t.c) ∧ W.cell? ⟨w.heap.size, 3, none⟩ = some (.int .i64 e.d.t.root) := by simp [World.cell?, hWN]
  obtain ⟨q1, q2, q3⟩ := q
  have HWB := Lib.hid hWB; clear hWB hWN
  have HOW := Lib.hid (show (W.drew.alloc (.cells #[.string e.d.name, .slice e.d.t.A e.d.t.ls.length e.d.t.c, .int .i64 e.d.t.root] 50)).ownsRow B 50 3 (.slice V n vc) n (dfL.all ds) from World.ownsRow.alloc (own_agree HO.out (fun x hx => HWB.out.block x (own_blk HO.out x hx).2)) _)
  have HWS := Lib.hid HWB.out.size
  have HF := Lib.hid (show n + 1 ≤ maxLen ∧ (n + 1) * 48 ≤ 140737488355328 ∧ B ≤ (W.drew.alloc (.cells #[.string e.d.name, .slice e.d.t.A e.d.t.ls.length e.d.t.c, .int .i64 e.d.t.root] 50)).heap.size from ⟨by unfold maxLen; omega, by omega, by have := HWB.out.size; simp; omega⟩)
  have HKB := Lib.hid (show (W.drew.alloc (.cells #[.string e.d.name, .slice e.d.t.A e.d.t.ls.length e.d.t.c, .int .i64 e.d.t.root] 50)).heap[Bw]? = some (.cells #[L, .slice V n vc] 148 (0, 0)) from bx_old (w := W.drew) (by have h := bx_kept HWB.out HW.out; exact h))
  have hBwW : Bw < W.heap.size := by have := HWS.out; omega
  go_region_law ((refine step_append_at (by rfl) (.tmp 9) (.tmp 12) 22 (by rfl) B 50 j0 (.agg #[.string ByteArray.empty, .slice none 0 0, .int .i64 0]) 3 48 Tryz.underlying22 hj hy0 hy1 hy2 hzc (by decide) V vc n (dfL.all ds) (by rfl) HOW.out (some ⟨W.heap.size, 0, none⟩) 1 1 [.string e.d.name, .slice e.d.t.A e.d.t.ls.length e.d.t.c, .int .i64 e.d.t.root] (by rfl) rfl (row_blk (bx_new W.drew _)) (fun u hu => by simp only [List.mem_cons, List.not_mem_nil, or_false] at hu; rcases hu with rfl | rfl | rfl <;> rfl) HF.out.1 HF.out.2.1 HF.out.2.2 ?_; intro V' vc' w2 HO2 HG2 HA2; have HK2 := Lib.hid ((HG2.out.block Bw (heap_lt' HKB.out) (fun e => HVB2.out e.symm)).trans HKB.out); obtain ⟨t1, t2, t3, t4⟩ := blk2 HK2.out))
  all_goals
    go_wp2_with fail
    go_ret
    have ho2 := HO2.out
    rw [show dfL.all ds ++ [Value.string e.d.name, .slice e.d.t.A e.d.t.ls.length e.d.t.c, .int .i64 e.d.t.root] = dfL.all (ds ++ [e.d]) by rw [dfL.all_append, dfL.all_one]; rfl] at ho2
    exact ⟨rfl, worked_of HWB.out (by first | exact Or.inl HG2.out | exact Or.inr HG2.out) HK2.out ho2 hBB hlt HVB.out⟩
def KeptOn (w : World) (Bw B b o m : Nat) (V : Option Addr) (n : Nat) (xs : List Value) (w' : World) : Prop := ∃ A' c', Worked w Bw B V (.slice A' m c') n xs w' ∧ (A' = some ⟨b, o + 3, none⟩ ∨ m = 0) ∧ m ≤ c' ∧ c' ≤ 9223372036854775807
theorem Worked.set {w w2 : World} {Bw B n : Nat} {V : Option Addr} {L u : Value} {xs : List Value} (h : Worked w Bw B V L n xs w2) (hBw : Bw < B) : Worked w Bw B V u n xs (w2.setCell ⟨Bw, 0, none⟩ u) := by
  obtain ⟨V', vc', h1, h2, h3, h4⟩ := h
  exact ⟨V', vc', set_blk2 h1, own_agree h2 (fun x hx => Below.heap_setCell _ _ _ _ (by have := (own_blk h2 x hx).1; show x ≠ Bw; omega)), h3.setCell (p := ⟨Bw, 0, none⟩) (Nat.le_refl _) _, fun x hx hne hv => (Below.heap_setCell _ _ _ _ hne).trans (h4 x hx hne hv)⟩
set_option maxRecDepth 100000 in
set_option maxHeartbeats 3200000 in
theorem does1_some (Bw n vc B b o m c : Nat) (V : Option Addr) (ds : List Ld) (x : Ld) (e : Value) (w : World) (hw : w.heap[Bw]? = some (.cells #[.slice (some ⟨b, o, none⟩) (m + 1) c, .slice V n vc] 148 (0, 0))) (ho : w.ownsRow B 50 3 (.slice V n vc) n (dfL.all ds)) (hB : B ≤ w.heap.size) (hn : n ≤ 4294967296) (hBB : Bw < B) (hc : m + 1 ≤ c) (hc2 : c ≤ 9223372036854775807)
    (x0 : w.cell? ⟨b, o, none⟩ = some (.string x.name)) (x1 : w.cell? ⟨b, o + 1, none⟩ = some (.slice x.t.A x.t.ls.length x.t.c)) (x2 : w.cell? ⟨b, o + 2, none⟩ = some (.int .i64 x.t.root)) (e0 e1 e2 e3 : Value) :
    Calls Tryz.prog 145 #[.pointer (some ⟨Bw, 0, none⟩), .agg #[e0, e1, e2, e3]] w fun en w' => en = .returned (.bool true) ∧ KeptOn w Bw B b o m V (n + 1) (dfL.all (ds ++ [x])) w' := by
  obtain ⟨j0, hj, hy0, hy1, hy2⟩ := info_parts infoDef
  have hzc : (Value.agg #[.string ByteArray.empty, .slice none 0 0, .int .i64 0]).cells.size = 3 := rfl
  have HVB := Lib.hid (show ∀ x, blkOf V = some x → B ≤ x from fun x hx => (own_blk ho x hx).1)
  have HVB2 := Lib.hid (show blkOf V ≠ some Bw from fun e => by have := HVB.out Bw e; omega)
  obtain ⟨p1, p2, p3, p4⟩ := blk2 hw
  have hlt := heap_lt' hw
  have HW := Lib.hid hw; have HO := Lib.hid ho; clear hw ho
  have hn0 : ((m : Int) + 1 == 0) = false := by rw [beq_eq_false_iff_ne]; omega
  go_enter Tryz.func145, Tryz.ntmps145
  go_upto_region 3 with (fail)
  have hWB : Below w.heap.size w (w.alloc (.cells #[e0, e1, e2, e3] 52)) := bx1 w _
  generalize (w.alloc (.cells #[e0, e1, e2, e3] 52)) = W at *
  clear p1 p2 p3 p4
  obtain ⟨p1, p2, p3, p4⟩ := blk2 (bx_kept hWB HW.out)
  have q1 := (hWB.cell (cellLt x0)).trans x0
  have q2 := (hWB.cell (cellLt x1)).trans x1
  have q3 := (hWB.cell (cellLt x2)).trans x2
  have HWB := Lib.hid hWB; clear hWB x0 x1 x2
  have HOW := Lib.hid (show (W.drew.alloc (.cells #[.string x.name, .slice x.t.A x.t.ls.length x.t.c, .int .i64 x.t.root] 50)).ownsRow B 50 3 (.slice V n vc) n (dfL.all ds) from World.ownsRow.alloc (own_agree HO.out (fun x hx => HWB.out.block x (own_blk HO.out x hx).2)) _)
  have HWS := Lib.hid HWB.out.size
  have HF := Lib.hid (show n + 1 ≤ maxLen ∧ (n + 1) * 48 ≤ 140737488355328 ∧ B ≤ (W.drew.alloc (.cells #[.string x.name, .slice x.t.A x.t.ls.length x.t.c, .int .i64 x.t.root] 50)).heap.size from ⟨by unfold maxLen; omega, by omega, by have := HWB.out.size; simp; omega⟩)
  have HKB := Lib.hid (show (W.drew.alloc (.cells #[.string x.name, .slice x.t.A x.t.ls.length x.t.c, .int .i64 x.t.root] 50)).heap[Bw]? = some (.cells #[.slice (some ⟨b, o, none⟩) (m + 1) c, .slice V n vc] 148 (0, 0)) from bx_old (w := W.drew) (by have h := bx_kept HWB.out HW.out; exact h))
  have hBwW : Bw < W.heap.size := by have := HWS.out; omega
  go_region_law ((refine step_append_at (by rfl) (.tmp 15) (.tmp 22) 22 (by rfl) B 50 j0 (.agg #[.string ByteArray.empty, .slice none 0 0, .int .i64 0]) 3 48 Tryz.underlying22 hj hy0 hy1 hy2 hzc (by decide) V vc n (dfL.all ds) (by rfl) HOW.out (some ⟨W.heap.size, 0, none⟩) 1 1 [.string x.name, .slice x.t.A x.t.ls.length x.t.c, .int .i64 x.t.root] (by rfl) rfl (row_blk (bx_new W.drew _)) (fun u hu => by simp only [List.mem_cons, List.not_mem_nil, or_false] at hu; rcases hu with rfl | rfl | rfl <;> rfl) HF.out.1 HF.out.2.1 HF.out.2.2 ?_; intro V' vc' w2 HO2 HG2 HA2; have HK2 := Lib.hid ((HG2.out.block Bw (heap_lt' HKB.out) (fun e => HVB2.out e.symm)).trans HKB.out); obtain ⟨t1, t2, t3, t4⟩ := blk2 HK2.out))
  all_goals
    clear t1 t2 t3 t4 p1 p2 p3 p4 q1 q2 q3
    have HWK := Lib.hid (show Worked w Bw B V (.slice (some ⟨b, o, none⟩) (m + 1) c) (n + 1) (dfL.all (ds ++ [x])) (w2.setCell ⟨Bw, 1, none⟩ (.slice V' (n + 1) vc')) from by
      have ho2 := HO2.out
      rw [show dfL.all ds ++ [Value.string x.name, .slice x.t.A x.t.ls.length x.t.c, .int .i64 x.t.root] = dfL.all (ds ++ [x]) by rw [dfL.all_append, dfL.all_one]; rfl] at ho2
      exact worked_of HWB.out (by first | exact Or.inl HG2.out | exact Or.inr HG2.out) HK2.out ho2 hBB hlt HVB.out)
    generalize (w2.setCell ⟨Bw, 1, none⟩ (.slice V' (n + 1) vc')) = w3 at *
    obtain ⟨V3, vc3, hk3, _⟩ := HWK.out
    obtain ⟨t1, t2, t3, t4⟩ := blk2 hk3
    clear hk3
    by_cases h1 : c = 1
    · subst h1
      obtain rfl : m = 0 := by omega
      go_wp2_with fail
      go_ret
      exact ⟨rfl, _, _, HWK.out.set hBB, Or.inr rfl, by omega, by omega⟩
    · go_wp2_with fail
      go_ret
      exact ⟨rfl, _, _, HWK.out.set hBB, Or.inl rfl, by omega, by omega⟩
set_option maxRecDepth 100000 in
set_option maxHeartbeats 1600000 in
theorem does1_none (Bw : Nat) (A : Option Addr) (c : Nat) (M : Value) (w : World) (hw : w.heap[Bw]? = some (.cells #[.slice A 0 c, M] 148 (0, 0))) (e0 e1 e2 e3 : Value) :
    Calls Tryz.prog 145 #[.pointer (some ⟨Bw, 0, none⟩), .agg #[e0, e1, e2, e3]] w fun en w' => en = .returned (.bool false) ∧ Below w.heap.size w w' := by
  obtain ⟨p1, p2, _, _⟩ := blk2 hw
  have hlt := heap_lt' hw
  go_enter Tryz.func145, Tryz.ntmps145
  go_wp2_with fail
  go_ret
  exact ⟨rfl, bx1 w _⟩
end Go.Proofs.YtmjkgnknfgoadaaGreatDoor
/- The contracts of diff.doings and diff.Apply. -/
namespace Go.Proofs.YtmjkgnknfgoadaaGreatDoor
open Go.RowKit
set_option linter.unusedSimpArgs false
set_option linter.unusedVariables false
section
variable {P : Program} {w : World} {a : Addr} {m : Mode}
end
attribute [local go_sem] run_store_func
set_option maxRecDepth 100000 in
set_option maxHeartbeats 800000 in
theorem doings_any (w : World) :
    Calls Tryz.prog 115 #[] w fun en w' => en = .returned (.agg #[.func (.func 145) #[] #[], .func (.func 146) #[] #[], .func (.func 147) #[] #[]]) ∧ Below w.heap.size w w' := by
  go_enter Tryz.func115, Tryz.ntmps115
  go_wp2_with fail
  refine bodyPost_ret (v := .agg #[.func (.func 145) #[] #[], .func (.func 146) #[] #[], .func (.func 147) #[] #[]]) (by simp [results, Tryz.results115, go_sem]) rfl ⟨rfl, bx1 w _⟩
theorem ap_bad {e : Ed} (left : List Df) (l : List Ed) (h : mayE e = false) : applyL left (e :: l) = ([], 4) := by unfold applyL; rw [if_pos h]
theorem ap_ins {e : Ed} (left : List Df) (l : List Ed) (h : mayE e = true) (hk : e.kind = 2) : applyL left (e :: l) = joinA [e.d] (applyL left l) := by
  cases left <;> rw [applyL] <;> rw [if_neg (by simp [h]), if_pos hk]
theorem ap_none {e : Ed} (l : List Ed) (h : mayE e = true) (hk : e.kind ≠ 2) : applyL [] (e :: l) = ([], 5) := by rw [applyL, if_neg (by simp [h]), if_neg hk]
theorem ap_keep {e : Ed} (x : Df) (r : List Df) (l : List Ed) (h : mayE e = true) (hk : e.kind = 0) : applyL (x :: r) (e :: l) = joinA [x] (applyL r l) := by
  rw [applyL, if_neg (by simp [h]), if_neg (by rw [hk]; decide), if_pos hk]
theorem ap_del {e : Ed} (x : Df) (r : List Df) (l : List Ed) (h : mayE e = true) (hk : e.kind = 1) : applyL (x :: r) (e :: l) = applyL r l := by
  rw [applyL, if_neg (by simp [h]), if_neg (by rw [hk]; decide), if_neg (by rw [hk]; decide)]
theorem mayE_kind {e : Ed} (h : mayE e = true) : e.kind = 0 ∨ e.kind = 1 ∨ e.kind = 2 := by
  simp only [mayE, Bool.or_eq_true, decide_eq_true_eq] at h
  rcases h with h | ⟨h | h, _⟩ <;> simp [h]
theorem worked_agree {w w' : World} {Bw B n : Nat} {V : Option Addr} {L : Value} {xs : List Value} {x1 x2 : Nat} (h : Worked w.drew Bw B V L n xs w') (h1 : Bw < x2) (h2 : Bw < x1) (hx : x2 < x1 ∧ x1 < w.heap.size) (hV : ∀ x, blkOf V = some x → x2 + 1 ≤ x ∧ x < x1) : Agree (fun x => x = x1 ∨ x = x2) w w' := by
  obtain ⟨V', vc', _, _, _, h4⟩ := h
  intro x hxx hlt
  exact h4 x hlt (by rcases hxx with rfl | rfl <;> omega) (fun e => by have := hV x e; rcases hxx with rfl | rfl <;> omega)
def ApplyPost (r : List Df × Int) (w : World) (e : Ending) (w' : World) : Prop := ∃ (V : Option Addr) (vc : Nat) (ds : List Ld), e = .returned (.tuple #[.agg #[.slice V ds.length vc], .int .i64 r.2]) ∧ ds.map Ld.df = r.1 ∧ GramOwn w' (w.heap.size ≤ ·) V vc ds ∧ Below w.heap.size w w'
def ApplyRel (w : World) (H HA HD : Nat) (S T : Nat → Prop) (ds : List Ld) (es : List Le) (i : Value) (wr : World) : Prop :=
  ∃ (k : Nat) (left made : List Ld) (A V : Option Addr) (c vc : Nat), k ≤ es.length ∧ i = .int .i64 k ∧ left.length ≤ ds.length ∧ made.length ≤ ds.length + k ∧ Hid (left.length ≤ c ∧ c ≤ 9223372036854775807) ∧
    Hid (applyL (ds.map Ld.df) (es.map Le.ed) = joinA (made.map Ld.df) (applyL (left.map Ld.df) ((es.map Le.ed).drop k))) ∧
    Hid (dfL.row w S A left) ∧ Hid (∀ d ∈ left, DMod d) ∧ Hid (∀ d ∈ made, DMod d ∧ (dfL.inn w S d ∨ dfL.inn w T d)) ∧
    Hid (wr.heap[H + 1 + 1]? = some (.cells #[.slice A left.length c, .slice V made.length vc] 148 (0, 0))) ∧ Hid (wr.ownsRow HD 50 3 (.slice V made.length vc) made.length (dfL.all made)) ∧
    Hid (wr.heap[H + 1]? = some (.cells #[.slice none 0 0] 24 (0, 0))) ∧ Hid (wr.heap[HA]? = some (.cells #[.func (.func 145) #[] #[], .func (.func 146) #[] #[], .func (.func 147) #[] #[]] 150 (0, 0))) ∧
    Hid (Below H w wr) ∧ Hid (HD ≤ wr.heap.size)
set_option maxRecDepth 100000 in
set_option maxHeartbeats 12800000 in
theorem apply_any (A L : Option Addr) (c lc : Nat) (ds : List Ld) (es : List Le) (S T : Nat → Prop) (w : World) (hA : dfL.row w S A ds) (hL : edL.row w T L es) (hl : ds.length ≤ 100000) (hc : ds.length ≤ c ∧ c ≤ 9223372036854775807) (hel : es.length ≤ 100000)
    (hm : ∀ d ∈ ds, DMod d) (hme : ∀ e ∈ es, DMod e.d) :
    Calls Tryz.prog 71 #[.agg #[.slice A ds.length c], .slice L es.length lc] w (ApplyPost (applyL (ds.map Ld.df) (es.map Le.ed)) w) := by
  have HTA := Lib.hid hA; have HTL := Lib.hid hL; have HM := Lib.hid hm; have HME := Lib.hid hme; have HCC := Lib.hid hc
  clear hA hL hm hme hc
  unfold ApplyPost
  go_enter Tryz.func71, Tryz.ntmps71
  go_wp2_with (go_at_call 115; refine (doings_any _).mono ?_; rintro e w1 ⟨rfl, hb⟩; have HB1 := Lib.hid hb; clear hb)
  have HK1 := Lib.hid (show w1.heap[w.heap.size + 1]? = some (.cells #[.slice none 0 0] 24 (0, 0)) from bx_kept HB1.out (bx_old (by have h := bx_new (w.alloc (.cells #[.slice A ds.length c] 24)) (.cells #[.slice none 0 0] 24); simpa using h)))
  have HK2 := Lib.hid (show w1.heap[w.heap.size + 1 + 1]? = some (.cells #[.slice A ds.length c, .slice none 0 0] 148 (0, 0)) from bx_kept HB1.out (by have h := bx_new ((w.alloc (.cells #[.slice A ds.length c] 24)).alloc (.cells #[.slice none 0 0] 24)) (.cells #[.slice A ds.length c, .slice none 0 0] 148); simpa using h))
  have HBW := Lib.hid (show Below w.heap.size w w1 from Below.step (bx3 w _ _ _) HB1.out)
  have HW1 := Lib.hid (show w.heap.size + 3 ≤ w1.heap.size from by have h := HB1.out.size; simpa using h)
  clear HB1
  have hw1 := HW1.out
  go_loopw [17] (fun i wr => ApplyRel w w.heap.size w1.heap.size (w1.heap.size + 1) S T ds es i wr) (fun i _ => es.length - (intOf i).toNat)
  case atStart =>
    exact ⟨0, ds, [], A, none, c, 0, Nat.zero_le _, rfl, Nat.le_refl _, Nat.zero_le _, HCC, Lib.hid (by simp [joinA_nil _ (applyL_bad _ _)]), HTA, HM, Lib.hid (by simp), Lib.hid (bx_old HK2.out), Lib.hid (World.ownsRow_nil _ _ _ _), Lib.hid (bx_old HK1.out), Lib.hid (bx_new w1 _), Lib.hid (HBW.out.trans ((bx1 w1 _).mono (by omega))), Lib.hid (by simp)⟩
  case round =>
    clear HK1 HK2
    obtain ⟨k, left, made, LA, V, lc2, vc, hk, rfl, hll, hml, HLC, HAP, HLR, HLM, HMD, HK2, HOW, HK1, HKA, HB, HDS⟩ := hrel
    have hds := HDS.out
    by_cases hlt : k < es.length
    · have i1 : (k : Int) < (es.length : Int) := by omega
      have i2 : (0 : Int) ≤ (k : Int) := by omega
      obtain ⟨eb, eo, rfl, _, _, x0, x1, x2, x3⟩ := edRow (HTL.out.agree (below_all HB.out)) k hlt
      have HIN := Lib.hid (HTL.out.sub k hlt)
      have HEM := Lib.hid (HME.out es[k] (List.getElem_mem hlt))
      have HST := Lib.hid (show (es.map Le.ed).drop k = es[k].ed :: (es.map Le.ed).drop (k + 1) from by rw [List.drop_eq_getElem_cons (by simpa using hlt)]; simp)
      generalize es[k] = e at *
      obtain ⟨kd, dd⟩ := e
      simp only at x0 x1 x2 x3
      cases hmay : mayE (Le.ed ⟨kd, dd⟩)
      · have HR := Lib.hid (show applyL (ds.map Ld.df) (es.map Le.ed) = ([], 4) from by rw [HAP.out, HST.out, ap_bad _ _ hmay]; rfl)
        as_aux_lemma =>
          go_wp2_with (go_at_call 116; refine (emay_any ⟨kd, dd⟩ _ HIN.out.1).mono ?_; rintro e w2 ⟨rfl, hb⟩; rw [hmay]; have HB2 := Lib.hid (show Below w.heap.size w w2 from (HB.out.trans ((bx1 wr _).mono HB.out.size)).trans (hb.mono (by have := HB.out.size; simp; omega))); obtain ⟨s1, s2⟩ := blk1 (bx_kept hb (bx_old HK1.out)); clear hb)
          refine bodyPost_ret (v := .tuple #[.agg #[.slice none 0 0], .int .i64 4]) (by simp [results, Tryz.results71, go_sem, s1]) rfl ?_
          rw [HR.out]
          exact ⟨none, 0, [], rfl, rfl, gram_nil _ _, HB2.out.setCell (p := ⟨w.heap.size + 1, 0, none⟩) (by simp) _⟩
      · have HMY := Lib.hid hmay
        have hkk := mayE_kind hmay
        go_wp2_with (go_at_call 116; go_loud (refine (emay_any ⟨kd, dd⟩ _ HIN.out.1).mono ?_; rintro e w2 ⟨rfl, hb⟩; rw [hmay]; have HBw := Lib.hid (show Below w.heap.size w w2 from (HB.out.trans ((bx1 wr _).mono HB.out.size)).trans (hb.mono (by have := HB.out.size; simp; omega))); have HBX := Lib.hid (bx_kept hb (bx_new wr _)); have HK2w := Lib.hid (bx_kept hb (bx_old HK2.out)); have HK1w := Lib.hid (bx_kept hb (bx_old HK1.out)); have HKAw := Lib.hid (bx_kept hb (bx_old HKA.out)); have HOWw := Lib.hid (own_agree HOW.out (fun x hx => (Below.step (bx1 wr _) hb).block x (own_blk HOW.out x hx).2)); have HZ := Lib.hid (show wr.heap.size < w2.heap.size from by have := hb.size; simp at this; omega); have HBR := Lib.hid (show Below wr.heap.size wr w2 from Below.step (bx1 wr _) hb); clear hb))
        have HVL := Lib.hid (show ∀ x, blkOf V = some x → w1.heap.size + 1 ≤ x ∧ x < wr.heap.size from fun x hx => own_blk HOW.out x hx)
        have HWR := Lib.hid (show w.heap.size + 1 + 1 < w1.heap.size ∧ w1.heap.size < wr.heap.size ∧ wr.heap.size < w2.heap.size from ⟨by omega, by omega, HZ.out⟩)
        have HOD := Lib.hid (show w2.drew.ownsRow (w1.heap.size + 1) 50 3 (.slice V made.length vc) made.length (dfL.all made) from own_agree HOWw.out (fun _ _ => rfl))
        have HZD := Lib.hid (show w1.heap.size + 1 ≤ w2.drew.heap.size ∧ made.length ≤ 4294967296 ∧ w.heap.size + 1 + 1 < w1.heap.size + 1 from ⟨by have := HZ.out; show _ ≤ w2.heap.size; omega, by omega, by omega⟩)
        rcases hkk with hk0 | hk0 | hk0
        · obtain rfl : kd = 0 := hk0
          cases left with
          | nil =>
            have HR := Lib.hid (show applyL (ds.map Ld.df) (es.map Le.ed) = ([], 5) from by rw [HAP.out, HST.out]; show joinA _ (applyL [] _) = _; rw [ap_none _ hmay (by simp [Le.ed])]; rfl)
            as_aux_lemma =>
              have HSB := Lib.hid (show ∀ w', Agree (fun x => x = wr.heap.size ∨ x = w1.heap.size) w2 w' → w'.cell? ⟨wr.heap.size, 0, none⟩ = some (.int .u8 0) ∧ w'.cell? ⟨wr.heap.size, 1, none⟩ = some (.string dd.name) ∧ w'.cell? ⟨wr.heap.size, 2, none⟩ = some (.slice dd.t.A dd.t.ls.length dd.t.c) ∧ w'.cell? ⟨wr.heap.size, 3, none⟩ = some (.int .i64 dd.t.root) ∧ w'.cell? ⟨w1.heap.size, 0, none⟩ = some (.func (.func 145) #[] #[]) from fun w' ha => by
                have h1 := (ha wr.heap.size (Or.inl rfl) (heap_lt' HBX.out)).trans HBX.out
                have h2 := (ha w1.heap.size (Or.inr rfl) (heap_lt' HKAw.out)).trans HKAw.out
                refine ⟨?_, ?_, ?_, ?_, ?_⟩ <;> simp [World.cell?, h1, h2])
              have HKD := Lib.hid (show w2.drew.heap[w.heap.size + 1 + 1]? = some (.cells #[.slice LA 0 lc2, .slice V made.length vc] 148 (0, 0)) from HK2w.out)
              go_region_held3 (fun w' => w'.cell? ⟨wr.heap.size, 0, none⟩ = some (.int .u8 0) ∧ w'.cell? ⟨wr.heap.size, 1, none⟩ = some (.string dd.name) ∧ w'.cell? ⟨wr.heap.size, 2, none⟩ = some (.slice dd.t.A dd.t.ls.length dd.t.c) ∧ w'.cell? ⟨wr.heap.size, 3, none⟩ = some (.int .i64 dd.t.root) ∧ w'.cell? ⟨w1.heap.size, 0, none⟩ = some (.func (.func 145) #[] #[]))
                (first | exact HSB.out _ (drew_agree _ _) | exact HSB.out _ HA5.out)
                (((go_at_call 145; (with_reducible refine (does1_none (w.heap.size + 1 + 1) LA lc2 (.slice V made.length vc) w2.drew HKD.out _ _ _ _).mono ?_)); rintro e w5 ⟨rfl, hwk⟩; have HWK := Lib.hid hwk; have HA5 := Lib.hid (show Agree (fun x => x = wr.heap.size ∨ x = w1.heap.size) w2 w5 from fun x _ hx => hwk.block x hx); clear hwk))
              have HB5 := Lib.hid (show Below w2.heap.size w2 w5 from (Below.refl _ w2).drew.trans HWK.out)
              have HK5 := Lib.hid (bx_kept HB5.out HK1w.out)
              obtain ⟨s1, s2⟩ := blk1 HK5.out
              go_wp2_with fail
              refine bodyPost_ret (v := .tuple #[.agg #[.slice none 0 0], .int .i64 5]) (by simp [results, Tryz.results71, go_sem, s1]) rfl ?_
              rw [HR.out]
              exact ⟨none, 0, [], rfl, rfl, gram_nil _ _, (Below.step HBw.out HB5.out).setCell (p := ⟨w.heap.size + 1, 0, none⟩) (by simp) _⟩
          | cons x r =>
            have HLC2 := Lib.hid (show r.length + 1 ≤ lc2 ∧ lc2 ≤ 9223372036854775807 from HLC.out)
            obtain ⟨lb, lo, rfl, _, _, y0, y1, y2⟩ := dfRow (HLR.out.agree (below_all HBw.out)) 0 (by simp)
            simp only [Nat.zero_mul, Nat.add_zero, List.getElem_cons_zero] at y0 y1 y2
            have HY := Lib.hid (show w2.drew.cell? ⟨lb, lo, none⟩ = some (.string x.name) ∧ w2.drew.cell? ⟨lb, lo + 1, none⟩ = some (.slice x.t.A x.t.ls.length x.t.c) ∧ w2.drew.cell? ⟨lb, lo + 2, none⟩ = some (.int .i64 x.t.root) from ⟨y0, y1, y2⟩)
            clear y0 y1 y2
            as_aux_lemma =>
              have HSB := Lib.hid (show ∀ w', Agree (fun x => x = wr.heap.size ∨ x = w1.heap.size) w2 w' → w'.cell? ⟨wr.heap.size, 0, none⟩ = some (.int .u8 0) ∧ w'.cell? ⟨wr.heap.size, 1, none⟩ = some (.string dd.name) ∧ w'.cell? ⟨wr.heap.size, 2, none⟩ = some (.slice dd.t.A dd.t.ls.length dd.t.c) ∧ w'.cell? ⟨wr.heap.size, 3, none⟩ = some (.int .i64 dd.t.root) ∧ w'.cell? ⟨w1.heap.size, 0, none⟩ = some (.func (.func 145) #[] #[]) from fun w' ha => by
                have h1 := (ha wr.heap.size (Or.inl rfl) (heap_lt' HBX.out)).trans HBX.out
                have h2 := (ha w1.heap.size (Or.inr rfl) (heap_lt' HKAw.out)).trans HKAw.out
                refine ⟨?_, ?_, ?_, ?_, ?_⟩ <;> simp [World.cell?, h1, h2])
              have HKD := Lib.hid (show w2.drew.heap[w.heap.size + 1 + 1]? = some (.cells #[.slice (some ⟨lb, lo, none⟩) (r.length + 1) lc2, .slice V made.length vc] 148 (0, 0)) from HK2w.out)
              go_region_held3 (fun w' => w'.cell? ⟨wr.heap.size, 0, none⟩ = some (.int .u8 0) ∧ w'.cell? ⟨wr.heap.size, 1, none⟩ = some (.string dd.name) ∧ w'.cell? ⟨wr.heap.size, 2, none⟩ = some (.slice dd.t.A dd.t.ls.length dd.t.c) ∧ w'.cell? ⟨wr.heap.size, 3, none⟩ = some (.int .i64 dd.t.root) ∧ w'.cell? ⟨w1.heap.size, 0, none⟩ = some (.func (.func 145) #[] #[]))
                (first | exact HSB.out _ (drew_agree _ _) | exact HSB.out _ HA5.out)
                (((go_at_call 145; (with_reducible refine (does1_some (w.heap.size + 1 + 1) made.length vc (w1.heap.size + 1) lb lo r.length lc2 V made x undef w2.drew HKD.out HOD.out HZD.out.1 HZD.out.2.1 HZD.out.2.2 HLC2.out.1 HLC2.out.2 HY.out.1 HY.out.2.1 HY.out.2.2 _ _ _ _).mono ?_)); rintro e w5 ⟨rfl, hwk⟩; have HWK := Lib.hid hwk; have HA5 := Lib.hid (show Agree (fun x => x = wr.heap.size ∨ x = w1.heap.size) w2 w5 from worked_agree hwk.choose_spec.choose_spec.1 HWR.out.1 (by have := HWR.out.2; omega) HWR.out.2 HVL.out); clear hwk))
              obtain ⟨A', c', ⟨V', vc', h1, h2, h3, h4⟩, hA', hc1, hc2⟩ := HWK.out
              have h5 : ∀ x, x < w2.heap.size → x ≠ w.heap.size + 1 + 1 → blkOf V ≠ some x → w5.heap[x]? = w2.heap[x]? := h4
              have H1 := Lib.hid h1; have H2 := Lib.hid h2; have H3 := Lib.hid h3; have H5 := Lib.hid h5; have HAA := Lib.hid hA'; have HC' := Lib.hid (And.intro hc1 hc2)
              clear h1 h2 h3 h4 h5 hA' hc1 hc2
              go_wp2_with fail
              have hvl := HVL.out
              have hwr := HWR.out
              exact ⟨⟨k + 1, r, made ++ [x], A', V', c', vc', by omega, by go_num, by simp at hll; omega, by simp at hll ⊢; omega, HC', Lib.hid (by
                rw [HAP.out, HST.out]; show joinA _ (applyL (x.df :: r.map Ld.df) _) = _; rw [ap_keep _ _ _ HMY.out rfl, joinA_join]; simp), Lib.hid (tail_row HLR.out HAA.out), Lib.hid (fun d hd => HLM.out d (List.mem_cons_of_mem _ hd)), Lib.hid (made_add HMD.out (HLM.out x List.mem_cons_self) (Or.inl (HLR.out.2 x List.mem_cons_self))), Lib.hid (by simpa using H1.out), Lib.hid (by simpa using H2.out), Lib.hid ((H5.out _ (by omega) (by omega) (fun e => by have := hvl _ e; omega)).trans HK1w.out), Lib.hid ((H5.out _ (by omega) (by omega) (fun e => by have := hvl _ e; omega)).trans HKAw.out), Lib.hid (HBw.out.trans ((Below.drew (Below.refl _ w2)).trans (H3.out.mono (by omega)))), Lib.hid (by have := H3.out.size; have : w2.heap.size ≤ w5.heap.size := this; omega)⟩, by simp only [intOf]; omega⟩
        · obtain rfl : kd = 1 := hk0
          cases left with
          | nil =>
            have HR := Lib.hid (show applyL (ds.map Ld.df) (es.map Le.ed) = ([], 5) from by rw [HAP.out, HST.out]; show joinA _ (applyL [] _) = _; rw [ap_none _ hmay (by simp [Le.ed])]; rfl)
            as_aux_lemma =>
              have HSB := Lib.hid (show ∀ w', Agree (fun x => x = wr.heap.size ∨ x = w1.heap.size) w2 w' → w'.cell? ⟨wr.heap.size, 0, none⟩ = some (.int .u8 1) ∧ w'.cell? ⟨wr.heap.size, 1, none⟩ = some (.string dd.name) ∧ w'.cell? ⟨wr.heap.size, 2, none⟩ = some (.slice dd.t.A dd.t.ls.length dd.t.c) ∧ w'.cell? ⟨wr.heap.size, 3, none⟩ = some (.int .i64 dd.t.root) ∧ w'.cell? ⟨w1.heap.size, 1, none⟩ = some (.func (.func 146) #[] #[]) from fun w' ha => by
                have h1 := (ha wr.heap.size (Or.inl rfl) (heap_lt' HBX.out)).trans HBX.out
                have h2 := (ha w1.heap.size (Or.inr rfl) (heap_lt' HKAw.out)).trans HKAw.out
                refine ⟨?_, ?_, ?_, ?_, ?_⟩ <;> simp [World.cell?, h1, h2])
              have HKD := Lib.hid (show w2.drew.heap[w.heap.size + 1 + 1]? = some (.cells #[.slice LA 0 lc2, .slice V made.length vc] 148 (0, 0)) from HK2w.out)
              go_region_held3 (fun w' => w'.cell? ⟨wr.heap.size, 0, none⟩ = some (.int .u8 1) ∧ w'.cell? ⟨wr.heap.size, 1, none⟩ = some (.string dd.name) ∧ w'.cell? ⟨wr.heap.size, 2, none⟩ = some (.slice dd.t.A dd.t.ls.length dd.t.c) ∧ w'.cell? ⟨wr.heap.size, 3, none⟩ = some (.int .i64 dd.t.root) ∧ w'.cell? ⟨w1.heap.size, 1, none⟩ = some (.func (.func 146) #[] #[]))
                (first | exact HSB.out _ (drew_agree _ _) | exact HSB.out _ HA5.out)
                (((go_at_call 146; (with_reducible refine (does2_none (w.heap.size + 1 + 1) LA lc2 (.slice V made.length vc) undef w2.drew HKD.out _ _ _ _).mono ?_)); rintro e w5 ⟨rfl, hwk⟩; have HWK := Lib.hid hwk; have HA5 := Lib.hid (show Agree (fun x => x = wr.heap.size ∨ x = w1.heap.size) w2 w5 from fun x _ hx => hwk.block x hx); clear hwk))
              have HB5 := Lib.hid (show Below w2.heap.size w2 w5 from (Below.refl _ w2).drew.trans HWK.out)
              have HK5 := Lib.hid (bx_kept HB5.out HK1w.out)
              obtain ⟨s1, s2⟩ := blk1 HK5.out
              go_wp2_with fail
              refine bodyPost_ret (v := .tuple #[.agg #[.slice none 0 0], .int .i64 5]) (by simp [results, Tryz.results71, go_sem, s1]) rfl ?_
              rw [HR.out]
              exact ⟨none, 0, [], rfl, rfl, gram_nil _ _, (Below.step HBw.out HB5.out).setCell (p := ⟨w.heap.size + 1, 0, none⟩) (by simp) _⟩
          | cons x r =>
            have HLC2 := Lib.hid (show r.length + 1 ≤ lc2 ∧ lc2 ≤ 9223372036854775807 from HLC.out)
            obtain ⟨lb, lo, rfl, _, _, _, _, _⟩ := dfRow (HLR.out.agree (below_all HBw.out)) 0 (by simp)
            as_aux_lemma =>
              have HSB := Lib.hid (show ∀ w', Agree (fun x => x = wr.heap.size ∨ x = w1.heap.size) w2 w' → w'.cell? ⟨wr.heap.size, 0, none⟩ = some (.int .u8 1) ∧ w'.cell? ⟨wr.heap.size, 1, none⟩ = some (.string dd.name) ∧ w'.cell? ⟨wr.heap.size, 2, none⟩ = some (.slice dd.t.A dd.t.ls.length dd.t.c) ∧ w'.cell? ⟨wr.heap.size, 3, none⟩ = some (.int .i64 dd.t.root) ∧ w'.cell? ⟨w1.heap.size, 1, none⟩ = some (.func (.func 146) #[] #[]) from fun w' ha => by
                have h1 := (ha wr.heap.size (Or.inl rfl) (heap_lt' HBX.out)).trans HBX.out
                have h2 := (ha w1.heap.size (Or.inr rfl) (heap_lt' HKAw.out)).trans HKAw.out
                refine ⟨?_, ?_, ?_, ?_, ?_⟩ <;> simp [World.cell?, h1, h2])
              have HKD := Lib.hid (show w2.drew.heap[w.heap.size + 1 + 1]? = some (.cells #[.slice (some ⟨lb, lo, none⟩) (r.length + 1) lc2, .slice V made.length vc] 148 (0, 0)) from HK2w.out)
              go_region_held3 (fun w' => w'.cell? ⟨wr.heap.size, 0, none⟩ = some (.int .u8 1) ∧ w'.cell? ⟨wr.heap.size, 1, none⟩ = some (.string dd.name) ∧ w'.cell? ⟨wr.heap.size, 2, none⟩ = some (.slice dd.t.A dd.t.ls.length dd.t.c) ∧ w'.cell? ⟨wr.heap.size, 3, none⟩ = some (.int .i64 dd.t.root) ∧ w'.cell? ⟨w1.heap.size, 1, none⟩ = some (.func (.func 146) #[] #[]))
                (first | exact HSB.out _ (drew_agree _ _) | exact HSB.out _ HA5.out)
                (((go_at_call 146; (with_reducible refine (does2_some (w.heap.size + 1 + 1) lb lo r.length lc2 (.slice V made.length vc) w2.drew HKD.out HLC2.out.1 HLC2.out.2 _ _ _ _).mono ?_)); rintro e w5 ⟨rfl, hwk⟩; have HWK := Lib.hid hwk; have HA5 := Lib.hid (show Agree (fun x => x = wr.heap.size ∨ x = w1.heap.size) w2 w5 from fun x hx hxl => hwk.choose_spec.choose_spec.2.2.2.block x hxl (fun e => by have := HWR.out; injection e with e; rcases hx with hx | hx <;> omega)); clear hwk))
              obtain ⟨A', c', h1, hA', ⟨hc1, hc2⟩, h3⟩ := HWK.out
              have h5 : ∀ x, x < w2.heap.size → x ≠ w.heap.size + 1 + 1 → w5.heap[x]? = w2.heap[x]? := fun x hx hne => h3.block x hx (fun e => hne (by injection e))
              have H1 := Lib.hid h1; have H3 := Lib.hid h3; have H5 := Lib.hid h5; have HAA := Lib.hid hA'; have HC' := Lib.hid (And.intro hc1 hc2)
              clear h1 h3 h5 hA' hc1 hc2
              go_wp2_with fail
              have hvl := HVL.out
              have hwr := HWR.out
              exact ⟨⟨k + 1, r, made, A', V, c', vc, by omega, by go_num, by simp at hll; omega, by simp at hll ⊢; omega, HC', Lib.hid (by
                rw [HAP.out, HST.out]; show joinA _ (applyL (x.df :: r.map Ld.df) _) = _; rw [ap_del _ _ _ HMY.out rfl]), Lib.hid (tail_row HLR.out HAA.out), Lib.hid (fun d hd => HLM.out d (List.mem_cons_of_mem _ hd)), HMD, H1, Lib.hid (own_agree HOWw.out (fun x hx => H5.out x (own_blk HOWw.out x hx).2 (by have := hvl x hx; omega))), Lib.hid ((H5.out _ (by omega) (by omega)).trans HK1w.out), Lib.hid ((H5.out _ (by omega) (by omega)).trans HKAw.out), Lib.hid ((Below.drew HBw.out).grown H3.out (by show _ ≤ w2.heap.size; omega) (fun k hk => by injection hk with hk; omega)), Lib.hid (by have := H3.out.size; have : w2.heap.size ≤ w5.heap.size := this; omega)⟩, by simp only [intOf]; omega⟩
        · obtain rfl : kd = 2 := hk0
          as_aux_lemma =>
            have HSB := Lib.hid (show ∀ w', Agree (fun x => x = wr.heap.size ∨ x = w1.heap.size) w2 w' → w'.cell? ⟨wr.heap.size, 0, none⟩ = some (.int .u8 2) ∧ w'.cell? ⟨wr.heap.size, 1, none⟩ = some (.string dd.name) ∧ w'.cell? ⟨wr.heap.size, 2, none⟩ = some (.slice dd.t.A dd.t.ls.length dd.t.c) ∧ w'.cell? ⟨wr.heap.size, 3, none⟩ = some (.int .i64 dd.t.root) ∧ w'.cell? ⟨w1.heap.size, 2, none⟩ = some (.func (.func 147) #[] #[]) from fun w' ha => by
              have h1 := (ha wr.heap.size (Or.inl rfl) (heap_lt' HBX.out)).trans HBX.out
              have h2 := (ha w1.heap.size (Or.inr rfl) (heap_lt' HKAw.out)).trans HKAw.out
              refine ⟨?_, ?_, ?_, ?_, ?_⟩ <;> simp [World.cell?, h1, h2])
            have HKD := Lib.hid (show w2.drew.heap[w.heap.size + 1 + 1]? = some (.cells #[.slice LA left.length lc2, .slice V made.length vc] 148 (0, 0)) from HK2w.out)
            go_region_held3 (fun w' => w'.cell? ⟨wr.heap.size, 0, none⟩ = some (.int .u8 2) ∧ w'.cell? ⟨wr.heap.size, 1, none⟩ = some (.string dd.name) ∧ w'.cell? ⟨wr.heap.size, 2, none⟩ = some (.slice dd.t.A dd.t.ls.length dd.t.c) ∧ w'.cell? ⟨wr.heap.size, 3, none⟩ = some (.int .i64 dd.t.root) ∧ w'.cell? ⟨w1.heap.size, 2, none⟩ = some (.func (.func 147) #[] #[]))
              (first | exact HSB.out _ (drew_agree _ _) | exact HSB.out _ HA5.out)
              (((go_at_call 147; (with_reducible refine (does3_any (w.heap.size + 1 + 1) made.length vc (w1.heap.size + 1) V (.slice LA left.length lc2) made ⟨2, dd⟩ w2.drew HKD.out HOD.out HZD.out.1 HZD.out.2.1 HZD.out.2.2).mono ?_)); rintro e w5 ⟨rfl, hwk⟩; have HWK := Lib.hid hwk; have HA5 := Lib.hid (show Agree (fun x => x = wr.heap.size ∨ x = w1.heap.size) w2 w5 from worked_agree hwk HWR.out.1 (by have := HWR.out.2; omega) HWR.out.2 HVL.out); clear hwk))
            obtain ⟨V', vc', h1, h2, h3, h4⟩ := HWK.out
            have h5 : ∀ x, x < w2.heap.size → x ≠ w.heap.size + 1 + 1 → blkOf V ≠ some x → w5.heap[x]? = w2.heap[x]? := h4
            have H1 := Lib.hid h1; have H2 := Lib.hid h2; have H3 := Lib.hid h3; have H5 := Lib.hid h5
            clear h1 h2 h3 h4 h5
            go_wp2_with fail
            have hvl := HVL.out
            have hwr := HWR.out
            exact ⟨⟨k + 1, left, made ++ [dd], LA, V', lc2, vc', by omega, by go_num, hll, by simp; omega, HLC, Lib.hid (by
              rw [HAP.out, HST.out, ap_ins _ _ HMY.out rfl, joinA_join]; simp; rfl), HLR, HLM, Lib.hid (made_add HMD.out HEM.out (Or.inr HIN.out.2)), Lib.hid (by simpa using H1.out), Lib.hid (by simpa using H2.out), Lib.hid ((H5.out _ (by omega) (by omega) (fun e => by have := hvl _ e; omega)).trans HK1w.out), Lib.hid ((H5.out _ (by omega) (by omega) (fun e => by have := hvl _ e; omega)).trans HKAw.out), Lib.hid (HBw.out.trans ((Below.drew (Below.refl _ w2)).trans (H3.out.mono (by omega)))), Lib.hid (by have := H3.out.size; have : w2.heap.size ≤ w5.heap.size := this; omega)⟩, by simp only [intOf]; omega⟩
    · obtain rfl : k = es.length := by omega
      have HE := Lib.hid (show applyL (ds.map Ld.df) (es.map Le.ed) = joinA (made.map Ld.df) (applyL (left.map Ld.df) []) from by
        have h := HAP.out
        rw [List.drop_of_length_le (by simp)] at h
        exact h)
      obtain ⟨p1, p2, _, _⟩ := blk2 HK2.out
      cases left with
      | cons x r =>
        have HR := Lib.hid (show applyL (ds.map Ld.df) (es.map Le.ed) = ([], 8) from HE.out.trans (by simp [applyL, joinA]))
        obtain ⟨s1, s2⟩ := blk1 HK1.out
        have hn0 : (0 : Int) < ((x :: r).length : Int) := by simp
        as_aux_lemma =>
          go_wp2_with fail
          refine bodyPost_ret (v := .tuple #[.agg #[.slice none 0 0], .int .i64 8]) (by simp [results, Tryz.results71, go_sem, s1]) rfl ?_
          rw [HR.out]
          exact ⟨none, 0, [], rfl, rfl, gram_nil _ _, HB.out.setCell (p := ⟨w.heap.size + 1, 0, none⟩) (by simp) _⟩
      | nil =>
        have HR := Lib.hid (show applyL (ds.map Ld.df) (es.map Le.ed) = (made.map Ld.df, 0) from HE.out.trans (by simp [applyL, joinA]))
        have HMR := Lib.hid (show dfL.row wr (fun _ => True) V made from ⟨own_rowIn HOW.out (fun _ _ => trivial), fun d hd => by
          rcases (HMD.out d hd).2 with h | h
          · exact dfL.mono (dfL.agree h (below_all HB.out)) (fun _ _ _ => trivial)
          · exact dfL.mono (dfL.agree h (below_all HB.out)) (fun _ _ _ => trivial)⟩)
        have hz := HB.out.size
        as_aux_lemma =>
          simp only [List.length_nil] at p1
          go_wp2_with (go_at_call 100; refine (gcopy_any V vc made (fun _ => True) _ HMR.out (by omega) (fun d hd => (HMD.out d hd).1)).mono ?_; rintro e w5 ⟨V5, vc5, ds5, rfl, hdf, hgo, hb5⟩; have HDF := Lib.hid hdf; have HGO := Lib.hid hgo; have HB5 := Lib.hid hb5; obtain ⟨s1, s2⟩ := blk1 (bx_kept hb5 HK1.out); clear hdf hgo hb5)
          refine bodyPost_ret (v := .tuple #[.agg #[.slice V5 ds5.length vc5], .int .i64 0]) (by simp [results, Tryz.results71, go_sem, s1]) rfl ?_
          rw [HR.out]
          have hk1 := heap_lt' HK1.out
          refine ⟨V5, vc5, ds5, rfl, HDF.out, ((HGO.out.agree (fun x hx _ => Below.heap_setCell _ _ _ _ (by have hx : wr.heap.size ≤ x := hx; show x ≠ w.heap.size + 1; omega))).mono (fun x hx => by have hx : wr.heap.size ≤ x := hx; show w.heap.size ≤ x; omega)), ?_⟩
          exact (Below.step HB.out HB5.out).setCell (p := ⟨w.heap.size + 1, 0, none⟩) (by simp) _
end Go.Proofs.YtmjkgnknfgoadaaGreatDoor
