/- The contracts of the closures that diff.doings hands back. -/
import Derived.Test.YtbfjanfhgpgmdaaDoorDv
namespace Go.Proofs.YtbfjanfhgpgmdaaDoor
open Go.RowKit
set_option linter.unusedSimpArgs false
set_option linter.unusedVariables false

/-- A row without its first rule. -/
theorem df_tail {w : World} {S : Nat → Prop} {b o : Nat} {x : Ld} {r : List Ld} (h : dfL.row w S (some ⟨b, o, none⟩) (x :: r)) : dfL.row w S (some ⟨b, o + 3, none⟩) r := by
  refine ⟨⟨fun j u hu => ?_, fun hr ad e => ?_⟩, fun d hd => h.2 d (List.mem_cons_of_mem _ hd)⟩
  · refine ⟨_, rfl, ?_⟩
    obtain ⟨ad, e, hc⟩ := h.1.1 (3 + j) u (by
      have e2 : dfL.all (x :: r) = dfL.cells x ++ dfL.all r := by simp [Lay.all]
      rw [e2, List.getElem?_append_right (by rw [dfL.len]; show 3 ≤ 3 + j; omega), dfL.len]
      show (dfL.all r)[3 + j - 3]? = _
      rw [show 3 + j - 3 = j by omega]; exact hu)
    cases e
    rw [Addr.add_lit] at hc ⊢
    rw [show o + 3 + j = o + (3 + j) by omega]; exact hc
  · cases e
    exact h.1.2 (fun e => by
      have h := dfL.all_length (x :: r)
      rw [e] at h
      have := Nat.mul_pos (show 0 < (x :: r).length by simp) (show 0 < dfL.size by decide)
      rw [← h] at this; simp at this) ⟨b, o, none⟩ rfl

set_option maxRecDepth 100000 in
set_option maxHeartbeats 1600000 in
theorem does2_none (Bw : Nat) (A : Option Addr) (c : Nat) (M : Value) (e : Value) (w : World) (hw : w.heap[Bw]? = some (.cells #[.slice A 0 c, M] 87 (0, 0))) (e0 e1 e2 e3 : Value) :
    Calls Tryd.prog 69 #[.pointer (some ⟨Bw, 0, none⟩), .agg #[e0, e1, e2, e3]] w fun en w' => en = .returned (.bool false) ∧ Below w.heap.size w w' := by
  obtain ⟨p1, p2, _, _⟩ := blk2 hw
  have hlt := heap_lt' hw
  go_enter Tryd.func69, Tryd.ntmps69
  go_wp2_with fail
  go_ret
  exact ⟨rfl, bx1 w _⟩
/-- What a closure leaves of the work: the rules that are left begin one further on. -/
def LeftOn (w : World) (Bw b o : Nat) (n : Nat) (M : Value) (w' : World) : Prop := ∃ A' c', w'.heap[Bw]? = some (.cells #[.slice A' n c', M] 87 (0, 0)) ∧ (A' = some ⟨b, o + 3, none⟩ ∨ n = 0) ∧ (n ≤ c' ∧ c' ≤ 9223372036854775807) ∧ w.grownBy w' (some Bw)
set_option maxRecDepth 100000 in
set_option maxHeartbeats 1600000 in
theorem does2_some (Bw b o n c : Nat) (M : Value) (w : World) (hw : w.heap[Bw]? = some (.cells #[.slice (some ⟨b, o, none⟩) (n + 1) c, M] 87 (0, 0))) (hc : n + 1 ≤ c) (hc2 : c ≤ 9223372036854775807) (e0 e1 e2 e3 : Value) :
    Calls Tryd.prog 69 #[.pointer (some ⟨Bw, 0, none⟩), .agg #[e0, e1, e2, e3]] w fun en w' => en = .returned (.bool true) ∧ LeftOn w Bw b o n M w' := by
  obtain ⟨p1, p2, p3, p4⟩ := blk2 hw
  have hlt := heap_lt' hw
  have HW := Lib.hid hw; clear hw
  by_cases h1 : c = 1
  · subst h1
    obtain rfl : n = 0 := by omega
    go_enter Tryd.func69, Tryd.ntmps69
    go_wp2_with fail
    go_ret
    exact ⟨rfl, _, _, bx_old (set_blk2 HW.out), Or.inr rfl, ⟨by omega, by omega⟩, ⟨rfl, rfl, rfl, by simp, fun x hx hne => (Below.heap_alloc _ _ x (by simpa using hx)).trans (Below.heap_setCell _ _ _ _ (fun e => hne (by rw [e])))⟩⟩
  · have hn0 : ((n : Int) + 1 == 0) = false := by rw [beq_eq_false_iff_ne]; omega
    go_enter Tryd.func69, Tryd.ntmps69
    go_wp2_with fail
    go_ret
    exact ⟨rfl, _, _, bx_old (set_blk2 HW.out), Or.inl rfl, ⟨by omega, by omega⟩, ⟨rfl, rfl, rfl, by simp, fun x hx hne => (Below.heap_alloc _ _ x (by simpa using hx)).trans (Below.heap_setCell _ _ _ _ (fun e => hne (by rw [e])))⟩⟩
theorem set_blk2' {w : World} {b : Nat} {x y u : Value} {T : TypeId} (h : w.heap[b]? = some (.cells #[x, y] T (0, 0))) : (w.setCell ⟨b, 1, none⟩ u).heap[b]? = some (.cells #[x, u] T (0, 0)) := by
  have := heap_setCell_same w b 1 _ T u h
  simpa using this
/-- What a closure leaves of the work: what is left, and a rule more. -/
def Worked (w : World) (Bw B : Nat) (V : Option Addr) (L : Value) (n : Nat) (xs : List Value) (w' : World) : Prop := ∃ V' vc', w'.heap[Bw]? = some (.cells #[L, .slice V' n vc'] 87 (0, 0)) ∧ w'.ownsRow B 36 3 (.slice V' n vc') n xs ∧ Below Bw w w' ∧ ∀ x, x < w.heap.size → x ≠ Bw → blkOf V ≠ some x → w'.heap[x]? = w.heap[x]?
theorem worked_of {w W w2 : World} {o : Obj} {Bw B n n' : Nat} {V V' : Option Addr} {vc' : Nat} {L : Value} {xs : List Value} {vc : Nat} (h1 : Below w.heap.size w W) (h2 : (W.alloc o).drew.grownBy w2 (blkOf V) ∨ (W.drew.alloc o).grownBy w2 (blkOf V)) (h3 : w2.heap[Bw]? = some (.cells #[L, .slice V n vc] 87 (0, 0)))
    (h4 : w2.ownsRow B 36 3 (.slice V' n' vc') n' xs) (hBw : Bw < B) (hlt : Bw < w.heap.size) (hVB : ∀ x, blkOf V = some x → B ≤ x) : Worked w Bw B V L n' xs (w2.setCell ⟨Bw, 1, none⟩ (.slice V' n' vc')) := by
  have hW := h1.size
  have hb : ∀ x, x < w.heap.size → x ≠ Bw → blkOf V ≠ some x → (w2.setCell ⟨Bw, 1, none⟩ (.slice V' n' vc')).heap[x]? = w.heap[x]? := fun x hx hne hv => by
    refine (Below.heap_setCell _ _ _ _ hne).trans (Eq.trans ?_ (h1.block x hx))
    rcases h2 with h2 | h2
    · exact (h2.block x (by simp; omega) (fun e => hv e.symm)).trans (Below.heap_alloc W _ x (by omega))
    · exact (h2.block x (by simp; omega) (fun e => hv e.symm)).trans (Below.heap_alloc W.drew _ x (by show x < W.heap.size; omega))
  refine ⟨V', vc', set_blk2' h3, own_agree h4 (fun x hx => Below.heap_setCell _ _ _ _ (by have := (own_blk h4 x hx).1; show x ≠ Bw; omega)), ?_, hb⟩
  have h5 : Below Bw w w2 := by
    rcases h2 with h2 | h2
    · exact (((h1.mono (by omega)).trans ((bx1 W o).mono (by omega))).drew).grown h2 (by simp; omega) (fun k hk => by have := hVB k hk; omega)
    · exact ((((h1.mono (by omega)).drew).trans ((bx1 W.drew o).mono (by show Bw ≤ W.heap.size; omega)))).grown h2 (by simp; omega) (fun k hk => by have := hVB k hk; omega)
  exact h5.setCell (p := ⟨Bw, 1, none⟩) (Nat.le_refl _) _
set_option maxRecDepth 100000 in
set_option maxHeartbeats 3200000 in
theorem does3_any (Bw n vc B : Nat) (V : Option Addr) (L : Value) (ds : List Ld) (e : Le) (w : World) (hw : w.heap[Bw]? = some (.cells #[L, .slice V n vc] 87 (0, 0))) (ho : w.ownsRow B 36 3 (.slice V n vc) n (dfL.all ds)) (hB : B ≤ w.heap.size) (hn : n ≤ 4294967296) (hBB : Bw < B) :
    Calls Tryd.prog 70 #[.pointer (some ⟨Bw, 0, none⟩), .agg #[.int .u8 e.kind, .string e.d.name, .slice e.d.t.A e.d.t.ls.length e.d.t.c, .int .i64 e.d.t.root]] w fun en w' => en = .returned (.bool true) ∧ Worked w Bw B V L (n + 1) (dfL.all (ds ++ [e.d])) w' := by
  obtain ⟨j0, hj, hy0, hy1, hy2⟩ := info_parts infoDef
  have hzc : (Value.agg #[.string ByteArray.empty, .slice none 0 0, .int .i64 0]).cells.size = 3 := rfl
  have HVB := Lib.hid (show ∀ x, blkOf V = some x → B ≤ x from fun x hx => (own_blk ho x hx).1)
  have HVB2 := Lib.hid (show blkOf V ≠ some Bw from fun e => by have := HVB.out Bw e; omega)
  obtain ⟨p1, p2, p3, p4⟩ := blk2 hw
  have hlt := heap_lt' hw
  have HW := Lib.hid hw; have HO := Lib.hid ho; clear hw ho
  go_enter Tryd.func70, Tryd.ntmps70
  go_upto_region 1 with (fail)
  have hWB : Below w.heap.size w (w.alloc (.cells #[.int .u8 e.kind, .string e.d.name, .slice e.d.t.A e.d.t.ls.length e.d.t.c, .int .i64 e.d.t.root] 38)) := bx1 w _
  have hWN := bx_new w (.cells #[.int .u8 e.kind, .string e.d.name, .slice e.d.t.A e.d.t.ls.length e.d.t.c, .int .i64 e.d.t.root] 38)
  generalize (w.alloc (.cells #[.int .u8 e.kind, .string e.d.name, .slice e.d.t.A e.d.t.ls.length e.d.t.c, .int .i64 e.d.t.root] 38)) = W at *
  clear p1 p2 p3 p4
  obtain ⟨p1, p2, p3, p4⟩ := blk2 (bx_kept hWB HW.out)
  have q : W.cell? ⟨w.heap.size, 1, none⟩ = some (.string e.d.name) ∧ W.cell? ⟨w.heap.size, 2, none⟩ = some (.slice e.d.t.A e.d.t.ls.length e.d.t.c) ∧ W.cell? ⟨w.heap.size, 3, none⟩ = some (.int .i64 e.d.t.root) := by simp [World.cell?, hWN]
  obtain ⟨q1, q2, q3⟩ := q
  have HWB := Lib.hid hWB; clear hWB hWN
  have HOW := Lib.hid (show (W.drew.alloc (.cells #[.string e.d.name, .slice e.d.t.A e.d.t.ls.length e.d.t.c, .int .i64 e.d.t.root] 36)).ownsRow B 36 3 (.slice V n vc) n (dfL.all ds) from World.ownsRow.alloc (own_agree HO.out (fun x hx => HWB.out.block x (own_blk HO.out x hx).2)) _)
  have HWS := Lib.hid HWB.out.size
  have HF := Lib.hid (show n + 1 ≤ maxLen ∧ (n + 1) * 48 ≤ 140737488355328 ∧ B ≤ (W.drew.alloc (.cells #[.string e.d.name, .slice e.d.t.A e.d.t.ls.length e.d.t.c, .int .i64 e.d.t.root] 36)).heap.size from ⟨by unfold maxLen; omega, by omega, by have := HWB.out.size; simp; omega⟩)
  have HKB := Lib.hid (show (W.drew.alloc (.cells #[.string e.d.name, .slice e.d.t.A e.d.t.ls.length e.d.t.c, .int .i64 e.d.t.root] 36)).heap[Bw]? = some (.cells #[L, .slice V n vc] 87 (0, 0)) from bx_old (w := W.drew) (by have h := bx_kept HWB.out HW.out; exact h))
  have hBwW : Bw < W.heap.size := by have := HWS.out; omega
  go_region_law ((refine step_append_at (by rfl) (.tmp 9) (.tmp 12) 22 (by rfl) B 36 j0 (.agg #[.string ByteArray.empty, .slice none 0 0, .int .i64 0]) 3 48 Tryd.underlying22 hj hy0 hy1 hy2 hzc (by decide) V vc n (dfL.all ds) (by rfl) HOW.out (some ⟨W.heap.size, 0, none⟩) 1 1 [.string e.d.name, .slice e.d.t.A e.d.t.ls.length e.d.t.c, .int .i64 e.d.t.root] (by rfl) rfl (row_blk (bx_new W.drew _)) (fun u hu => by simp only [List.mem_cons, List.not_mem_nil, or_false] at hu; rcases hu with rfl | rfl | rfl <;> rfl) HF.out.1 HF.out.2.1 HF.out.2.2 ?_; intro V' vc' w2 HO2 HG2 HA2; have HK2 := Lib.hid ((HG2.out.block Bw (heap_lt' HKB.out) (fun e => HVB2.out e.symm)).trans HKB.out); obtain ⟨t1, t2, t3, t4⟩ := blk2 HK2.out))
  all_goals
    go_wp2_with fail
    go_ret
    have ho2 := HO2.out
    rw [show dfL.all ds ++ [Value.string e.d.name, .slice e.d.t.A e.d.t.ls.length e.d.t.c, .int .i64 e.d.t.root] = dfL.all (ds ++ [e.d]) by rw [dfL.all_append, dfL.all_one]; rfl] at ho2
    exact ⟨rfl, worked_of HWB.out (by first | exact Or.inl HG2.out | exact Or.inr HG2.out) HK2.out ho2 hBB hlt HVB.out⟩
/-- What the first closure leaves of the work. -/
def KeptOn (w : World) (Bw B b o m : Nat) (V : Option Addr) (n : Nat) (xs : List Value) (w' : World) : Prop := ∃ A' c', Worked w Bw B V (.slice A' m c') n xs w' ∧ (A' = some ⟨b, o + 3, none⟩ ∨ m = 0) ∧ m ≤ c' ∧ c' ≤ 9223372036854775807
theorem Worked.set {w w2 : World} {Bw B n : Nat} {V : Option Addr} {L u : Value} {xs : List Value} (h : Worked w Bw B V L n xs w2) (hBw : Bw < B) : Worked w Bw B V u n xs (w2.setCell ⟨Bw, 0, none⟩ u) := by
  obtain ⟨V', vc', h1, h2, h3, h4⟩ := h
  exact ⟨V', vc', set_blk2 h1, own_agree h2 (fun x hx => Below.heap_setCell _ _ _ _ (by have := (own_blk h2 x hx).1; show x ≠ Bw; omega)), h3.setCell (p := ⟨Bw, 0, none⟩) (Nat.le_refl _) _, fun x hx hne hv => (Below.heap_setCell _ _ _ _ hne).trans (h4 x hx hne hv)⟩
set_option maxRecDepth 100000 in
set_option maxHeartbeats 3200000 in
theorem does1_some (Bw n vc B b o m c : Nat) (V : Option Addr) (ds : List Ld) (x : Ld) (e : Value) (w : World) (hw : w.heap[Bw]? = some (.cells #[.slice (some ⟨b, o, none⟩) (m + 1) c, .slice V n vc] 87 (0, 0))) (ho : w.ownsRow B 36 3 (.slice V n vc) n (dfL.all ds)) (hB : B ≤ w.heap.size) (hn : n ≤ 4294967296) (hBB : Bw < B) (hc : m + 1 ≤ c) (hc2 : c ≤ 9223372036854775807)
    (x0 : w.cell? ⟨b, o, none⟩ = some (.string x.name)) (x1 : w.cell? ⟨b, o + 1, none⟩ = some (.slice x.t.A x.t.ls.length x.t.c)) (x2 : w.cell? ⟨b, o + 2, none⟩ = some (.int .i64 x.t.root)) (e0 e1 e2 e3 : Value) :
    Calls Tryd.prog 68 #[.pointer (some ⟨Bw, 0, none⟩), .agg #[e0, e1, e2, e3]] w fun en w' => en = .returned (.bool true) ∧ KeptOn w Bw B b o m V (n + 1) (dfL.all (ds ++ [x])) w' := by
  obtain ⟨j0, hj, hy0, hy1, hy2⟩ := info_parts infoDef
  have hzc : (Value.agg #[.string ByteArray.empty, .slice none 0 0, .int .i64 0]).cells.size = 3 := rfl
  have HVB := Lib.hid (show ∀ x, blkOf V = some x → B ≤ x from fun x hx => (own_blk ho x hx).1)
  have HVB2 := Lib.hid (show blkOf V ≠ some Bw from fun e => by have := HVB.out Bw e; omega)
  obtain ⟨p1, p2, p3, p4⟩ := blk2 hw
  have hlt := heap_lt' hw
  have HW := Lib.hid hw; have HO := Lib.hid ho; clear hw ho
  have hn0 : ((m : Int) + 1 == 0) = false := by rw [beq_eq_false_iff_ne]; omega
  go_enter Tryd.func68, Tryd.ntmps68
  go_upto_region 3 with (fail)
  have hWB : Below w.heap.size w (w.alloc (.cells #[e0, e1, e2, e3] 38)) := bx1 w _
  generalize (w.alloc (.cells #[e0, e1, e2, e3] 38)) = W at *
  clear p1 p2 p3 p4
  obtain ⟨p1, p2, p3, p4⟩ := blk2 (bx_kept hWB HW.out)
  have q1 := (hWB.cell (cellLt x0)).trans x0
  have q2 := (hWB.cell (cellLt x1)).trans x1
  have q3 := (hWB.cell (cellLt x2)).trans x2
  have HWB := Lib.hid hWB; clear hWB x0 x1 x2
  have HOW := Lib.hid (show (W.drew.alloc (.cells #[.string x.name, .slice x.t.A x.t.ls.length x.t.c, .int .i64 x.t.root] 36)).ownsRow B 36 3 (.slice V n vc) n (dfL.all ds) from World.ownsRow.alloc (own_agree HO.out (fun x hx => HWB.out.block x (own_blk HO.out x hx).2)) _)
  have HWS := Lib.hid HWB.out.size
  have HF := Lib.hid (show n + 1 ≤ maxLen ∧ (n + 1) * 48 ≤ 140737488355328 ∧ B ≤ (W.drew.alloc (.cells #[.string x.name, .slice x.t.A x.t.ls.length x.t.c, .int .i64 x.t.root] 36)).heap.size from ⟨by unfold maxLen; omega, by omega, by have := HWB.out.size; simp; omega⟩)
  have HKB := Lib.hid (show (W.drew.alloc (.cells #[.string x.name, .slice x.t.A x.t.ls.length x.t.c, .int .i64 x.t.root] 36)).heap[Bw]? = some (.cells #[.slice (some ⟨b, o, none⟩) (m + 1) c, .slice V n vc] 87 (0, 0)) from bx_old (w := W.drew) (by have h := bx_kept HWB.out HW.out; exact h))
  have hBwW : Bw < W.heap.size := by have := HWS.out; omega
  go_region_law ((refine step_append_at (by rfl) (.tmp 15) (.tmp 22) 22 (by rfl) B 36 j0 (.agg #[.string ByteArray.empty, .slice none 0 0, .int .i64 0]) 3 48 Tryd.underlying22 hj hy0 hy1 hy2 hzc (by decide) V vc n (dfL.all ds) (by rfl) HOW.out (some ⟨W.heap.size, 0, none⟩) 1 1 [.string x.name, .slice x.t.A x.t.ls.length x.t.c, .int .i64 x.t.root] (by rfl) rfl (row_blk (bx_new W.drew _)) (fun u hu => by simp only [List.mem_cons, List.not_mem_nil, or_false] at hu; rcases hu with rfl | rfl | rfl <;> rfl) HF.out.1 HF.out.2.1 HF.out.2.2 ?_; intro V' vc' w2 HO2 HG2 HA2; have HK2 := Lib.hid ((HG2.out.block Bw (heap_lt' HKB.out) (fun e => HVB2.out e.symm)).trans HKB.out); obtain ⟨t1, t2, t3, t4⟩ := blk2 HK2.out))
  all_goals
    clear t1 t2 t3 t4 p1 p2 p3 p4 q1 q2 q3
    have HWK := Lib.hid (show Worked w Bw B V (.slice (some ⟨b, o, none⟩) (m + 1) c) (n + 1) (dfL.all (ds ++ [x])) (w2.setCell ⟨Bw, 1, none⟩ (.slice V' (n + 1) vc')) from by
      have ho2 := HO2.out
      rw [show dfL.all ds ++ [Value.string x.name, .slice x.t.A x.t.ls.length x.t.c, .int .i64 x.t.root] = dfL.all (ds ++ [x]) by rw [dfL.all_append, dfL.all_one]; rfl] at ho2
      exact worked_of HWB.out (by first | exact Or.inl HG2.out | exact Or.inr HG2.out) HK2.out ho2 hBB hlt HVB.out)
    generalize (w2.setCell ⟨Bw, 1, none⟩ (.slice V' (n + 1) vc')) = w3 at *
    obtain ⟨V3, vc3, hk3, _⟩ := HWK.out
    obtain ⟨t1, t2, t3, t4⟩ := blk2 hk3
    clear hk3
    by_cases h1 : c = 1
    · subst h1
      obtain rfl : m = 0 := by omega
      go_wp2_with fail
      go_ret
      exact ⟨rfl, _, _, HWK.out.set hBB, Or.inr rfl, by omega, by omega⟩
    · go_wp2_with fail
      go_ret
      exact ⟨rfl, _, _, HWK.out.set hBB, Or.inl rfl, by omega, by omega⟩
set_option maxRecDepth 100000 in
set_option maxHeartbeats 1600000 in
theorem does1_none (Bw : Nat) (A : Option Addr) (c : Nat) (M : Value) (w : World) (hw : w.heap[Bw]? = some (.cells #[.slice A 0 c, M] 87 (0, 0))) (e0 e1 e2 e3 : Value) :
    Calls Tryd.prog 68 #[.pointer (some ⟨Bw, 0, none⟩), .agg #[e0, e1, e2, e3]] w fun en w' => en = .returned (.bool false) ∧ Below w.heap.size w w' := by
  obtain ⟨p1, p2, _, _⟩ := blk2 hw
  have hlt := heap_lt' hw
  go_enter Tryd.func68, Tryd.ntmps68
  go_wp2_with fail
  go_ret
  exact ⟨rfl, bx1 w _⟩
end Go.Proofs.YtbfjanfhgpgmdaaDoor
