/- The walk of the statement NameNames. -/
import Derived.Test.YtjbeblbiajegmaaDoorLaw1
import Derived.Test.YtjbeblbiajegmaaDoorName4
import Derived.Test.YtjbeblbiajegmaaDoorApp
import Derived.Lib.SlBytesConst
namespace Go.Proofs.YtjbeblbiajegmaaDoor
open Go.RowKit

def as32 : List UInt8 := List.replicate 32 97
def as33 : List UInt8 := List.replicate 33 97
def bs32 : List UInt8 := List.replicate 32 98
def cs31 : List UInt8 := List.replicate 31 99
def cs312 : List UInt8 := cs31 ++ [50]
theorem copies_c (l r : List UInt8) (n : Nat) (w : World) (h : (List.replicate n l).flatten = r) (hl : l.length ≤ 64) (hn : n ≤ 64) :
    Calls Tryd.prog 18 #[.string ⟨l.toArray⟩, .int .i64 n] w fun e w' => e = .returned (.string ⟨r.toArray⟩) ∧ w = w' := by
  refine (copies_any ⟨l.toArray⟩ n w (by simp [ByteArray.size]; omega) hn).mono ?_
  rintro e w' ⟨t, rfl, ht, rfl⟩
  exact ⟨ret_str (by rw [ht]; simpa using h), rfl⟩

theorem compare_c (a b : List UInt8) (c : Int) (w : World) (h : Lib.compareBytes a b = c) :
    Calls Tryd.prog 19 #[.string ⟨a.toArray⟩, .string ⟨b.toArray⟩] w fun e w' => e = .returned (.int .i64 c) ∧ w = w' := by
  refine (compare_any ⟨a.toArray⟩ ⟨b.toArray⟩ w).mono ?_
  rintro e w' ⟨rfl, rfl⟩
  exact ⟨ret_int (by simpa using h), rfl⟩

/-- Bytes next to letters. -/
def bad13 : List Int := [64, 91, 96, 123, 47, 58, 94, 0, 128, 255, 45, 48, 57]
theorem bad13_at (j : Nat) (h : j < 13) : (#[Value.int .u8 64, .int .u8 91, .int .u8 96, .int .u8 123, .int .u8 47, .int .u8 58, .int .u8 94, .int .u8 0, .int .u8 128, .int .u8 255, .int .u8 45, .int .u8 48, .int .u8 57])[j]? = some (.int .u8 (bad13.getD j 0)) := by
  have : j = 0 ∨ j = 1 ∨ j = 2 ∨ j = 3 ∨ j = 4 ∨ j = 5 ∨ j = 6 ∨ j = 7 ∨ j = 8 ∨ j = 9 ∨ j = 10 ∨ j = 11 ∨ j = 12 := by omega
  rcases this with rfl | rfl | rfl | rfl | rfl | rfl | rfl | rfl | rfl | rfl | rfl | rfl | rfl <;> rfl
theorem bad13_no_fin : ∀ k : Fin 13, isLetter (bad13.getD k.val 0) = false ∧ mayL (strOfNums [bad13.getD k.val 0]).data.toList = false := by decide +kernel
theorem bad13_no (k : Nat) (h : k < 13) : isLetter (bad13.getD k 0) = false ∧ mayL (strOfNums [bad13.getD k 0]).data.toList = false := bad13_no_fin ⟨k, h⟩

/-- Numbers at their ends, as they lie in memory, and as rows. -/
def arr44 : Array Value := #[.string ⟨#[48]⟩, .int .i64 0, .int .i64 0, .int .i64 0, .string ⟨#[48]⟩, .int .i64 (-1), .int .i64 0, .int .i64 40, .string ⟨#[]⟩, .int .i64 5, .int .i64 0, .int .i64 4, .string ⟨#[48, 48]⟩, .int .i64 5, .int .i64 0, .int .i64 4, .string ⟨#[45, 49]⟩, .int .i64 5, .int .i64 0, .int .i64 4, .string ⟨#[49, 32]⟩, .int .i64 5, .int .i64 0, .int .i64 4, .string ⟨#[57, 50, 50, 51, 51, 55, 50, 48, 51, 54, 56, 53, 52, 55, 55, 53, 56, 48, 55]⟩, .int .i64 9223372036854775807, .int .i64 9223372036854775807, .int .i64 0, .string ⟨#[57, 50, 50, 51, 51, 55, 50, 48, 51, 54, 56, 53, 52, 55, 55, 53, 56, 48, 56]⟩, .int .i64 9223372036854775807, .int .i64 0, .int .i64 40, .string ⟨#[57, 57, 57, 57, 57, 57, 57, 57, 57, 57, 57, 57, 57, 57, 57, 57, 57, 57, 57, 57, 120]⟩, .int .i64 9, .int .i64 0, .int .i64 4, .string ⟨#[57, 57]⟩, .int .i64 99, .int .i64 99, .int .i64 0, .string ⟨#[49, 48, 48]⟩, .int .i64 99, .int .i64 0, .int .i64 40]
def tab11 : List (List UInt8 × Int × Int × Int) := [([48], 0, 0, 0), ([48], -1, 0, 40), ([], 5, 0, 4), ([48, 48], 5, 0, 4), ([45, 49], 5, 0, 4), ([49, 32], 5, 0, 4), ([57, 50, 50, 51, 51, 55, 50, 48, 51, 54, 56, 53, 52, 55, 55, 53, 56, 48, 55], 9223372036854775807, 9223372036854775807, 0), ([57, 50, 50, 51, 51, 55, 50, 48, 51, 54, 56, 53, 52, 55, 55, 53, 56, 48, 56], 9223372036854775807, 0, 40), ([57, 57, 57, 57, 57, 57, 57, 57, 57, 57, 57, 57, 57, 57, 57, 57, 57, 57, 57, 57, 120], 9, 0, 4), ([57, 57], 99, 99, 0), ([49, 48, 48], 99, 0, 40)]
theorem arr44_at (k : Nat) (h : k < 11) : arr44[k * 4]? = some (.string ⟨((tab11.getD k ([], 0, 0, 0)).1).toArray⟩) ∧ arr44[k * 4 + 1]? = some (.int .i64 (tab11.getD k ([], 0, 0, 0)).2.1) ∧ arr44[k * 4 + 1 + 1]? = some (.int .i64 (tab11.getD k ([], 0, 0, 0)).2.2.1) ∧ arr44[k * 4 + 1 + 1 + 1]? = some (.int .i64 (tab11.getD k ([], 0, 0, 0)).2.2.2) := by
  have : k = 0 ∨ k = 1 ∨ k = 2 ∨ k = 3 ∨ k = 4 ∨ k = 5 ∨ k = 6 ∨ k = 7 ∨ k = 8 ∨ k = 9 ∨ k = 10 := by omega
  rcases this with rfl | rfl | rfl | rfl | rfl | rfl | rfl | rfl | rfl | rfl | rfl <;> exact ⟨rfl, rfl, rfl, rfl⟩
theorem arr44_cells (w : World) (t : TypeId) (k : Nat) (h : k < 11) : (w.alloc (.cells arr44 t)).cell? ⟨w.heap.size, k * 4, none⟩ = some (.string ⟨((tab11.getD k ([], 0, 0, 0)).1).toArray⟩) ∧ (w.alloc (.cells arr44 t)).cell? ⟨w.heap.size, k * 4 + 1, none⟩ = some (.int .i64 (tab11.getD k ([], 0, 0, 0)).2.1) ∧
    (w.alloc (.cells arr44 t)).cell? ⟨w.heap.size, k * 4 + 1 + 1, none⟩ = some (.int .i64 (tab11.getD k ([], 0, 0, 0)).2.2.1) ∧ (w.alloc (.cells arr44 t)).cell? ⟨w.heap.size, k * 4 + 1 + 1 + 1, none⟩ = some (.int .i64 (tab11.getD k ([], 0, 0, 0)).2.2.2) := by
  have h0 : (w.alloc (.cells arr44 t)).heap[w.heap.size]? = some (.cells arr44 t (0, 0)) := World.alloc_heap_new w _
  simp only [cell_of_row _ _ _ _ _ _ h0]
  exact arr44_at k h
theorem tab11_fin : ∀ k : Fin 11, numL (tab11.getD k.val ([], 0, 0, 0)).1 (tab11.getD k.val ([], 0, 0, 0)).2.1 = (tab11.getD k.val ([], 0, 0, 0)).2.2 ∧ (tab11.getD k.val ([], 0, 0, 0)).1.length ≤ 64 ∧ (tab11.getD k.val ([], 0, 0, 0)).2.1 ≤ 9223372036854775807 := by decide +kernel
theorem tab11_ok (k : Nat) (h : k < 11) : ∃ (l : List UInt8) (m n e : Int), tab11.getD k ([], 0, 0, 0) = (l, m, n, e) ∧ numL l m = (n, e) ∧ l.length ≤ 64 ∧ m ≤ 9223372036854775807 := by
  obtain ⟨h1, h2, h3⟩ := tab11_fin ⟨k, h⟩
  exact ⟨_, _, _, _, rfl, h1, h2, h3⟩

set_option maxRecDepth 100000 in
set_option maxHeartbeats 2000000 in
theorem nameNames_walk (w : World) (ht : Tab w) (hg : 1 < w.heap.size) :
    Calls Tryd.prog 7 #[] w fun e w' => e = .returned (.bool true) ∧ Below w.heap.size w w' := by
  have kc := fun (w : World) (C : Array Value) (n c : Nat) => Lib.run_convert_bytes_const (P := Tryd.prog) w 35 5 C n c Tryd.underlying35 Tryd.underlying5
  go_enter Tryd.func7, Tryd.ntmps7
  go_wp2_with fail
  refine (works_any _ ht hg).mono ?_
  rintro e w1 ⟨rfl, hB⟩
  go_wp2_with fail
  refine (copies_c [97] as32 32 _ (by decide) (by decide) (by decide)).mono ?_
  rintro e w' ⟨rfl, rfl⟩
  go_wp2_with fail
  refine (may_c as32 true w _ (by decide +kernel) (by decide) hB).mono ?_
  clear hB
  rintro e w1 ⟨rfl, hB⟩
  go_wp2_with fail
  refine (copies_c [97] as33 33 _ (by decide) (by decide) (by decide)).mono ?_
  rintro e w' ⟨rfl, rfl⟩
  go_wp2_with fail
  refine (may_c as33 false w _ (by decide +kernel) (by decide) hB).mono ?_
  clear hB
  rintro e w1 ⟨rfl, hB⟩
  go_wp2_with fail
  refine (take_c [] [] w _ (by decide +kernel) (by decide) hB).mono ?_
  clear hB
  rintro e w1 ⟨rfl, hB⟩
  go_wp2_with fail
  refine (take_c [57, 97] [] w _ (by decide +kernel) (by decide) hB).mono ?_
  clear hB
  rintro e w1 ⟨rfl, hB⟩
  go_wp2_with fail
  refine (take_c [97, 57, 128] [97, 57] w _ (by decide +kernel) (by decide) hB).mono ?_
  clear hB
  rintro e w1 ⟨rfl, hB⟩
  go_wp2_with fail
  have hcell0 : ∀ j, (h : j < 13) → (w1.alloc (.cells #[.int .u8 64, .int .u8 91, .int .u8 96, .int .u8 123, .int .u8 47, .int .u8 58, .int .u8 94, .int .u8 0, .int .u8 128, .int .u8 255, .int .u8 45, .int .u8 48, .int .u8 57] 5 (13, 14))).cell? ⟨w1.heap.size, j, none⟩ = some (.int .u8 (bad13.getD j 0)) := by
    intro j hj
    have h0 : (w1.alloc (.cells #[.int .u8 64, .int .u8 91, .int .u8 96, .int .u8 123, .int .u8 47, .int .u8 58, .int .u8 94, .int .u8 0, .int .u8 128, .int .u8 255, .int .u8 45, .int .u8 48, .int .u8 57] 5 (13, 14))).heap[w1.heap.size]? = some (.cells #[.int .u8 64, .int .u8 91, .int .u8 96, .int .u8 123, .int .u8 47, .int .u8 58, .int .u8 94, .int .u8 0, .int .u8 128, .int .u8 255, .int .u8 45, .int .u8 48, .int .u8 57] 5 (13, 14)) := World.alloc_heap_new w1 _
    rw [cell_of_row _ _ _ _ _ _ h0]
    exact bad13_at j hj
  have hBa := hB.alloc hB.size (.cells #[.int .u8 64, .int .u8 91, .int .u8 96, .int .u8 123, .int .u8 47, .int .u8 58, .int .u8 94, .int .u8 0, .int .u8 128, .int .u8 255, .int .u8 45, .int .u8 48, .int .u8 57] 5 (13, 14))
  have hBsz : w1.heap.size < (w1.alloc (.cells #[.int .u8 64, .int .u8 91, .int .u8 96, .int .u8 123, .int .u8 47, .int .u8 58, .int .u8 94, .int .u8 0, .int .u8 128, .int .u8 255, .int .u8 45, .int .u8 48, .int .u8 57] 5 (13, 14))).heap.size := by simp
  obtain ⟨b0, hb0⟩ : ∃ b0, b0 = w1.heap.size := ⟨_, rfl⟩
  rw [← hb0] at hcell0 hBsz ⊢
  generalize w1.alloc (.cells #[.int .u8 64, .int .u8 91, .int .u8 96, .int .u8 123, .int .u8 47, .int .u8 58, .int .u8 94, .int .u8 0, .int .u8 128, .int .u8 255, .int .u8 45, .int .u8 48, .int .u8 57] 5 (13, 14)) = w2 at *
  clear hb0
  have HC := Lib.hid hcell0; clear hcell0 hB
  have hcv := conv1
  go_loopw [36] (fun i wr => ∃ k : Nat, k ≤ 13 ∧ i = .int .i64 k ∧ Below w2.heap.size w2 wr) (fun i _ => 13 - (intOf i).toNat)
  case atStart => exact ⟨0, by omega, rfl, Below.refl _ _⟩
  case round =>
    obtain ⟨k, hk, rfl, hbr⟩ := hrel
    by_cases hlt : k < 13
    · obtain ⟨hl1, hl2⟩ := bad13_no k hlt
      have hck : wr.cell? ⟨b0, k, none⟩ = some (.int .u8 (bad13.getD k 0)) := (hbr.cell (p := ⟨b0, k, none⟩) hBsz).trans (HC.out k hlt)
      generalize bad13.getD k 0 = b at hl1 hl2 hck
      go_wp2_with (first | (go_at_call 17; refine (letter_any _ _).mono ?_; rintro e w' ⟨rfl, rfl⟩) | (go_at_call 16; refine (may_any _ _ (by rw [strOfNums_size]; simp)).mono ?_; rintro e w3 ⟨rfl, hb3⟩))
      exact ⟨⟨k + 1, by omega, by go_num, (hbr.alloc hbr.size _).trans (hb3.mono (by have := hbr.size; simp; omega))⟩, by simp [intOf]; omega⟩
    · go_wp2_with fail
      show Code.wp _ _ _ _ (wr.alloc (.cells arr44 36))
      have hb4 : Below w.heap.size w (wr.alloc (.cells arr44 36)) := (hBa.trans (hbr.mono hBa.size)).alloc (Nat.le_trans hBa.size hbr.size) _
      have hc4 := fun k (hk : k < 11) => arr44_cells wr 36 k hk
      have hsz4 : wr.heap.size < (wr.alloc (.cells arr44 36)).heap.size := by simp
      obtain ⟨b1, hb1⟩ : ∃ b1, b1 = wr.heap.size := ⟨_, rfl⟩
      rw [← hb1] at hc4 hsz4 ⊢
      generalize wr.alloc (.cells arr44 36) = w5 at *
      clear hb1 hbr hBa HC hBsz
      have HC := Lib.hid hc4; clear hc4
      go_loopw [62] (fun i wr => ∃ k : Nat, k ≤ 11 ∧ i = .int .i64 k ∧ Below w5.heap.size w5 wr) (fun i _ => 11 - (intOf i).toNat)
      case atStart => exact ⟨0, by omega, rfl, Below.refl _ _⟩
      case round =>
        obtain ⟨k, hk, rfl, hbr⟩ := hrel
        by_cases hlt : k < 11
        · obtain ⟨l, m, n, e, hrow, hnum, hll, hmm⟩ := tab11_ok k hlt
          have hc0 := HC.out k hlt
          rw [hrow] at hc0
          clear hrow
          obtain ⟨h0, h1, h2, h3⟩ := hc0
          replace h0 := (hbr.cell (p := ⟨b1, k * 4, none⟩) hsz4).trans h0
          replace h1 := (hbr.cell (p := ⟨b1, k * 4 + 1, none⟩) hsz4).trans h1
          replace h2 := (hbr.cell (p := ⟨b1, k * 4 + 1 + 1, none⟩) hsz4).trans h2
          replace h3 := (hbr.cell (p := ⟨b1, k * 4 + 1 + 1 + 1, none⟩) hsz4).trans h3
          go_wp2_with fail
          refine (num_c l m n e _ hnum hll hmm).mono ?_
          rintro e' w' ⟨rfl, rfl⟩
          go_wp2_with fail
          exact ⟨⟨k + 1, by omega, by go_num, hbr.alloc hbr.size _⟩, by simp [intOf]; omega⟩
        · have hB : Below w.heap.size w wr := hb4.trans (hbr.mono hb4.size)
          clear hbr hb4 HC
          go_wp2_with fail
          refine (copies_c [98] bs32 32 _ (by decide) (by decide) (by decide)).mono ?_
          rintro e w' ⟨rfl, rfl⟩
          go_wp2_with fail
          refine (show_c 0 [48] w _ (by decide +kernel) (by decide) (by decide) ht hg hB).mono ?_
          clear hB
          rintro e w6 ⟨rfl, hB⟩
          go_wp2_with fail
          refine (show_c (-9223372036854775808) [45, 57, 50, 50, 51, 51, 55, 50, 48, 51, 54, 56, 53, 52, 55, 55, 53, 56, 48, 56] w _ (by decide +kernel) (by decide) (by decide) ht hg hB).mono ?_
          clear hB
          rintro e w7 ⟨rfl, hB⟩
          go_wp2_with fail
          refine (compare_c [97] [97, 98] (-1) _ (by decide +kernel)).mono ?_
          rintro e w' ⟨rfl, rfl⟩
          go_wp2_with fail
          refine (compare_c [98] [97, 98] 1 _ (by decide +kernel)).mono ?_
          rintro e w' ⟨rfl, rfl⟩
          go_wp2_with fail
          refine (compare_c [] [] 0 _ (by decide +kernel)).mono ?_
          rintro e w' ⟨rfl, rfl⟩
          go_wp2_with fail
          refine (free_c bs32 [] _ [⟨bs32.toArray⟩] w _ ⟨1, fun i hi => by (have : i = 0 := by omega); subst this; exact ⟨by decide +kernel, by simp [cand, toks]⟩, .inr ⟨by decide +kernel, rfl⟩⟩ (by decide) (strsAt_new _ _ _ _) (by decide) (by decide +kernel) ht hg (hB.alloc hB.size _)).mono ?_
          clear hB
          rintro e w8 ⟨rfl, hB⟩
          go_wp2_with fail
          refine (free_c [49] [] _ [] w _ ⟨0, fun i hi => by omega, .inr ⟨by decide +kernel, rfl⟩⟩ (by decide) ⟨none, 0, rfl, fun i hi => by simp at hi⟩ (by decide) (by simp) ht hg hB).mono ?_
          clear hB
          rintro e w9 ⟨rfl, hB⟩
          go_wp2_with fail
          refine (copies_c [99] cs31 31 _ (by decide) (by decide) (by decide)).mono ?_
          rintro e w' ⟨rfl, rfl⟩
          go_wp2_with fail
          refine (copies_c [99] cs31 31 _ (by decide) (by decide) (by decide)).mono ?_
          rintro e w' ⟨rfl, rfl⟩
          go_wp2_with fail
          refine (free_c cs31 cs312 _ [⟨cs31.toArray⟩] w _ ⟨1, fun i hi => by (have : i = 0 := by omega); subst this; exact ⟨by decide +kernel, by simp [cand, toks]⟩, .inl ⟨by decide +kernel, by decide +kernel, by decide +kernel⟩⟩ (by decide) (strsAt_new _ _ _ _) (by decide) (by decide +kernel) ht hg (hB.alloc hB.size _)).mono ?_
          clear hB
          rintro e w10 ⟨rfl, hB⟩
          go_wp2_with fail
          refine (copies_c [99] cs31 31 _ (by decide) (by decide) (by decide)).mono ?_
          rintro e w' ⟨rfl, rfl⟩
          have hq : (cs312 == ((⟨cs31.toArray⟩ : ByteArray) ++ ⟨#[50]⟩).toList) = true := by
            rw [beq_iff_eq, Lib.toList_data]; simp [cs312]
          go_wp2_with fail
          refine (free_c [120] [120] _ [] w _ ⟨0, fun i hi => by omega, .inl ⟨by decide +kernel, by simp [toks], by simp [cand]⟩⟩ (by decide) ⟨none, 0, rfl, fun i hi => by simp at hi⟩ (by decide) (by simp) ht hg hB).mono ?_
          clear hB
          rintro e w11 ⟨rfl, hB⟩
          go_wp2_with fail
          go_ret
          exact ⟨rfl, hB⟩
end Go.Proofs.YtjbeblbiajegmaaDoor
