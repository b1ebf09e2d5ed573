/- The walk of LexWords. -/
import Derived.Test.YtidcoldoalimfaaMk
import Derived.Test.YtidcoldoalimfaaKf
namespace Go.Proofs.Ytidcoldoalimfaa
open Go.RowKit Go.Shelf
set_option linter.unusedSimpArgs false
set_option linter.unusedVariables false

def TruePostW (w : World) (e : Ending) (w' : World) : Prop := e = .returned (.bool true) ∧ Below w.heap.size w w'
theorem WorksPost.callsW (w : World) : Calls Try.prog 6 #[] w fun e w' => e = .returned (.bool true) ∧ Below w.heap.size w w' := works_any w
theorem words_atW {s : ByteArray} {w : World} {ls : List Wd} {a er : Nat} (hs : s.size ≤ 281474976710656) (h : wordsL s.data.toList = (ls, a, er)) : Calls Try.prog 8 #[.string s] w fun e w' =>
    ∃ A c, e = .returned (.tuple #[.slice A ls.length c, .int .i64 (a : Int), .int .i64 (er : Int)]) ∧ w'.ownsRow w.heap.size 35 10 (.slice A ls.length c) ls.length (wdL ls) ∧ Below w.heap.size w w' :=
  (words_any s w hs).mono fun e w' hp => by
    unfold WordsPost at hp
    rw [h] at hp
    exact hp
theorem WRow.ownW {w : World} {b n c : Nat} {A : Option Addr} {l : List Wd} (h : w.ownsRow b 35 10 (.slice A n c) n (wdL l)) (hn : n = l.length) : WRow w A l := fun k hk => by
  subst hn
  obtain ⟨g, rfl, hb, hg⟩ := own_some h (by omega)
  obtain ⟨t0, t1, t2, t3, t4, t5, t6, t7, t8, t9⟩ := word_ten h k (k * 10) rfl l[k] (List.getElem?_eq_getElem hk)
  refine ⟨g, 0, rfl, hg, ?_⟩
  rw [Nat.zero_add]
  exact ⟨t0, t1, t2, t3, t4, t5, t6, t7, t8, t9⟩
/-- The cells of a told word. -/
theorem word_cellsR {w : World} {b g n c : Nat} {l : List Wd} (h : w.ownsRow b 45 10 (.slice (some ⟨g, 0, none⟩) n c) n (wdL l)) (i : Nat) (x : Wd) (hx : l[i]? = some x) (j : Nat) (hj : j < 10) :
    w.cell? ⟨g, i * 10 + j, none⟩ = (wdC x)[j]? := by
  have hl : (wdL l)[i * 10 + j]? = (wdC x)[j]? := by
    clear h
    induction l generalizing i with
    | nil => cases hx
    | cons y l ih =>
      have hy : (wdC y).toList.length = 10 := rfl
      have e : wdL (y :: l) = (wdC y).toList ++ wdL l := by simp [wdL]
      rw [e]
      cases i with
      | zero =>
        simp at hx; subst hx
        rw [List.getElem?_append_left (by omega), Nat.zero_mul, Nat.zero_add, Array.getElem?_toList]
      | succ i =>
        rw [List.getElem?_append_right (by omega), hy, show (i + 1) * 10 + j - 10 = i * 10 + j by omega]
        exact ih i (by simpa using hx)
  have hlen : i * 10 + j < (wdL l).length := by
    rw [wdL_len]
    have := (List.getElem?_eq_some_iff.1 hx).1
    omega
  have := World.ownsRow.cellAt h (i * 10 + j) (by rw [← h.1]; exact hlen)
  rw [this, ← hl]
/-- The ten cells of a told word, and of the words behind it. -/
theorem word_tenR {w : World} {b g n c : Nat} {l : List Wd} (h : w.ownsRow b 45 10 (.slice (some ⟨g, 0, none⟩) n c) n (wdL l)) (i o : Nat) (ho : o = i * 10) (x : Wd) (hx : l[i]? = some x) :
    w.cell? ⟨g, o, none⟩ = some (.int .u8 (x.kind : Int)) ∧ w.cell? ⟨g, o + 1, none⟩ = some (.int .i64 (x.frm : Int)) ∧ w.cell? ⟨g, o + 2, none⟩ = some (.int .i64 (x.til : Int)) ∧ w.cell? ⟨g, o + 3, none⟩ = some (.string ⟨x.text.toArray⟩) ∧
    w.cell? ⟨g, o + 4, none⟩ = some (.int .u64 (x.s0 : Int)) ∧ w.cell? ⟨g, o + 5, none⟩ = some (.int .u64 (x.s1 : Int)) ∧ w.cell? ⟨g, o + 6, none⟩ = some (.int .u64 (x.s2 : Int)) ∧ w.cell? ⟨g, o + 7, none⟩ = some (.int .u64 (x.s3 : Int)) ∧
    w.cell? ⟨g, o + 8, none⟩ = some (.int .i64 x.low) ∧ w.cell? ⟨g, o + 9, none⟩ = some (.int .i64 x.high) := by
  subst ho
  exact ⟨word_cellsR h i x hx 0 (by decide), word_cellsR h i x hx 1 (by decide), word_cellsR h i x hx 2 (by decide), word_cellsR h i x hx 3 (by decide), word_cellsR h i x hx 4 (by decide), word_cellsR h i x hx 5 (by decide), word_cellsR h i x hx 6 (by decide), word_cellsR h i x hx 7 (by decide), word_cellsR h i x hx 8 (by decide), word_cellsR h i x hx 9 (by decide)⟩
theorem WRow.ownR {w : World} {b n c : Nat} {A : Option Addr} {l : List Wd} (h : w.ownsRow b 45 10 (.slice A n c) n (wdL l)) (hn : n = l.length) : WRow w A l := fun k hk => by
  subst hn
  obtain ⟨g, rfl, hb, hg⟩ := own_some h (by omega)
  obtain ⟨t0, t1, t2, t3, t4, t5, t6, t7, t8, t9⟩ := word_tenR h k (k * 10) rfl l[k] (List.getElem?_eq_getElem hk)
  refine ⟨g, 0, rfl, hg, ?_⟩
  rw [Nat.zero_add]
  exact ⟨t0, t1, t2, t3, t4, t5, t6, t7, t8, t9⟩
theorem rwords_at {s : ByteArray} {w : World} {ls : List Wd} {a er : Nat} (hs : s.size ≤ 6000) (h : wordsL s.data.toList = (ls, a, er)) : Calls Try.prog 7 #[.string s] w fun e w' =>
    ∃ A c, e = .returned (.tuple #[.slice A ls.length c, .int .i64 (a : Int), .int .i64 (er : Int)]) ∧ w'.ownsRow w.heap.size 45 10 (.slice A ls.length c) ls.length (wdL ls) ∧ Below w.heap.size w w' :=
  (rwords_any s w hs).mono fun e w' hp => by
    unfold RWordsPost at hp
    rw [h] at hp
    exact hp
/-- The block of a row that is written over. -/
def SpoilAt (w : World) (g m : Nat) : Prop := ∃ cur : Array Value, w.heap[g]? = some (.cells cur 35 (0, 0)) ∧ m ≤ cur.size
theorem SpoilAt.put {w : World} {g m i : Nat} {v : Value} (h : SpoilAt w g m) : SpoilAt (w.setCell ⟨g, i, none⟩ v) g m := by
  obtain ⟨cur, h1, h2⟩ := h
  exact ⟨_, heap_setCell_same w g i _ _ v h1, by simpa using h2⟩
theorem SpoilAt.cell {w : World} {g m i : Nat} (h : SpoilAt w g m) (hi : i < m) : (∃ v, w.cell? ⟨g, i, none⟩ = some v) ∧ w.frozen? ⟨g, i, none⟩ = false := by
  obtain ⟨cur, h1, h2⟩ := h
  refine ⟨⟨cur[i]'(by omega), ?_⟩, by simp [World.frozen?, h1]⟩
  rw [World.cell?, h1]
  simp [show i < cur.size by omega]
theorem spoil_of {w : World} {b n c : Nat} {A : Option Addr} {xs : List Value} (h : w.ownsRow b 35 10 (.slice A n c) n xs) (hn : 0 < n) : ∃ g, A = some ⟨g, 0, none⟩ ∧ b ≤ g ∧ SpoilAt w g (n * 10) := by
  rcases h.2 with ⟨_, h0⟩ | ⟨g, cap, cur, hv, hb, hh, h1, _, h2, _⟩
  · omega
  · obtain ⟨rfl, _⟩ : A = some ⟨g, 0, none⟩ ∧ True := by injection hv with e; exact ⟨e, trivial⟩
    exact ⟨g, rfl, hb, cur, hh, by rw [h2]; exact Nat.mul_le_mul_right _ h1⟩
theorem SpoilAt.below {w w' : World} {g m : Nat} (h : SpoilAt w g m) (hb : Below w.heap.size w w') : SpoilAt w' g m := by
  obtain ⟨cur, h1, h2⟩ := h
  exact ⟨cur, bx_kept hb h1, h2⟩
set_option maxRecDepth 100000 in
set_option maxHeartbeats 2000000 in
theorem lexwords_walk (s : ByteArray) (w : World) (hmx : s.size ≤ maxLen) : Calls Try.prog 3 #[.string s] w (TruePostW w) := by
  by_cases h6 : 6000 < s.size
  · have i1 : (6000 : Int) < (s.size : Int) := by omega
    go_enter Try.func3, Try.ntmps3
    go_wp2_with (first | (go_at_call 6; (with_reducible refine (WorksPost.callsW _).mono ?_); rintro e w1 ⟨rfl, hb⟩; have HB1 := Lib.hid hb; clear hb) | fail)
    exact bodyPost_ret (v := .bool true) (by simp [results, Try.results3, go_sem]) rfl ⟨rfl, HB1.out⟩
  have hs : s.size ≤ 6000 := by omega
  have i1 : ¬ (6000 : Int) < (s.size : Int) := by omega
  clear hmx
  obtain ⟨ls, at', er, hW⟩ : ∃ ls at' er, wordsL s.data.toList = (ls, at', er) := ⟨_, _, _, rfl⟩
  have HWA := Lib.hid (fun w => words_atW (w := w) (by omega) hW)
  have HRA := Lib.hid (fun w => rwords_at (w := w) hs hW)
  have hlen : ls.length ≤ 4294967296 := by
    have hz := sz_data s
    have h := wordsL_of (s := s.data.toList) (by omega)
    rw [hW] at h
    cases hp : (RW s.data.toList (nextL s.data.toList 0)).2 with
    | some p => rw [hp] at h; injection h with h1 h2; subst h1; simp
    | none =>
      rw [hp] at h; injection h with h1 h2
      have := RW_len s.data.toList (s.data.toList.length + 1 - nextL s.data.toList 0) (nextL s.data.toList 0) (by omega)
      subst h1
      unfold RW
      omega
  clear hW
  go_enter Try.func3, Try.ntmps3
  go_wp2_with (first
    | (go_at_call 7; (with_reducible refine (HRA.out _).mono ?_); rintro e w1 ⟨A, c, rfl, hr, hb⟩; have HR := Lib.hid (WRow.ownR hr rfl); have HB1 := Lib.hid hb; clear hb hr)
    | fail)
  go_loopw [6] (fun i wr => ∃ rd : Nat, rd ≤ 2 ∧ i = .int .i64 rd ∧ Hid (Below w1.heap.size w1 wr)) (fun i _ => 2 - (intOf i).toNat)
  case atStart => exact ⟨0, by omega, rfl, Lib.hid (Below.refl _ _)⟩
  case round =>
    obtain ⟨rd, hrd, rfl, HBW⟩ := hrel
    obtain ⟨wo, rfl⟩ : ∃ wo : World, wo = wr := ⟨_, rfl⟩
    by_cases hlt : rd < 2
    · have k1 : (rd : Int) < 2 := by omega
      go_wp2_with (first
        | (go_at_call 8; (with_reducible refine (HWA.out _).mono ?_); rintro e w2 ⟨B, d, rfl, hr, hb⟩; have HO2 := Lib.hid hr; have HB2 := Lib.hid (Below.step HBW.out hb); clear hb hr)
        | (go_at_call 9; (with_reducible refine (exact_eq ls B A d c _ (WRow.ownW HO2.out rfl) (HR.out.below HB2.out) hlen).mono ?_); rintro e w3 ⟨rfl, hb⟩; have HB3 := Lib.hid (Below.step HB2.out hb); have HBE := Lib.hid hb; clear hb)
        | fail)
      go_loopw [10] (fun i wr => ∃ k : Nat, k ≤ ls.length ∧ i = .int .i64 k ∧ Hid (Below w1.heap.size w1 wr) ∧ Hid (0 < ls.length → ∃ g, B = some ⟨g, 0, none⟩ ∧ w1.heap.size ≤ g ∧ SpoilAt wr g (ls.length * 10))) (fun i _ => ls.length - (intOf i).toNat)
      case atStart =>
        refine ⟨0, by omega, rfl, HB3, Lib.hid fun h => ?_⟩
        obtain ⟨g, e, hg, hsp⟩ := spoil_of HO2.out h
        exact ⟨g, e, Nat.le_trans HBW.out.size hg, hsp.below HBE.out⟩
      case round =>
        obtain ⟨k, hk, rfl, HBK, HSP⟩ := hrel
        by_cases hkl : k < ls.length
        · have m1 : (k : Int) < (ls.length : Int) := by omega
          have m0 : (0 : Int) ≤ (k : Int) := by omega
          obtain ⟨g, rfl, hg, hsp⟩ := HSP.out (by omega)
          obtain ⟨⟨v, hv⟩, hf⟩ := hsp.cell (i := k * 10 + 3) (by omega)
          have HG := Lib.hid hsp
          clear hsp
          go_wp2_with fail
          exact ⟨⟨k + 1, by omega, by go_num, Lib.hid (HBK.out.setCell (p := ⟨g, k * 10 + 3, none⟩) hg _), Lib.hid (fun _ => ⟨g, rfl, hg, HG.out.put⟩)⟩, by simp only [intOf]; omega⟩
        · have m1 : ¬ (k : Int) < (ls.length : Int) := by omega
          go_wp2_with fail
          exact ⟨⟨rd + 1, by omega, by go_num, HBK⟩, by simp only [intOf]; omega⟩
    · have k1 : ¬ (rd : Int) < 2 := by omega
      go_wp2_with (first | (go_at_call 6; (with_reducible refine (WorksPost.callsW _).mono ?_); rintro e w4 ⟨rfl, hb⟩; have HB4 := Lib.hid (Below.step (HB1.out.trans (HBW.out.mono HB1.out.size)) hb); clear hb) | fail)
      exact bodyPost_ret (v := .bool true) (by simp [results, Try.results3, go_sem]) rfl ⟨rfl, HB4.out⟩
end Go.Proofs.Ytidcoldoalimfaa
