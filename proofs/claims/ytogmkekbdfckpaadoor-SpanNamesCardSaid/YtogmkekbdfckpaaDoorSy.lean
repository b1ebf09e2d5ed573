/- The contract of bonsairef14.cut: a text's parts. -/
import Derived.Test.YtogmkekbdfckpaaDoorSo
namespace Go.Proofs.YtogmkekbdfckpaaDoor
open Go.RowKit
set_option linter.unusedSimpArgs false
set_option linter.unusedVariables false

/-- A piece ahead of the first part. -/
def glue (p : List UInt8) : List (List UInt8) → List (List UInt8)
  | [] => [p]
  | h :: t => (p ++ h) :: t
/-- A text's parts, between bytes. -/
def splitB (c : UInt8) : List UInt8 → List (List UInt8)
  | [] => [[]]
  | b :: l => if b = c then [] :: splitB c l else glue [b] (splitB c l)
theorem splitB_ne (c : UInt8) (l : List UInt8) : splitB c l ≠ [] := by
  cases l with
  | nil => simp [splitB]
  | cons b l => unfold splitB; split; simp; cases splitB c l <;> simp [glue]
theorem glue_nil {X : List (List UInt8)} (h : X ≠ []) : glue [] X = X := by cases X with | nil => exact absurd rfl h | cons a r => simp [glue]
theorem glue_glue (p q : List UInt8) (X : List (List UInt8)) : glue p (glue q X) = glue (p ++ q) X := by cases X <;> simp [glue]
theorem splitB_len (c : UInt8) (l : List UInt8) : (splitB c l).length ≤ l.length + 1 := by
  induction l with
  | nil => simp [splitB]
  | cons b l ih =>
    unfold splitB; split
    · simp; omega
    · have : (glue [b] (splitB c l)).length ≤ (splitB c l).length + 1 := by cases splitB c l <;> simp [glue]
      have h2 : splitB c l ≠ [] := splitB_ne c l
      have : (glue [b] (splitB c l)).length = (splitB c l).length := by cases h : splitB c l with | nil => exact absurd h h2 | cons a r => simp [glue]
      simp; omega

/-- What is known after k bytes, the piece since from. -/
def CutTo (s : ByteArray) (c : UInt8) (ls : List ByteArray) (f k : Nat) : Prop :=
  splitB c s.data.toList = ls.map (fun b => b.data.toList) ++ glue ((s.data.toList.drop f).take (k - f)) (splitB c (s.data.toList.drop k)) ∧ f ≤ k ∧ ls.length ≤ f ∧ ∀ b ∈ ls, b.size ≤ s.size
theorem CutTo.start (s : ByteArray) (c : UInt8) : CutTo s c [] 0 0 := ⟨by simp [glue_nil (splitB_ne _ _)], by omega, by simp, by simp⟩
theorem piece_size (s : ByteArray) (f k : Nat) : (s.extract f k).size ≤ s.size := by
  rw [← sz_data, ← sz_data, Lib.extract_data, List.length_take, List.length_drop]; omega
theorem CutTo.hit {s : ByteArray} {c : UInt8} {ls : List ByteArray} {f k : Nat} (h : CutTo s c ls f k) (hk : k < s.size) (he : s[k] = c) : CutTo s c (ls ++ [s.extract f k]) (k + 1) (k + 1) := by
  obtain ⟨h1, h2, h3, h4⟩ := h
  refine ⟨?_, Nat.le_refl _, by simp; omega, fun b hb => ?_⟩
  · rw [h1, drop_at s k hk]
    rw [show splitB c (s[k] :: s.data.toList.drop (k + 1)) = [] :: splitB c (s.data.toList.drop (k + 1)) by simp [splitB, he]]
    have hne := splitB_ne c (s.data.toList.drop (k + 1))
    generalize splitB c (s.data.toList.drop (k + 1)) = S at hne ⊢
    cases S with
    | nil => exact absurd rfl hne
    | cons a r => simp [glue, Lib.extract_data]
  · rcases List.mem_append.1 hb with hb | hb
    · exact h4 b hb
    · simp only [List.mem_singleton] at hb; subst hb; exact piece_size s f k
theorem CutTo.miss {s : ByteArray} {c : UInt8} {ls : List ByteArray} {f k : Nat} (h : CutTo s c ls f k) (hk : k < s.size) (he : ¬ s[k] = c) : CutTo s c ls f (k + 1) := by
  obtain ⟨h1, h2, h3, h4⟩ := h
  refine ⟨?_, by omega, h3, h4⟩
  rw [h1, drop_at s k hk]
  rw [show splitB c (s[k] :: s.data.toList.drop (k + 1)) = glue [s[k]] (splitB c (s.data.toList.drop (k + 1))) by simp [splitB, he], glue_glue]
  congr 2
  rw [show k + 1 - f = (k - f) + 1 by omega, List.take_succ_eq_append_getElem (by rw [List.length_drop, sz_data]; omega)]
  congr 1
  rw [List.getElem_drop]
  simp only [show f + (k - f) = k by omega]
  rfl
theorem CutTo.done {s : ByteArray} {c : UInt8} {ls : List ByteArray} {f k : Nat} (h : CutTo s c ls f k) (hk : k = s.size) : (ls ++ [s.extract f s.size]).map (fun b => b.data.toList) = splitB c s.data.toList ∧ ∀ b ∈ ls ++ [s.extract f s.size], b.size ≤ s.size := by
  obtain ⟨h1, h2, h3, h4⟩ := h
  subst hk
  refine ⟨?_, fun b hb => ?_⟩
  · have hd : s.data.toList.drop s.size = [] := List.drop_eq_nil_of_le (by rw [sz_data]; exact Nat.le_refl _)
    rw [h1, hd]
    simp [splitB, glue, Lib.extract_data]
  · rcases List.mem_append.1 hb with hb | hb
    · exact h4 b hb
    · simp only [List.mem_singleton] at hb; subst hb; exact piece_size s f s.size

def PartsPost (s : ByteArray) (c : UInt8) (w : World) (e : Ending) (w' : World) : Prop := ∃ (ls : List ByteArray) (v : Value), e = .returned v ∧ ls.map (fun b => b.data.toList) = splitB c s.data.toList ∧ (∀ b ∈ ls, b.size ≤ s.size) ∧ OwnStrs w' w.heap.size v ls ∧ Below w.heap.size w w'

set_option maxRecDepth 100000 in
set_option maxHeartbeats 1600000 in
theorem rcut_any (s : ByteArray) (c : UInt8) (w : World) (hs : s.size ≤ 4294967296) :
    Calls Tryd.prog 48 #[.string s, .int .u8 (c.toNat : Int)] w (PartsPost s c w) := by
  obtain ⟨i0, hI, hz0, hz1, hz2⟩ := info_parts infoStr
  go_enter Tryd.func48, Tryd.ntmps48
  go_wp2_with fail
  go_loopw [5, 6, 7] (fun v fr i wr => ∃ (k f : Nat) (ls : List ByteArray), k ≤ s.size ∧ i = .int .i64 k ∧ fr = .int .i64 f ∧ f ≤ k ∧ ls.length ≤ k ∧ Hid (CutTo s c ls f k) ∧ Hid (OwnStrs wr w.heap.size v ls) ∧ Hid (Below w.heap.size w wr)) (fun _ _ i _ => s.size - (intOf i).toNat)
  case atStart => exact ⟨0, 0, [], by omega, rfl, rfl, by omega, by simp, Lib.hid (CutTo.start s c), Lib.hid (by simpa [OwnStrs] using World.ownsRow_nil w w.heap.size 9 1), Lib.hid (Below.refl _ _)⟩
  case round =>
    obtain ⟨k, f, ls, hk, rfl, rfl, hfk, hlk, HC, HO, HB⟩ := hrel
    by_cases hlt : k < s.size
    · by_cases he : s[k] = c
      · have HC2 := Lib.hid (HC.out.hit hlt he)
        have e1 : ((s[k].toNat : Int) == (c.toNat : Int)) = true := by simp [he]
        clear he
        have HROW := Lib.hid (row_new1 wr (.string (s.extract f k)) 9)
        go_wp2_with (first | (at_builtin; refine wpList_append_row _ rfl (.tmp 19) (.tmp 24) _ rfl w.heap.size 9 i0 _ 1 16 Tryd.underlying41 hI hz0 hz1 hz2 rfl (by decide) _ _ _ rfl (World.ownsRow.alloc HO.out _) (some ⟨wr.heap.size, 0, none⟩) 1 1 [.string (s.extract f k)] rfl rfl HROW.out (one_strs [s.extract f k]) ?_ ?_ ?_ ?_))
        · unfold maxLen; omega
        · omega
        · have := HB.out.size; simp; omega
        intro v2 w2 hown2 hgrow2
        have HB2 := Lib.hid ((HB.out.alloc HB.out.size _).grown hgrow2 (by have := HB.out.size; simp; omega) (fun k e => (World.ownsRow.lt HO.out k e).1))
        have HO2 := Lib.hid (show OwnStrs w2 w.heap.size v2 (ls ++ [s.extract f k]) by unfold OwnStrs; simpa using hown2)
        clear hown2 hgrow2
        go_wp2_with fail
        exact ⟨⟨k + 1, k + 1, _, by omega, by go_num, by go_num, by omega, by simp; omega, HC2, HO2, HB2⟩, by simp [intOf]; omega⟩
      · have HC2 := Lib.hid (HC.out.miss hlt he)
        have e1 : ((s[k].toNat : Int) == (c.toNat : Int)) = false := by
          simp only [beq_eq_false_iff_ne]; intro h; exact he (UInt8.toNat_inj.1 (by omega))
        clear he
        go_wp2_with fail
        exact ⟨⟨k + 1, f, ls, by omega, by go_num, rfl, by omega, by omega, HC2, HO, HB⟩, by simp [intOf]; omega⟩
    · have hk2 : k = s.size := by omega
      have HD := Lib.hid (HC.out.done hk2)
      have HROW := Lib.hid (row_new1 wr (.string (s.extract f s.size)) 9)
      go_wp2_with (first | (at_builtin; refine wpList_append_row _ rfl (.tmp 28) (.tmp 32) _ rfl w.heap.size 9 i0 _ 1 16 Tryd.underlying41 hI hz0 hz1 hz2 rfl (by decide) _ _ _ rfl (World.ownsRow.alloc HO.out _) (some ⟨wr.heap.size, 0, none⟩) 1 1 [.string (s.extract f s.size)] rfl rfl HROW.out (one_strs [s.extract f s.size]) ?_ ?_ ?_ ?_))
      · unfold maxLen; omega
      · omega
      · have := HB.out.size; simp; omega
      intro v2 w2 hown2 hgrow2
      have HB2 := Lib.hid ((HB.out.alloc HB.out.size _).grown hgrow2 (by have := HB.out.size; simp; omega) (fun k e => (World.ownsRow.lt HO.out k e).1))
      have HO2 := Lib.hid (show OwnStrs w2 w.heap.size v2 (ls ++ [s.extract f s.size]) by unfold OwnStrs; simpa using hown2)
      clear hown2 hgrow2
      go_wp2_with fail
      go_ret
      exact ⟨_, _, rfl, HD.out.1, HD.out.2, HO2.out, HB2.out⟩
end Go.Proofs.YtogmkekbdfckpaaDoor
