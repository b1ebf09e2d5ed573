/- Plain laws for LexBack: how words are written, and read back. -/
import Derived.Test.YtabncmckojlllaaDoorKl
import Derived.Test.YtabncmckojlllaaDoorLv
import Derived.Test.YtabncmckojlllaaDoorLj
import Derived.Test.YtabncmckojlllaaDoorLy
namespace Go.Proofs.YtabncmckojlllaaDoor
set_option linter.unusedSimpArgs false
set_option linter.unusedVariables false

def wordsOf (x : Wd) : List Nat := [x.s0, x.s1, x.s2, x.s3]
/-- A count, as it is written. -/
def cntB (lo hi : Int) : List UInt8 := if hi = lo then [123] ++ Lib.itoa lo ++ [125] else if hi = -1 then [123] ++ Lib.itoa lo ++ [44, 125] else [123] ++ Lib.itoa lo ++ [44] ++ Lib.itoa hi ++ [125]
/-- The words of one byte, from Slash on. -/
def sgnB (k : Nat) : List UInt8 := [([47, 38, 33, 63, 42, 43, 40, 41, 60, 62, 58] : List UInt8).getD (k - 3) 0]
/-- How a word that may be is written. -/
def showW (x : Wd) : List UInt8 :=
  if x.kind = 1 then x.text else if x.kind = 2 then [60, 45] else if x.kind = 14 then cntB x.low x.high else if x.kind = 15 then litB x.text
  else if x.kind = 16 then classF (hasW (wordsOf x)) else sgnB x.kind
/-- Words of four 64-bit words. -/
def small (x : Wd) : Prop := x.s0 < 18446744073709551616 ∧ x.s1 < 18446744073709551616 ∧ x.s2 < 18446744073709551616 ∧ x.s3 < 18446744073709551616
theorem word_back (f : Nat → Bool) (x : Wd) (h : small x) (hf : ∀ k, k < 256 → f k = hasW (wordsOf x) k) : wordF f 0 = x.s0 ∧ wordF f 1 = x.s1 ∧ wordF f 2 = x.s2 ∧ wordF f 3 = x.s3 := by
  have key : ∀ (i y : Nat), i < 4 → y < 18446744073709551616 → (∀ j, j < 64 → hasW (wordsOf x) (i * 64 + j) = y.testBit j) → wordF f i = y := fun i y hi hy hb => Nat.eq_of_testBit_eq fun j => by
    rw [wordF_bit]
    by_cases hj : j < 64
    · rw [decide_eq_true hj, Bool.true_and, hf _ (by omega), hb j hj]
    · rw [decide_eq_false hj, Bool.false_and, Nat.testBit_lt_two_pow (Nat.lt_of_lt_of_le hy (show 18446744073709551616 ≤ 2 ^ j from Nat.pow_le_pow_right (n := 2) (i := 64) (by decide) (by omega)))]
  obtain ⟨h0, h1, h2, h3⟩ := h
  unfold wordsOf at key
  exact ⟨key 0 _ (by omega) h0 fun j hj => has_block _ _ _ _ 0 j (by omega) hj, key 1 _ (by omega) h1 fun j hj => has_block _ _ _ _ 1 j (by omega) hj, key 2 _ (by omega) h2 fun j hj => has_block _ _ _ _ 2 j (by omega) hj, key 3 _ (by omega) h3 fun j hj => has_block _ _ _ _ 3 j (by omega) hj⟩
/-- What stands behind a word: nothing, or a blank. -/
def Blank (r : List UInt8) : Prop := r = [] ∨ r[0]? = some 32
theorem takeWhile_blank (p : UInt8 → Bool) (hp : p 32 = false) : ∀ (l r : List UInt8), (l.takeWhile p = l) → Blank r → (l ++ r).takeWhile p = l
  | [], r, _, hr => by
    rcases hr with rfl | h
    · rfl
    · cases r with
      | nil => rfl
      | cons c r => simp at h; subst h; simp [List.takeWhile_cons, hp]
  | c :: l, r, h, hr => by
    have hc : p c = true := by
      cases e : p c with
      | true => rfl
      | false => rw [List.takeWhile_cons, e] at h; simp at h
    rw [List.takeWhile_cons, if_pos hc] at h
    rw [List.cons_append, List.takeWhile_cons, if_pos hc, takeWhile_blank p hp l r (by simpa using h) hr]
theorem take_blank {l r : List UInt8} (h : mayL l = true) (hr : Blank r) : takeL (l ++ r) = l ∧ ∃ c t, l = c :: t ∧ isLetter c.toNat = true := by
  unfold mayL at h
  obtain ⟨h0, _, h1⟩ := of_decide_eq_true h
  cases l with
  | nil => exact absurd rfl h0
  | cons c t =>
    simp only [takeL] at h1
    cases hl : isLetter c.toNat with
    | false => rw [hl] at h1; simp at h1
    | true =>
      rw [hl] at h1
      simp only [if_true, List.cons.injEq, true_and] at h1
      refine ⟨?_, c, t, rfl, hl⟩
      simp only [List.cons_append, takeL, hl, if_true]
      rw [takeWhile_blank alnum (by decide) t r h1 hr]
theorem cut_app (b : UInt8) : ∀ (x r : List UInt8), (∀ c ∈ x, c ≠ b) → cut1 b (x ++ b :: r) = (x, r, true)
  | [], r, _ => by simp [cut1]
  | c :: x, r, h => by
    have h0 := h c List.mem_cons_self
    have ih := cut_app b x r fun d hd => h d (List.mem_cons_of_mem _ hd)
    simp [cut1, h0, ih]
theorem cut_no (b : UInt8) : ∀ (x : List UInt8), (∀ c ∈ x, c ≠ b) → cut1 b x = (x, [], false)
  | [], _ => rfl
  | c :: x, h => by
    have h0 := h c List.mem_cons_self
    have ih := cut_no b x fun d hd => h d (List.mem_cons_of_mem _ hd)
    simp [cut1, h0, ih]
theorem itoa_dig (n : Int) (hn : 0 ≤ n) : ∀ c ∈ Lib.itoa n, c ≠ 125 ∧ c ≠ 44 := fun c hc => by
  obtain ⟨m, rfl⟩ : ∃ m : Nat, n = (m : Int) := ⟨n.toNat, by omega⟩
  have h := num_dig m c hc
  unfold digB isDigit at h
  have h := of_decide_eq_true h
  refine ⟨?_, ?_⟩ <;> (rintro rfl; simp at h)
theorem num_itoa (n : Int) (h0 : 0 ≤ n) (h1 : n ≤ 99) : numL (Lib.itoa n) 99 = (n, 0) := by
  obtain ⟨m, rfl⟩ : ∃ m : Nat, n = (m : Int) := ⟨n.toNat, by omega⟩
  rw [num_shown, if_neg (by omega)]
theorem itoa_nil (n : Int) (h0 : 0 ≤ n) : Lib.itoa n ≠ [] := by
  obtain ⟨m, rfl⟩ : ∃ m : Nat, n = (m : Int) := ⟨n.toNat, by omega⟩
  exact itoa_ne m
theorem count_back {lo hi : Int} (r : List UInt8) (h0 : 0 ≤ lo) (h1 : lo ≤ 99) (h2 : hi = -1 ∨ (lo ≤ hi ∧ hi ≤ 99)) : ∃ t, cntB lo hi ++ r = 123 :: t ∧ countL t = some ((cntB lo hi).length - 2, lo, hi) ∧ 2 ≤ (cntB lo hi).length := by
  have d1 := itoa_dig lo h0
  have n1 := num_itoa lo h0 h1
  by_cases e1 : hi = lo
  · subst e1
    refine ⟨Lib.itoa hi ++ 125 :: r, by simp [cntB], ?_, by simp [cntB]⟩
    unfold countL
    rw [cut_app 125 _ _ (fun c hc => (d1 c hc).1)]
    simp only
    rw [if_neg (by simp), cut_no 44 _ (fun c hc => (d1 c hc).2), n1]
    simp [cntB]
  · by_cases e2 : hi = -1
    · subst e2
      refine ⟨(Lib.itoa lo ++ [44]) ++ 125 :: r, by simp [cntB, e1], ?_, by simp [cntB, e1]⟩
      unfold countL
      rw [cut_app 125 _ _ (fun c hc => by rcases List.mem_append.1 hc with h | h; exact (d1 c h).1; simp at h; subst h; decide)]
      simp only
      rw [if_neg (by simp), cut_app 44 _ [] (fun c hc => (d1 c hc).2), n1]
      simp [cntB, e1]
    · have h3 : lo ≤ hi ∧ hi ≤ 99 := by rcases h2 with h | h; exact absurd h e2; exact h
      have d2 := itoa_dig hi (by omega)
      have n2 := num_itoa hi (by omega) h3.2
      refine ⟨(Lib.itoa lo ++ 44 :: Lib.itoa hi) ++ 125 :: r, by simp [cntB, e1, e2], ?_, by simp [cntB, e1, e2]; omega⟩
      unfold countL
      rw [cut_app 125 _ _ (fun c hc => by
        rcases List.mem_append.1 hc with h | h
        · exact (d1 c h).1
        · rcases List.mem_cons.1 h with rfl | h
          · decide
          · exact (d2 c h).1)]
      simp only
      rw [if_neg (by simp), cut_app 44 _ _ (fun c hc => (d1 c hc).2), n1]
      simp only
      rw [if_neg (by simp), if_neg (by simp), if_neg (itoa_nil hi (by omega)), n2]
      simp only
      rw [if_neg (by rintro (h | h) <;> omega)]
      simp [cntB, e1, e2]
/-- A word that was written is read. -/
theorem head_back (x : Wd) (hm : mayS x) (hs : small x) (r : List UInt8) (hr : Blank r) : headW (showW x ++ r) = some { x with frm := 0, til := (showW x).length } := by
  obtain ⟨kind, frm, til, text, s0, s1, s2, s3, low, high⟩ := x
  obtain ⟨m1, m15, m14, mk1, mk2, mt, ms, mn⟩ := hm
  simp only at m1 m15 m14 mk1 mk2 mt ms mn
  unfold showW
  simp only
  by_cases k1 : kind = 1
  · subst k1
    have hms := ms (by omega); have hmn := mn (by omega)
    obtain ⟨rfl, rfl, rfl, rfl⟩ := hms; obtain ⟨rfl, rfl⟩ := hmn
    have hl := m1 rfl
    obtain ⟨ht, c, t, hc, hlt⟩ := take_blank hl hr
    have h32 : text.length ≤ 32 := by unfold mayL at hl; exact (of_decide_eq_true hl).2.1
    simp only [if_true]
    unfold headW
    rw [ht]
    have h0 : (text ++ r)[0]? = some c := by rw [hc]; rfl
    rw [h0]
    simp only
    rw [if_pos hlt, if_pos h32]
  rw [if_neg k1]
  have e1 : kind ≠ 1 := k1
  by_cases k2 : kind = 2
  · subst k2
    have hms := ms (by omega); have hmn := mn (by omega); have htx := mt (by omega) (by omega)
    obtain ⟨rfl, rfl, rfl, rfl⟩ := hms; obtain ⟨rfl, rfl⟩ := hmn; subst htx
    rfl
  rw [if_neg k2]
  by_cases k14 : kind = 14
  · subst k14
    have hms := ms (by omega); have htx := mt (by omega) (by omega)
    obtain ⟨rfl, rfl, rfl, rfl⟩ := hms; subst htx
    obtain ⟨h0, h1, h2⟩ := m14 rfl
    obtain ⟨t, ht, hc, hlen⟩ := count_back r h0 h1 h2
    simp only [if_true]
    rw [ht]
    have e : headW (123 :: t) = (countL t).map fun x => ⟨14, 0, x.1 + 2, [], 0, 0, 0, 0, x.2.1, x.2.2⟩ := rfl
    rw [e, hc]
    simp only [Option.map_some, Option.some.injEq]
    congr 1
    omega
  rw [if_neg k14]
  by_cases k15 : kind = 15
  · subst k15
    have hms := ms (by omega); have hmn := mn (by omega)
    obtain ⟨rfl, rfl, rfl, rfl⟩ := hms; obtain ⟨rfl, rfl⟩ := hmn
    have hb := lit_back text r (m15 rfl)
    simp only [if_true]
    have hh : (litB text ++ r)[0]? = some 34 := by simp [litB]
    unfold headW
    rw [hh, hb]
    rfl
  rw [if_neg k15]
  by_cases k16 : kind = 16
  · subst k16
    have hmn := mn (by omega); have htx := mt (by omega) (by omega)
    obtain ⟨rfl, rfl⟩ := hmn; subst htx
    simp only [if_true]
    generalize hx : (⟨16, frm, til, [], s0, s1, s2, s3, 0, 0⟩ : Wd) = x at *
    cases ha : (List.range 256).all (hasW (wordsOf x)) with
    | true =>
      have hw := word_back (fun _ => true) x hs (fun k hk => by rw [List.all_eq_true] at ha; exact (ha k (List.mem_range.2 hk)).symm)
      rw [wordF_full, wordF_full, wordF_full, wordF_full] at hw
      have hc : classF (hasW (wordsOf x)) = [46] := by unfold classF; rw [ha]; rfl
      rw [hc]
      obtain ⟨w0, w1, w2, w3⟩ := hw
      subst hx
      simp only at w0 w1 w2 w3
      subst w0 w1 w2 w3
      rfl
    | false =>
      have hb := class_back (hasW (wordsOf x)) r ha
      have hh : (classF (hasW (wordsOf x)) ++ r)[0]? = some 91 := by unfold classF; rw [ha]; simp
      have hw := word_back (unclsR (classF (hasW (wordsOf x)) ++ r)).1 x hs (fun k hk => by rw [hb]; simp only [Bool.false_xor]; exact items_in _ k hk)
      unfold headW
      rw [hh]
      simp only
      rw [if_neg (by decide), if_neg (by decide), if_neg (by decide)]
      simp only [if_true]
      rw [hw.1, hw.2.1, hw.2.2.1, hw.2.2.2, hb]
      subst hx
      rfl
  rw [if_neg k16]
  have hms := ms k16; have hmn := mn k14; have htx := mt k1 k15
  obtain ⟨rfl, rfl, rfl, rfl⟩ := hms; obtain ⟨rfl, rfl⟩ := hmn; subst htx
  have hk : kind = 3 ∨ kind = 4 ∨ kind = 5 ∨ kind = 6 ∨ kind = 7 ∨ kind = 8 ∨ kind = 9 ∨ kind = 10 ∨ kind = 11 ∨ kind = 12 ∨ kind = 13 := by omega
  rcases hk with rfl | rfl | rfl | rfl | rfl | rfl | rfl | rfl | rfl | rfl | rfl
  all_goals first
    | rfl
    | (rcases hr with rfl | h
       · rfl
       · cases r with
         | nil => cases h
         | cons c r => simp at h; subst h; rfl)
/-! ### joined words -/
def joinL : List Wd → List UInt8
  | [] => []
  | [x] => showW x
  | x :: y :: l => showW x ++ 32 :: joinL (y :: l)
/-- The words of joined ones, from a place on. -/
def placeL : Nat → List Wd → List Wd
  | _, [] => []
  | p, x :: l => { x with frm := p, til := p + (showW x).length } :: placeL (p + (showW x).length + 1) l
theorem place_len : ∀ (l : List Wd) (p : Nat), (placeL p l).length = l.length
  | [], _ => rfl
  | x :: l, p => by simp [placeL, place_len l]
theorem join_run : ∀ (l : List Wd) (pre : List UInt8), (∀ x ∈ l, mayS x ∧ small x) → RW (pre ++ joinL l) (nextL (pre ++ joinL l) pre.length) = (placeL pre.length l, none)
  | [], pre, _ => by
    have h : pre ++ joinL [] = pre := by simp [joinL]
    rw [h]
    have := next_end (s := pre) (Nat.le_refl pre.length)
    rw [this, RW_end (Nat.le_refl _)]; rfl
  | [x], pre, hl => by
    obtain ⟨hm, hs⟩ := hl x List.mem_cons_self
    have hb := head_back x hm hs [] (.inl rfl)
    rw [List.append_nil] at hb
    have hp := head_len hb
    simp only at hp
    have e0 : nextL (pre ++ joinL [x]) pre.length = pre.length := by
      unfold nextL; rw [List.drop_left]; simp only [joinL]; rw [head_stop hb]; rfl
    have hw : wordL (pre ++ joinL [x]) pre.length = some { x with frm := pre.length, til := pre.length + (showW x).length } := by
      unfold wordL; rw [List.drop_left]; simp only [joinL]; rw [hb]; rfl
    have hlen : (pre ++ joinL [x]).length = pre.length + (showW x).length := by simp [joinL]
    rw [e0, RW_word (by rw [hlen]; omega) hw]
    simp only
    rw [← hlen, next_end (Nat.le_refl _), RW_end (Nat.le_refl _), hlen]
    rfl
  | x :: y :: l, pre, hl => by
    obtain ⟨hm, hs⟩ := hl x List.mem_cons_self
    have hb := head_back x hm hs (32 :: joinL (y :: l)) (.inr rfl)
    have hp := head_len hb
    simp only [List.length_append, List.length_cons] at hp
    have e0 : nextL (pre ++ joinL (x :: y :: l)) pre.length = pre.length := by
      unfold nextL; rw [List.drop_left]; simp only [joinL]; rw [head_stop hb]; rfl
    have hw : wordL (pre ++ joinL (x :: y :: l)) pre.length = some { x with frm := pre.length, til := pre.length + (showW x).length } := by
      unfold wordL; rw [List.drop_left]; simp only [joinL]; rw [hb]; rfl
    have hlen : (pre ++ joinL (x :: y :: l)).length = pre.length + (showW x).length + 1 + (joinL (y :: l)).length := by simp [joinL]; omega
    have eb : pre ++ joinL (x :: y :: l) = (pre ++ showW x ++ [32]) ++ joinL (y :: l) := by simp [joinL]
    have ih := join_run (y :: l) (pre ++ showW x ++ [32]) fun z hz => hl z (List.mem_cons_of_mem _ hz)
    rw [← eb] at ih
    have el : (pre ++ showW x ++ [32]).length = pre.length + (showW x).length + 1 := by simp; omega
    rw [el] at ih
    have hsp : (pre ++ joinL (x :: y :: l))[pre.length + (showW x).length]? = some 32 := by
      rw [List.getElem?_append_right (by omega)]
      simp only [joinL]
      rw [List.getElem?_append_right (by omega), show pre.length + (showW x).length - pre.length - (showW x).length = 0 by omega]
      rfl
    have e1 := next_part hsp (by decide)
    rw [e0, RW_word (by rw [hlen]; omega) hw]
    simp only
    rw [e1, ih]
    rfl
/-- The words of joined ones are these, each where it was written. -/
theorem words_joined (l : List Wd) (hl : ∀ x ∈ l, mayS x ∧ small x) (h : ¬ 65536 < (joinL l).length) : wordsL (joinL l) = (placeL 0 l, 0, 0) := by
  have hr := join_run l [] hl
  simp only [List.nil_append, List.length_nil] at hr
  rw [wordsL_of h, hr]
end Go.Proofs.YtabncmckojlllaaDoor
