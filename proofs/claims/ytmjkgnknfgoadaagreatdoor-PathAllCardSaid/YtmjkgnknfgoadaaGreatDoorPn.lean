/- Plain laws of layer 2 (names and numbers): lists of bytes, no program in sight. -/
import Derived.Lib.Hide
import Derived.Lib.Strings
import Derived.Lib.IndexBytes
import Derived.Lib.ItoaNum
import Derived.Lib.ItoaLen
import Derived.Lib.Bytealg
import Derived.WalkKit
namespace Go.Proofs.YtmjkgnknfgoadaaGreatDoor
open Go.RowKit

def isLetter (b : Int) : Bool := decide (97 ≤ b ∧ b ≤ 122 ∨ 65 ≤ b ∧ b ≤ 90 ∨ b = 95)
def isDigit (b : Int) : Bool := decide (48 ≤ b ∧ b ≤ 57)
def alnum (c : UInt8) : Bool := isLetter c.toNat || isDigit c.toNat
def takeL : List UInt8 → List UInt8
  | [] => []
  | c :: r => if isLetter c.toNat then c :: r.takeWhile alnum else []
def mayL (l : List UInt8) : Bool := decide (l ≠ [] ∧ l.length ≤ 32 ∧ takeL l = l)

theorem ret_bool {a b : Bool} (h : a = b) : Ending.returned (.bool a) = .returned (.bool b) := by rw [h]
theorem ret_int {k : IntKind} {a b : Int} (h : a = b) : Ending.returned (.int k a) = .returned (.int k b) := by rw [h]
theorem ret_str {a b : ByteArray} (h : a.data.toList = b.data.toList) : Ending.returned (.string a) = .returned (.string b) := by
  have : a = b := by rw [← Lib.mk_data a, ← Lib.mk_data b, h]
  rw [this]
theorem str_ext {a b : ByteArray} (h : a.data.toList = b.data.toList) : a = b := by rw [← Lib.mk_data a, ← Lib.mk_data b, h]

theorem sz_data (s : ByteArray) : s.data.toList.length = s.size := (Lib.size_eq s).symm
theorem bytes_pos (s : ByteArray) (h : 0 < s.size) : s.data.toList = s[0] :: s.data.toList.drop 1 := by
  have h1 := Lib.data_getElem? s 0 h
  cases e : s.data.toList with
  | nil => rw [e] at h1; simp at h1
  | cons a r => rw [e] at h1; simp at h1; rw [h1]; rfl
theorem bytes_ne (s : ByteArray) (h : 0 < s.size) : s.toList.isEmpty = false ∧ ¬ s.toList = [] := by
  rw [Lib.toList_data, bytes_pos s h]; simp
theorem bytes_none (s : ByteArray) (h : ¬ 0 < s.size) : s.toList.isEmpty = true ∧ s.toList = [] ∧ s.data.toList = [] := by
  have : s.data.toList = [] := List.eq_nil_of_length_eq_zero (by rw [sz_data]; omega)
  rw [Lib.toList_data, this]; simp
theorem drop_at (s : ByteArray) (k : Nat) (h : k < s.size) : s.data.toList.drop k = s[k] :: s.data.toList.drop (k+1) := by
  rw [List.drop_eq_getElem_cons (by rw [sz_data]; exact h)]; congr 1
theorem take_at (s : ByteArray) (k : Nat) (h : k < s.size) : s.data.toList.take (k+1) = s.data.toList.take k ++ [s[k]] := by
  rw [List.take_succ_eq_append_getElem (by rw [sz_data]; exact h)]; rfl
theorem take_all (s : ByteArray) (k : Nat) (h : s.size ≤ k) : s.data.toList.take k = s.data.toList := List.take_of_length_le (by rw [sz_data]; exact h)

theorem takeL_letter (s : ByteArray) (h : 0 < s.size) (hl : isLetter s[0].toNat = true) : takeL s.data.toList = s[0] :: (s.data.toList.drop 1).takeWhile alnum := by
  rw [bytes_pos s h]; simp [takeL, hl]
theorem takeL_noletter (s : ByteArray) (h : 0 < s.size) (hl : isLetter s[0].toNat = false) : takeL s.data.toList = [] := by
  rw [bytes_pos s h]; simp [takeL, hl]
theorem takeWhile_yes (s : ByteArray) (k : Nat) (h : k < s.size) (hp : alnum s[k] = true) :
    s.data.toList.take k ++ (s.data.toList.drop k).takeWhile alnum = s.data.toList.take (k + 1) ++ (s.data.toList.drop (k + 1)).takeWhile alnum := by
  rw [drop_at s k h, List.takeWhile_cons_of_pos hp, take_at s k h, List.append_assoc]; rfl
theorem takeWhile_no (s : ByteArray) (k : Nat) (h : k < s.size) (hp : alnum s[k] = false) : (s.data.toList.drop k).takeWhile alnum = [] := by
  rw [drop_at s k h, List.takeWhile_cons_of_neg (by simp [hp])]
theorem takeWhile_end (s : ByteArray) (k : Nat) (h : s.size ≤ k) : (s.data.toList.drop k).takeWhile alnum = [] := by
  rw [List.drop_eq_nil_of_le (by rw [sz_data]; exact h)]; rfl

theorem takeL_prefix (l : List UInt8) : takeL l <+: l := by
  cases l with
  | nil => exact List.prefix_rfl
  | cons c r =>
    by_cases h : isLetter c.toNat
    · simp only [takeL, h, if_true]; exact (List.prefix_cons_inj c).2 (List.takeWhile_prefix _)
    · simp only [takeL, h]; exact List.nil_prefix
theorem takeL_le (l : List UInt8) : (takeL l).length ≤ l.length := (takeL_prefix l).length_le
theorem takeL_eq_iff (l : List UInt8) : takeL l = l ↔ (takeL l).length = l.length :=
  ⟨fun h => by rw [h], fun h => (takeL_prefix l).eq_of_length h⟩
theorem takeL_idem (l : List UInt8) : takeL (takeL l) = takeL l := by
  cases l with
  | nil => rfl
  | cons c r =>
    by_cases h : isLetter c.toNat
    · simp only [takeL, h, if_true]
      congr 1
      have : ∀ (r : List UInt8), (r.takeWhile alnum).takeWhile alnum = r.takeWhile alnum := by
        intro r
        induction r with
        | nil => rfl
        | cons a r ih => by_cases ha : alnum a <;> simp [ha, ih]
      exact this r
    · simp only [takeL, h]; simp

/-! ### numbers -/
def decVal (l : List UInt8) : Nat := l.foldl (fun a c => 10 * a + (c.toNat - 48)) 0
def allDig (l : List UInt8) : Bool := l.all fun c => isDigit c.toNat
def numText (l : List UInt8) : Bool := decide (l ≠ [] ∧ allDig l = true ∧ ¬ (l.head? = some 48 ∧ 1 < l.length))
def numL (l : List UInt8) (most : Int) : Int × Int :=
  if numText l then (if most < decVal l then (0, 40) else (decVal l, 0)) else (0, 4)

theorem decVal_snoc (l : List UInt8) (c : UInt8) : decVal (l ++ [c]) = 10 * decVal l + (c.toNat - 48) := by simp [decVal]
theorem decVal_mono (a b : List UInt8) : decVal a ≤ decVal (a ++ b) := by
  unfold decVal; rw [List.foldl_append]
  generalize a.foldl (fun a c => 10 * a + (c.toNat - 48)) 0 = x
  induction b generalizing x with
  | nil => exact Nat.le_refl _
  | cons c b ih => exact Nat.le_trans (by simp only []; omega) (ih _)
theorem allDig_snoc (l : List UInt8) (c : UInt8) : allDig (l ++ [c]) = (allDig l && isDigit c.toNat) := by simp [allDig]
theorem isDigit_iff (b : Int) : isDigit b = true ↔ 48 ≤ b ∧ b ≤ 57 := by simp [isDigit]
theorem isDigit_no (b : Int) : isDigit b = false ↔ b < 48 ∨ 57 < b := by simp [isDigit]; omega
theorem numL_form (l : List UInt8) (most : Int) (h : numText l = false) : numL l most = (0, 4) := by simp [numL, h]
theorem numText_bad (s : ByteArray) (k : Nat) (h : k < s.size) (hd : isDigit s[k].toNat = false) : numText s.data.toList = false := by
  have : allDig s.data.toList = false := by
    rw [← List.take_append_drop k s.data.toList, drop_at s k h]; simp [allDig, hd]
  simp [numText, this]
theorem numText_zero (s : ByteArray) (h : 1 < s.size) (hd : s[0].toNat = 48) : numText s.data.toList = false := by
  have e := bytes_pos s (by omega)
  have h2 : s.data.toList.head? = some 48 := by rw [e]; simp; exact UInt8.toNat_inj.1 hd
  have h3 : 1 < s.data.toList.length := by rw [sz_data]; exact h
  simp [numText, h2]; rw [Array.length_toList] at h3; intro _ _; exact h3
theorem numText_ok (s : ByteArray) (h : 0 < s.size) (hz : ¬ (s[0].toNat = 48 ∧ 1 < s.size)) (hd : allDig s.data.toList = true) : numText s.data.toList = true := by
  have e := bytes_pos s h
  have h3 := sz_data s
  simp only [numText, decide_eq_true_eq]
  refine ⟨by rw [e]; simp, hd, ?_⟩
  rintro ⟨h1, h2⟩
  rw [e] at h1; simp at h1
  exact hz ⟨by rw [h1]; rfl, by omega⟩

end Go.Proofs.YtmjkgnknfgoadaaGreatDoor

/- append onto a row of the call's own, whatever slice the source is (nil, empty or not); slices of texts. -/
namespace Go.Proofs.YtmjkgnknfgoadaaGreatDoor
open Go.RowKit

/-- The slice at A holds the cells xs. -/
def RowAt (w : World) (A : Option Addr) (xs : List Value) : Prop := ∀ j u, xs[j]? = some u → ∃ ad, A = some ad ∧ w.cell? (ad.add j) = some u

section
variable {P : Program} (w : World)

theorem run_append_row (base : Nat) (t ty e : TypeId) (i : TypeInfo) (z : Value) (size bytes : Nat) (ht : P.underlying t = some (.slice e)) (hi : P.info? e = some i) (hz : i.zero = some z)
    (hsize : i.size = size) (hby : i.bytes = bytes) (hzs : z.cells.size = size) (hsz : 0 < size)
    (v : Value) (n : Nat) (xs : List Value) (hown : w.ownsRow base e size v n xs)
    (A : Option Addr) (m c : Nat) (news : List Value) (hl : news.length = m * size) (hr : RowAt w A news) (h1 : ∀ u ∈ news, u.oneCell' = true)
    (h63 : n + m ≤ maxLen) (hbytes : (n + m) * bytes ≤ 140737488355328) (hbase : base ≤ w.heap.size) :
    ∃ v' w', (Builtin.append_ #[t, t] ty #[v, .slice A m c]).run P w = .ok v' w' ∧ w'.ownsRow base e size v' (n + m) (xs ++ news) ∧ w.grownBy w' v.ownBlock := by
  cases A with
  | some ad =>
    obtain ⟨v', w', h, h2, h3, _⟩ := run_append_own (P := P) w base t ty e i z size bytes ht hi hz hsize hby hzs hsz v n xs hown ad m c news hl
      (fun j u hu => by obtain ⟨ad', e', h⟩ := hr j u hu; cases e'; exact h) h1 h63 hbytes hbase
    exact ⟨v', w', h, h2, h3⟩
  | none =>
    have hn : news = [] := by
      cases news with
      | nil => rfl
      | cons u r => obtain ⟨_, h, _⟩ := hr 0 u rfl; cases h
    subst hn
    have hm : m = 0 := by
      rcases Nat.eq_zero_or_pos m with h | h
      · exact h
      · have := Nat.mul_pos h hsz; simp at hl; omega
    subst hm
    refine ⟨v, w, ?_, by simpa using hown, World.grownBy.refl w _⟩
    rcases hown.2 with ⟨rfl, rfl⟩ | ⟨g, cap, cur, rfl, _, _, hnc, _⟩
    · simp [Builtin.append_, run_underlying ht, sizeOf, typeInfo, hi, Builtin.lenOf, Builtin.firstCells]
    · simp [Builtin.append_, run_underlying ht, sizeOf, typeInfo, hi, Builtin.lenOf, Builtin.firstCells, hnc, storeCells]

theorem wpList_append_row {ops : Array Oper} {rest : List Oper} {o : Oper} {a : Act} {Q : Exit → Act → World → Prop} (hgd : o.guard = none) (s x : Operand) (t : TypeId)
    (ho : o.op = .call { callee := .builtin .append, args := #[s, x], argTypes := #[t, t] })
    (base : Nat) (e : TypeId) (i : TypeInfo) (z : Value) (size bytes : Nat) (ht : P.underlying t = some (.slice e)) (hi : P.info? e = some i) (hz : i.zero = some z)
    (hsize : i.size = size) (hby : i.bytes = bytes) (hzs : z.cells.size = size) (hsz : 0 < size)
    (v : Value) (n : Nat) (xs : List Value) (hs : a.eval s = v) (hown : w.ownsRow base e size v n xs)
    (A : Option Addr) (m c : Nat) (news : List Value) (hx : a.eval x = .slice A m c) (hl : news.length = m * size) (hr : RowAt w A news) (h1 : ∀ u ∈ news, u.oneCell' = true)
    (h63 : n + m ≤ maxLen) (hbytes : (n + m) * bytes ≤ 140737488355328) (hbase : base ≤ w.heap.size)
    (h : ∀ v' w', w'.ownsRow base e size v' (n + m) (xs ++ news) → w.grownBy w' v.ownBlock → wpList P ops Q rest (a.put o.dst v') w') : wpList P ops Q (o :: rest) a w :=
  wpList_plain hgd fun K hK => by
    obtain ⟨v', w', hrun, h2, h3⟩ := run_append_row (P := P) w base t o.type e i z size bytes ht hi hz hsize hby hzs hsz v n xs hown A m c news hl hr h1 h63 hbytes hbase
    unfold Oper.wp execOp
    simp only [ho, resolve, invoke, builtin, Sem.run_bind, Sem.run_pure, Result.andThen_ok, List.map_toArray, List.map_cons, List.map_nil, hs, hx, hrun]
    exact hK _ _ (h v' w' h2 h3)
end

theorem cellLt {w : World} {a : Addr} {v : Value} (h : w.cell? a = some v) : a.block < w.heap.size := by
  unfold World.cell? at h
  by_cases hl : a.block < w.heap.size
  · exact hl
  · rw [Array.getElem?_eq_none (by omega)] at h; cases h
theorem add_block (a : Addr) (n : Nat) : (a.add n).block = a.block := by unfold Addr.add; split <;> rfl
theorem RowAt.below {w w' : World} {A : Option Addr} {xs : List Value} (h : RowAt w A xs) (hb : Below w.heap.size w w') : RowAt w' A xs := fun j u hu => by
  obtain ⟨ad, e, hc⟩ := h j u hu
  exact ⟨ad, e, (hb.cell (cellLt hc)).trans hc⟩
/-- What the call owns reads as it holds. -/
theorem RowAt.own {w : World} {base : Nat} {e : TypeId} {size n c : Nat} {A : Option Addr} {xs : List Value} (h : w.ownsRow base e size (.slice A n c) n xs) : RowAt w A xs := fun j u hu => by
  cases A with
  | some ad => exact ⟨ad, rfl, by
      have := h.cells (g := ad.block) rfl j u hu
      rcases h.2 with ⟨hv, _⟩ | ⟨g, cap, cur, hv, _⟩
      · cases hv
      · injection hv with hv; injection hv with hv; subst hv; exact this⟩
  | none =>
    rcases h.2 with ⟨_, hn⟩ | ⟨g, cap, cur, hv, _⟩
    · have h1 := h.1; subst hn; have : xs = [] := List.eq_nil_of_length_eq_zero (by simpa using h1)
      subst this; simp at hu
    · cases hv
theorem ownsRow_slice {w : World} {base n : Nat} {e : TypeId} {size : Nat} {v : Value} {xs : List Value} (h : w.ownsRow base e size v n xs) : ∃ A c, v = .slice A n c := by
  rcases h.2 with ⟨rfl, rfl⟩ | ⟨g, cap, cur, rfl, _⟩
  · exact ⟨_, _, rfl⟩
  · exact ⟨_, _, rfl⟩
end Go.Proofs.YtmjkgnknfgoadaaGreatDoor

/- Plain laws: a number's text, there and back. -/
namespace Go.Proofs.YtmjkgnknfgoadaaGreatDoor
open Go.RowKit

theorem decVal_digits (m : Nat) : decVal (Lib.decDigits m) = m := by
  induction m using Nat.strongRecOn with
  | _ m ih =>
    by_cases h : m < 10
    · rw [Lib.decDigits_one h]
      have : (UInt8.ofNat (48 + m)).toNat = 48 + m := by simp; omega
      simp [decVal]; omega
    · have e : Lib.decDigits m = Lib.decDigits (m / 10) ++ [UInt8.ofNat (48 + m % 10)] := by conv => { lhs; rw [Lib.decDigits, dif_neg h] }
      have : (UInt8.ofNat (48 + m % 10)).toNat = 48 + m % 10 := by simp; omega
      rw [e, decVal_snoc, ih (m / 10) (by omega), this]; omega
theorem itoa_nat (i : Nat) : Lib.itoa (i : Int) = Lib.decDigits i := by simp [Lib.itoa]
theorem snocRec {α : Type} {motive : List α → Prop} (l : List α) (nil : motive []) (snoc : ∀ l x, motive l → motive (l ++ [x])) : motive l := by
  rw [← List.reverse_reverse l]
  induction l.reverse with
  | nil => exact nil
  | cons x r ih => rw [List.reverse_cons]; exact snoc _ _ ih

theorem dd_one (m : Nat) (h : m < 10) : Lib.decDigits m = [UInt8.ofNat (48 + m)] := Lib.decDigits_one h
theorem dd_step (k : Nat) (h : 9 < k) : Lib.decDigits k = Lib.decDigits (k / 10) ++ [UInt8.ofNat (48 + k % 10)] := by
  conv => { lhs; rw [Lib.decDigits, dif_neg (by omega)] }
theorem dig_of (d : Nat) (h : d < 10) : (UInt8.ofNat (48 + d)).toNat = 48 + d := by simp; omega
theorem dd_ne (m : Nat) : Lib.decDigits m ≠ [] := fun h => by
  have := Lib.decDigits_length m; rw [h] at this; have := Lib.nDigits_pos m; simp at *; omega
theorem dd_allDig (m : Nat) : allDig (Lib.decDigits m) = true := by
  induction m using Nat.strongRecOn with
  | _ m ih =>
    by_cases h : m < 10
    · rw [dd_one m h]; simp only [allDig, List.all_cons, List.all_nil, Bool.and_true, dig_of m h]; exact (isDigit_iff _).2 (by omega)
    · rw [dd_step m (by omega), allDig_snoc, ih (m / 10) (by omega), dig_of (m % 10) (by omega), (isDigit_iff _).2 (by omega)]; rfl
theorem dd_head (m : Nat) (h : 0 < m) : (Lib.decDigits m).head? ≠ some 48 := by
  induction m using Nat.strongRecOn with
  | _ m ih =>
    by_cases h9 : m < 10
    · rw [dd_one m h9]; simp only [List.head?_cons, ne_eq, Option.some.injEq]
      intro e; have := congrArg UInt8.toNat e; rw [dig_of m h9] at this
      rw [show (48 : UInt8).toNat = 48 from rfl] at this; omega
    · rw [dd_step m (by omega), List.head?_append]
      have := ih (m / 10) (by omega) (by omega)
      cases hh : (Lib.decDigits (m / 10)).head? with
      | none => exact absurd (List.head?_eq_none_iff.1 hh) (dd_ne _)
      | some c => rw [hh] at this; simpa using this
theorem dd_numText (m : Nat) : numText (Lib.decDigits m) = true := by
  simp only [numText, decide_eq_true_eq]
  refine ⟨dd_ne m, dd_allDig m, ?_⟩
  rintro ⟨h1, h2⟩
  by_cases h : 0 < m
  · exact dd_head m h h1
  · obtain rfl : m = 0 := by omega
    rw [dd_one 0 (by omega)] at h2; simp at h2
/-- What is shown of a number that is not below 0 is read as it was. -/
theorem num_shown (n : Nat) (most : Int) : numL (Lib.itoa (n : Int)) most = if most < (n : Int) then (0, 40) else ((n : Int), 0) := by
  rw [itoa_nat]; simp only [numL, dd_numText, if_true, decVal_digits]
theorem num_minus (n : Int) (h : n < 0) (most : Int) : numL (Lib.itoa n) most = (0, 4) := by
  apply numL_form
  have : Lib.itoa n = 45 :: Lib.decDigits n.natAbs := by simp [Lib.itoa, h]
  rw [this]; simp [numText, allDig, isDigit]
/-- What is read is shown as the text. -/
theorem shown_num (l : List UInt8) (h : numText l = true) : Lib.decDigits (decVal l) = l := by
  induction l using snocRec with
  | nil => simp [numText] at h
  | snoc l c ih =>
    simp only [numText, decide_eq_true_eq] at h
    obtain ⟨_, h2, h3⟩ := h
    rw [allDig_snoc, Bool.and_eq_true] at h2
    have hc := (isDigit_iff _).1 h2.2
    have ec : UInt8.ofNat (48 + (c.toNat - 48)) = c := by
      rw [show 48 + (c.toNat - 48) = c.toNat by omega]; simp
    by_cases hl : l = []
    · subst hl
      rw [decVal_snoc]; simp only [decVal, List.foldl_nil, Nat.mul_zero, Nat.zero_add, List.nil_append]
      rw [dd_one _ (by omega), ec]
    · have hl1 : 0 < l.length := List.length_pos_iff.2 hl
      have hh : (l ++ [c]).head? = l.head? := by rw [List.head?_append]; cases l with | nil => exact absurd rfl hl | cons a r => rfl
      rw [hh, List.length_append, List.length_singleton] at h3
      have hn48 : l.head? ≠ some 48 := fun e => h3 ⟨e, by omega⟩
      have ihl := ih (by simp only [numText, decide_eq_true_eq]; exact ⟨hl, h2.1, fun e => hn48 e.1⟩)
      have hpos : 0 < decVal l := by
        rcases Nat.eq_zero_or_pos (decVal l) with h0 | h0
        · rw [h0, dd_one 0 (by omega)] at ihl
          exact absurd (by rw [← ihl]; rfl) hn48
        · exact h0
      rw [decVal_snoc, dd_step _ (by omega), show (10 * decVal l + (c.toNat - 48)) / 10 = decVal l by omega, show (10 * decVal l + (c.toNat - 48)) % 10 = c.toNat - 48 by omega, ihl, ec]
theorem num_back (l : List UInt8) (most : Int) (h : (numL l most).2 = 0) : Lib.itoa (numL l most).1 = l ∧ 0 ≤ (numL l most).1 ∧ (numL l most).1 ≤ most := by
  unfold numL at h ⊢
  by_cases ht : numText l
  · rw [if_pos ht] at h ⊢
    by_cases hm : most < (decVal l : Int)
    · rw [if_pos hm] at h; simp at h
    · rw [if_neg hm]
      exact ⟨by rw [itoa_nat]; exact shown_num l ht, Int.natCast_nonneg _, by simpa using hm⟩
  · rw [if_neg ht] at h; simp at h
theorem num_code (l : List UInt8) (most : Int) : ((numL l most).2 = 0 ∨ ((numL l most).1 = 0 ∧ ((numL l most).2 = 4 ∨ (numL l most).2 = 40))) := by
  unfold numL; split
  · split
    · right; exact ⟨rfl, .inr rfl⟩
    · left; rfl
  · right; exact ⟨rfl, .inl rfl⟩
end Go.Proofs.YtmjkgnknfgoadaaGreatDoor
