/- Plain laws of layer 2 (names and numbers): lists of bytes, no program in sight. -/
import Derived.Lib.Hide
import Derived.Lib.Strings
import Derived.Lib.IndexBytes
import Derived.Lib.ItoaNum
import Derived.Lib.ItoaLen
import Derived.Lib.Bytealg
namespace Go.Proofs.YtbfjanfhgpgmdaaDoor
open Go.RowKit

def isLetter (b : Int) : Bool := decide (97 ≤ b ∧ b ≤ 122 ∨ 65 ≤ b ∧ b ≤ 90 ∨ b = 95)
def isDigit (b : Int) : Bool := decide (48 ≤ b ∧ b ≤ 57)
def alnum (c : UInt8) : Bool := isLetter c.toNat || isDigit c.toNat
def takeL : List UInt8 → List UInt8
  | [] => []
  | c :: r => if isLetter c.toNat then c :: r.takeWhile alnum else []
def mayL (l : List UInt8) : Bool := decide (l ≠ [] ∧ l.length ≤ 32 ∧ takeL l = l)

theorem ret_bool {a b : Bool} (h : a = b) : Ending.returned (.bool a) = .returned (.bool b) := by rw [h]
theorem ret_int {k : IntKind} {a b : Int} (h : a = b) : Ending.returned (.int k a) = .returned (.int k b) := by rw [h]
theorem ret_str {a b : ByteArray} (h : a.data.toList = b.data.toList) : Ending.returned (.string a) = .returned (.string b) := by
  have : a = b := by rw [← Lib.mk_data a, ← Lib.mk_data b, h]
  rw [this]
theorem str_ext {a b : ByteArray} (h : a.data.toList = b.data.toList) : a = b := by rw [← Lib.mk_data a, ← Lib.mk_data b, h]

theorem sz_data (s : ByteArray) : s.data.toList.length = s.size := (Lib.size_eq s).symm
theorem bytes_pos (s : ByteArray) (h : 0 < s.size) : s.data.toList = s[0] :: s.data.toList.drop 1 := by
  have h1 := Lib.data_getElem? s 0 h
  cases e : s.data.toList with
  | nil => rw [e] at h1; simp at h1
  | cons a r => rw [e] at h1; simp at h1; rw [h1]; rfl
theorem bytes_ne (s : ByteArray) (h : 0 < s.size) : s.toList.isEmpty = false ∧ ¬ s.toList = [] := by
  rw [Lib.toList_data, bytes_pos s h]; simp
theorem bytes_none (s : ByteArray) (h : ¬ 0 < s.size) : s.toList.isEmpty = true ∧ s.toList = [] ∧ s.data.toList = [] := by
  have : s.data.toList = [] := List.eq_nil_of_length_eq_zero (by rw [sz_data]; omega)
  rw [Lib.toList_data, this]; simp
theorem drop_at (s : ByteArray) (k : Nat) (h : k < s.size) : s.data.toList.drop k = s[k] :: s.data.toList.drop (k+1) := by
  rw [List.drop_eq_getElem_cons (by rw [sz_data]; exact h)]; congr 1
theorem take_at (s : ByteArray) (k : Nat) (h : k < s.size) : s.data.toList.take (k+1) = s.data.toList.take k ++ [s[k]] := by
  rw [List.take_succ_eq_append_getElem (by rw [sz_data]; exact h)]; rfl
theorem take_all (s : ByteArray) (k : Nat) (h : s.size ≤ k) : s.data.toList.take k = s.data.toList := List.take_of_length_le (by rw [sz_data]; exact h)

theorem takeL_letter (s : ByteArray) (h : 0 < s.size) (hl : isLetter s[0].toNat = true) : takeL s.data.toList = s[0] :: (s.data.toList.drop 1).takeWhile alnum := by
  rw [bytes_pos s h]; simp [takeL, hl]
theorem takeL_noletter (s : ByteArray) (h : 0 < s.size) (hl : isLetter s[0].toNat = false) : takeL s.data.toList = [] := by
  rw [bytes_pos s h]; simp [takeL, hl]
theorem takeWhile_yes (s : ByteArray) (k : Nat) (h : k < s.size) (hp : alnum s[k] = true) :
    s.data.toList.take k ++ (s.data.toList.drop k).takeWhile alnum = s.data.toList.take (k + 1) ++ (s.data.toList.drop (k + 1)).takeWhile alnum := by
  rw [drop_at s k h, List.takeWhile_cons_of_pos hp, take_at s k h, List.append_assoc]; rfl
theorem takeWhile_no (s : ByteArray) (k : Nat) (h : k < s.size) (hp : alnum s[k] = false) : (s.data.toList.drop k).takeWhile alnum = [] := by
  rw [drop_at s k h, List.takeWhile_cons_of_neg (by simp [hp])]
theorem takeWhile_end (s : ByteArray) (k : Nat) (h : s.size ≤ k) : (s.data.toList.drop k).takeWhile alnum = [] := by
  rw [List.drop_eq_nil_of_le (by rw [sz_data]; exact h)]; rfl

theorem takeL_prefix (l : List UInt8) : takeL l <+: l := by
  cases l with
  | nil => exact List.prefix_rfl
  | cons c r =>
    by_cases h : isLetter c.toNat
    · simp only [takeL, h, if_true]; exact (List.prefix_cons_inj c).2 (List.takeWhile_prefix _)
    · simp only [takeL, h]; exact List.nil_prefix
theorem takeL_le (l : List UInt8) : (takeL l).length ≤ l.length := (takeL_prefix l).length_le
theorem takeL_eq_iff (l : List UInt8) : takeL l = l ↔ (takeL l).length = l.length :=
  ⟨fun h => by rw [h], fun h => (takeL_prefix l).eq_of_length h⟩
theorem takeL_idem (l : List UInt8) : takeL (takeL l) = takeL l := by
  cases l with
  | nil => rfl
  | cons c r =>
    by_cases h : isLetter c.toNat
    · simp only [takeL, h, if_true]
      congr 1
      have : ∀ (r : List UInt8), (r.takeWhile alnum).takeWhile alnum = r.takeWhile alnum := by
        intro r
        induction r with
        | nil => rfl
        | cons a r ih => by_cases ha : alnum a <;> simp [ha, ih]
      exact this r
    · simp only [takeL, h]; simp

/-! ### numbers -/
def decVal (l : List UInt8) : Nat := l.foldl (fun a c => 10 * a + (c.toNat - 48)) 0
def allDig (l : List UInt8) : Bool := l.all fun c => isDigit c.toNat
def numText (l : List UInt8) : Bool := decide (l ≠ [] ∧ allDig l = true ∧ ¬ (l.head? = some 48 ∧ 1 < l.length))
def numL (l : List UInt8) (most : Int) : Int × Int :=
  if numText l then (if most < decVal l then (0, 40) else (decVal l, 0)) else (0, 4)

theorem decVal_snoc (l : List UInt8) (c : UInt8) : decVal (l ++ [c]) = 10 * decVal l + (c.toNat - 48) := by simp [decVal]
theorem decVal_mono (a b : List UInt8) : decVal a ≤ decVal (a ++ b) := by
  unfold decVal; rw [List.foldl_append]
  generalize a.foldl (fun a c => 10 * a + (c.toNat - 48)) 0 = x
  induction b generalizing x with
  | nil => exact Nat.le_refl _
  | cons c b ih => exact Nat.le_trans (by simp only []; omega) (ih _)
theorem allDig_snoc (l : List UInt8) (c : UInt8) : allDig (l ++ [c]) = (allDig l && isDigit c.toNat) := by simp [allDig]
theorem isDigit_iff (b : Int) : isDigit b = true ↔ 48 ≤ b ∧ b ≤ 57 := by simp [isDigit]
theorem isDigit_no (b : Int) : isDigit b = false ↔ b < 48 ∨ 57 < b := by simp [isDigit]; omega
theorem numL_form (l : List UInt8) (most : Int) (h : numText l = false) : numL l most = (0, 4) := by simp [numL, h]
theorem numText_bad (s : ByteArray) (k : Nat) (h : k < s.size) (hd : isDigit s[k].toNat = false) : numText s.data.toList = false := by
  have : allDig s.data.toList = false := by
    rw [← List.take_append_drop k s.data.toList, drop_at s k h]; simp [allDig, hd]
  simp [numText, this]
theorem numText_zero (s : ByteArray) (h : 1 < s.size) (hd : s[0].toNat = 48) : numText s.data.toList = false := by
  have e := bytes_pos s (by omega)
  have h2 : s.data.toList.head? = some 48 := by rw [e]; simp; exact UInt8.toNat_inj.1 hd
  have h3 : 1 < s.data.toList.length := by rw [sz_data]; exact h
  simp [numText, h2]; rw [Array.length_toList] at h3; intro _ _; exact h3
theorem numText_ok (s : ByteArray) (h : 0 < s.size) (hz : ¬ (s[0].toNat = 48 ∧ 1 < s.size)) (hd : allDig s.data.toList = true) : numText s.data.toList = true := by
  have e := bytes_pos s h
  have h3 := sz_data s
  simp only [numText, decide_eq_true_eq]
  refine ⟨by rw [e]; simp, hd, ?_⟩
  rintro ⟨h1, h2⟩
  rw [e] at h1; simp at h1
  exact hz ⟨by rw [h1]; rfl, by omega⟩

end Go.Proofs.YtbfjanfhgpgmdaaDoor
