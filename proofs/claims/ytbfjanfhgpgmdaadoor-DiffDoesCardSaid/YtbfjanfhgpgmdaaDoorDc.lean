/- The plain laws of layer 30 (diffs): no program in sight. -/
import Derived.Test.YtbfjanfhgpgmdaaDoorDa
namespace Go.Proofs.YtbfjanfhgpgmdaaDoor
open Go.RowKit

structure Ed where
  kind : Int
  d : Df
deriving DecidableEq

def sameD (x y : Df) : Bool := decide (x.name = y.name) && sameT x.body y.body
theorem sameD_symm (x y : Df) : sameD x y = sameD y x := by
  have : ∀ x y, sameD x y = true → sameD y x = true := fun x y h => by
    simp only [sameD, Bool.and_eq_true, decide_eq_true_eq] at h ⊢
    exact ⟨h.1.symm, sameT_symm h.2⟩
  rw [Bool.eq_iff_iff]; exact ⟨this x y, this y x⟩
theorem sameD_trans {x y z : Df} (h : sameD x y = true) (k : sameD y z = true) : sameD x z = true := by
  simp only [sameD, Bool.and_eq_true, decide_eq_true_eq] at h k ⊢
  exact ⟨h.1.trans k.1, sameT_trans h.2 k.2⟩
theorem sameD_refl {x : Df} (h : rightT x.body = true) : sameD x x = true := by
  simp only [sameD, Bool.and_eq_true, decide_eq_true_eq, true_and]; exact sameT_refl h

/-! ### how many edits are needed -/
def needL : List Df → List Df → Nat
  | [], b => b.length
  | x :: a, [] => (x :: a).length
  | x :: a, y :: b => if sameD x y then needL a b else 1 + min (needL a (y :: b)) (needL (x :: a) b)
theorem needL_nil (a : List Df) : needL a [] = a.length := by cases a <;> rw [needL]
theorem needL_cons (x y : Df) (a b : List Df) : needL (x :: a) (y :: b) = if sameD x y then needL a b else 1 + min (needL a (y :: b)) (needL (x :: a) b) := by rw [needL]
theorem need_near (n : Nat) : ∀ a b : List Df, a.length + b.length ≤ n → ∀ x y, needL (x :: a) b ≤ 1 + needL a b ∧ needL a (y :: b) ≤ 1 + needL a b ∧ needL a b ≤ 1 + needL (x :: a) b ∧ needL a b ≤ 1 + needL a (y :: b) := by
  induction n using Nat.strongRecOn with
  | _ n ih =>
    intro a b hn x y
    have nil1 : ∀ l : List Df, needL [] l = l.length := fun l => by rw [needL]
    refine ⟨?_, ?_, ?_, ?_⟩
    · cases b with
      | nil => rw [needL_nil, needL_nil]; simp; omega
      | cons z b =>
        rw [needL_cons]
        split
        · have := ih (n - 1) (by simp only [List.length_cons] at hn; omega) a b (by simp only [List.length_cons] at hn; omega) x z
          omega
        · omega
    · cases a with
      | nil => rw [nil1, nil1]; simp; omega
      | cons z a =>
        rw [needL_cons]
        split
        · have := ih (n - 1) (by simp only [List.length_cons] at hn; omega) a b (by simp only [List.length_cons] at hn; omega) z y
          omega
        · omega
    · cases b with
      | nil => rw [needL_nil, needL_nil]; simp; omega
      | cons z b =>
        have h1 := ih (n - 1) (by simp only [List.length_cons] at hn; omega) a b (by simp only [List.length_cons] at hn; omega) x z
        rw [needL_cons]
        split
        · omega
        · omega
    · cases a with
      | nil => rw [nil1, nil1]; simp; omega
      | cons z a =>
        have h1 := ih (n - 1) (by simp only [List.length_cons] at hn; omega) a b (by simp only [List.length_cons] at hn; omega) z y
        rw [needL_cons]
        split
        · omega
        · omega
theorem need_del (x : Df) (a b : List Df) : needL (x :: a) b ≤ 1 + needL a b := (need_near _ a b (Nat.le_refl _) x x).1
theorem need_ins (y : Df) (a b : List Df) : needL a (y :: b) ≤ 1 + needL a b := (need_near _ a b (Nat.le_refl _) y y).2.1
theorem need_le (a : List Df) : ∀ b, needL a b ≤ a.length + b.length := by
  induction a with
  | nil => intro b; rw [needL]; simp
  | cons x a ih => intro b; have := need_del x a b; have := ih b; simp only [List.length_cons]; omega

/-! ### the diff -/
def ofL : List Df → List Df → List Ed
  | [], [] => []
  | [], y :: b => ⟨2, y⟩ :: ofL [] b
  | _ :: a, [] => ⟨1, ⟨⟨#[]⟩, ⟨[], 0⟩⟩⟩ :: ofL a []
  | x :: a, y :: b =>
    if sameD x y then ⟨0, ⟨⟨#[]⟩, ⟨[], 0⟩⟩⟩ :: ofL a b
    else if needL a (y :: b) ≤ needL (x :: a) b then ⟨1, ⟨⟨#[]⟩, ⟨[], 0⟩⟩⟩ :: ofL a (y :: b) else ⟨2, y⟩ :: ofL (x :: a) b
termination_by a b => a.length + b.length
/-- What a diff makes. -/
def mergeL : List Df → List Df → List Df
  | [], [] => []
  | [], y :: b => y :: mergeL [] b
  | _ :: a, [] => mergeL a []
  | x :: a, y :: b =>
    if sameD x y then x :: mergeL a b
    else if needL a (y :: b) ≤ needL (x :: a) b then mergeL a (y :: b) else y :: mergeL (x :: a) b
termination_by a b => a.length + b.length

def mayE (e : Ed) : Bool := decide (e.kind = 2) || decide ((e.kind = 0 ∨ e.kind = 1) ∧ e.d.name.size = 0 ∧ e.d.body.nodes = [] ∧ e.d.body.root = 0)
/-- What was made, and then what comes of the rest. -/
def joinA (m : List Df) (r : List Df × Int) : List Df × Int := if r.2 = 0 then (m ++ r.1, 0) else ([], r.2)
def applyL : List Df → List Ed → List Df × Int
  | left, [] => if left = [] then ([], 0) else ([], 8)
  | left, e :: l =>
    if mayE e = false then ([], 4)
    else if e.kind = 2 then joinA [e.d] (applyL left l)
    else match left with
      | [] => ([], 5)
      | x :: r => if e.kind = 0 then joinA [x] (applyL r l) else applyL r l
theorem joinA_nil (r : List Df × Int) (h : r.2 ≠ 0 → r.1 = []) : joinA [] r = r := by
  obtain ⟨m, c⟩ := r
  by_cases hc : c = 0
  · subst hc; simp [joinA]
  · have := h hc; simp only at this; subst this; simp [joinA, hc]
theorem joinA_join (m n : List Df) (r : List Df × Int) : joinA m (joinA n r) = joinA (m ++ n) r := by
  obtain ⟨x, c⟩ := r
  by_cases hc : c = 0 <;> simp [joinA, hc]
theorem applyL_bad : ∀ (l : List Ed) (left : List Df), (applyL left l).2 ≠ 0 → (applyL left l).1 = []
  | [], left => by unfold applyL; split <;> simp
  | e :: l, left => by
    unfold applyL
    split
    · simp
    · split
      · unfold joinA; split <;> simp
      · cases left with
        | nil => simp
        | cons x r =>
          simp only
          split
          · unfold joinA; split <;> simp
          · exact applyL_bad l r
theorem apply_of (n : Nat) : ∀ a b : List Df, a.length + b.length ≤ n → applyL a (ofL a b) = (mergeL a b, 0) := by
  induction n with
  | zero =>
    intro a b h
    obtain rfl : a = [] := List.eq_nil_of_length_eq_zero (by omega)
    obtain rfl : b = [] := List.eq_nil_of_length_eq_zero (by omega)
    rw [ofL, mergeL]; rfl
  | succ n ih =>
    intro a b h
    cases a with
    | nil =>
      cases b with
      | nil => rw [ofL, mergeL]; rfl
      | cons y b =>
        rw [ofL, mergeL, applyL, ih [] b (by simp only [List.length_cons] at h; omega)]
        simp [mayE, joinA]
    | cons x a =>
      cases b with
      | nil =>
        rw [ofL, mergeL, applyL]
        simp only [mayE]
        exact ih a [] (by simp only [List.length_cons] at h; omega)
      | cons y b =>
        rw [ofL, mergeL]
        split
        · rw [applyL]
          simp only [mayE]
          rw [ih a b (by simp only [List.length_cons] at h; omega)]
          simp [joinA, show (⟨#[]⟩ : ByteArray) = ByteArray.empty from rfl]
        · split
          · rw [applyL]
            simp only [mayE]
            exact ih a (y :: b) (by simp only [List.length_cons] at h ⊢; omega)
          · rw [applyL, ih (x :: a) b (by simp only [List.length_cons] at h ⊢; omega)]
            simp [mayE, joinA]

/-! ### how many there are of each kind -/
def countK (k : Int) (l : List Ed) : Nat := l.countP fun e => decide (e.kind = k)
theorem countK_nil (k : Int) : countK k [] = 0 := rfl
theorem countK_cons (k : Int) (e : Ed) (l : List Ed) : countK k (e :: l) = countK k l + if e.kind = k then 1 else 0 := by
  simp [countK, List.countP_cons]
theorem of_counts (n : Nat) : ∀ a b : List Df, a.length + b.length ≤ n → countK 1 (ofL a b) + countK 2 (ofL a b) = needL a b ∧ countK 0 (ofL a b) + countK 1 (ofL a b) = a.length ∧ countK 0 (ofL a b) + countK 2 (ofL a b) = b.length ∧
    (ofL a b).length = countK 0 (ofL a b) + countK 1 (ofL a b) + countK 2 (ofL a b) := by
  induction n with
  | zero =>
    intro a b h
    obtain rfl : a = [] := List.eq_nil_of_length_eq_zero (by omega)
    obtain rfl : b = [] := List.eq_nil_of_length_eq_zero (by omega)
    rw [ofL, needL]; simp [countK]
  | succ n ih =>
    intro a b h
    cases a with
    | nil =>
      cases b with
      | nil => rw [ofL, needL]; simp [countK]
      | cons y b =>
        have := ih [] b (by simp only [List.length_cons] at h; omega)
        rw [ofL]
        rw [needL] at this ⊢
        simp only [countK_cons, List.length_cons, List.length_nil] at this ⊢
        simp; omega
    | cons x a =>
      cases b with
      | nil =>
        have := ih a [] (by simp only [List.length_cons] at h; omega)
        rw [ofL]
        rw [needL_nil] at this ⊢
        simp only [countK_cons, List.length_cons, List.length_nil] at this ⊢
        simp; omega
      | cons y b =>
        rw [ofL, needL_cons]
        split
        · have := ih a b (by simp only [List.length_cons] at h; omega)
          simp only [countK_cons, List.length_cons] at this ⊢
          simp; omega
        · split
          · have := ih a (y :: b) (by simp only [List.length_cons] at h ⊢; omega)
            simp only [countK_cons, List.length_cons] at this ⊢
            simp; omega
          · have := ih (x :: a) b (by simp only [List.length_cons] at h ⊢; omega)
            simp only [countK_cons, List.length_cons] at this ⊢
            simp; omega
/-- No row of edits that makes b of a has fewer. -/
theorem fewest : ∀ (l : List Ed) (a b : List Df), (∀ x ∈ a, rightT x.body = true) → applyL a l = (b, 0) → needL a b ≤ countK 1 l + countK 2 l
  | [], a, b, _, h => by
    unfold applyL at h
    split at h
    · rename_i e; subst e; cases h; simp [needL]
    · cases h
  | e :: l, a, b, hr, h => by
    unfold applyL at h
    split at h
    · cases h
    · rename_i hm
      rw [countK_cons, countK_cons]
      split at h
      · rename_i hk
        rw [hk]
        simp only [joinA] at h
        split at h
        · rename_i h0
          cases h
          have := fewest l a _ hr (show applyL a l = ((applyL a l).1, 0) by rw [← h0])
          have h2 := need_ins e.d a (applyL a l).1
          simp only [List.cons_append, List.nil_append]
          simp; omega
        · rename_i h0; injection h with _ h1; exact absurd h1 h0
      · rename_i hk
        cases a with
        | nil => cases h
        | cons x r =>
          simp only at h
          have hrr : ∀ z ∈ r, rightT z.body = true := fun z hz => hr z (List.mem_cons_of_mem _ hz)
          split at h
          · rename_i hk0
            simp only [joinA] at h
            split at h
            · rename_i h0
              cases h
              have := fewest l r _ hrr (show applyL r l = ((applyL r l).1, 0) by rw [← h0])
              simp only [List.cons_append, List.nil_append]
              rw [needL_cons, if_pos (sameD_refl (hr x List.mem_cons_self))]
              omega
            · rename_i h0; injection h with _ h1; exact absurd h1 h0
          · rename_i hk0
            have h1 : e.kind = 1 := by
              have : mayE e = true := by cases hh : mayE e <;> simp_all
              simp only [mayE, Bool.or_eq_true, decide_eq_true_eq] at this
              rcases this with h3 | ⟨h3 | h3, _⟩
              · exact absurd h3 hk
              · exact absurd h3 hk0
              · exact h3
            have := fewest l r b hrr h
            have h2 := need_del x r b
            rw [h1]; simp; omega
end Go.Proofs.YtbfjanfhgpgmdaaDoor
