/- Plain laws: how the loops of Right come to whether a tree is right. -/
import Derived.Test.YtbfjanfhgpgmdaaDoorDb
import Derived.Laws.OwnMore
namespace Go.Proofs.YtbfjanfhgpgmdaaDoor
open Go.RowKit

/-- The kids that were seen ahead of kid q of node k. -/
def seenL (l : List Nd) (k q : Nat) : List Int := kidsOf (l.take k) ++ ((l[k]?.map Nd.kids).getD []).take q
theorem seen_zero (l : List Nd) : seenL l 0 0 = [] := by simp [seenL, kidsOf]
theorem seen_next (l : List Nd) (k : Nat) (hk : k < l.length) : seenL l k l[k].kids.length = seenL l (k + 1) 0 := by
  simp only [seenL, List.getElem?_eq_getElem hk, Option.map_some, Option.getD_some, List.take_length, List.take_zero, List.append_nil, kidsOf]
  rw [List.take_succ_eq_append_getElem hk, List.flatMap_append]; simp
theorem seen_kid (l : List Nd) (k q : Nat) (hk : k < l.length) (hq : q < l[k].kids.length) : seenL l k (q + 1) = seenL l k q ++ [l[k].kids[q]] := by
  simp only [seenL, List.getElem?_eq_getElem hk, Option.map_some, Option.getD_some]
  rw [List.take_succ_eq_append_getElem hq, List.append_assoc]
theorem seen_all (l : List Nd) (k q : Nat) : ∃ r, kidsOf l = seenL l k q ++ r := by
  by_cases hk : k < l.length
  · refine ⟨l[k].kids.drop q ++ kidsOf (l.drop (k + 1)), ?_⟩
    simp only [seenL, List.getElem?_eq_getElem hk, Option.map_some, Option.getD_some, kidsOf]
    conv => { lhs; rw [← List.take_append_drop k l, List.flatMap_append, List.drop_eq_getElem_cons hk, List.flatMap_cons] }
    rw [List.append_assoc, ← List.append_assoc (List.take q _), List.take_append_drop]
  · refine ⟨[], ?_⟩
    simp [seenL, List.getElem?_eq_none (show l.length ≤ k by omega), List.take_of_length_le (show l.length ≤ k by omega)]
theorem seen_end (l : List Nd) : seenL l l.length 0 = kidsOf l := by simp [seenL]
theorem seen_count (l : List Nd) (k q : Nat) (z : Int) : (seenL l k q).count z ≤ (kidsOf l).count z := by
  obtain ⟨r, h⟩ := seen_all l k q
  rw [h, List.count_append]; omega
theorem seen_length (l : List Nd) (k q : Nat) : (seenL l k q).length ≤ (kidsOf l).length := by
  obtain ⟨r, h⟩ := seen_all l k q
  rw [h, List.length_append]; omega

theorem right_no {t : Tr} (h : ¬ rightP t) : rightT t = false := by
  cases e : rightT t
  · rfl
  · exact absurd ((rightT_iff t).1 e) h
theorem right_no_root {t : Tr} (h : ¬ (0 ≤ t.root ∧ t.root < (t.nodes.length : Int))) : rightT t = false := right_no fun hp => h hp.1
theorem right_no_nd {t : Tr} {k : Nat} (hk : k < t.nodes.length) (h : fitN t.nodes[k] t.nodes[k].kids.length = false) : rightT t = false :=
  right_no fun hp => by have := rightP_fit hp (List.getElem?_eq_getElem hk); rw [h] at this; cases this
theorem right_no_kid {t : Tr} {k q : Nat} (hk : k < t.nodes.length) (hq : q < t.nodes[k].kids.length) (h : ¬ (0 ≤ t.nodes[k].kids[q] ∧ t.nodes[k].kids[q] < (k : Int))) : rightT t = false :=
  right_no fun hp => h (rightP_kid hp (List.getElem?_eq_getElem hk) (List.getElem_mem hq))
theorem rightP_count {t : Tr} (hp : rightP t) (z : Int) : (kidsOf t.nodes).count z ≤ 1 := by
  by_cases hz : 0 ≤ z ∧ z < (t.nodes.length : Int)
  · have := hp.2.2 z.toNat (by omega)
    rw [show ((z.toNat : Nat) : Int) = z by omega] at this
    rw [this]; split <;> omega
  · rw [List.count_eq_zero.2 (fun hm => ?_)]
    · omega
    · obtain ⟨n, hn, hk⟩ := List.mem_flatMap.1 hm
      obtain ⟨i, hi⟩ := List.mem_iff_getElem?.1 hn
      have := rightP_kid hp hi hk
      have := (List.getElem?_eq_some_iff.1 hi).1
      omega
theorem right_no_dup {t : Tr} {k q : Nat} (hk : k < t.nodes.length) (hq : q < t.nodes[k].kids.length) (h : 0 < (seenL t.nodes k q).count t.nodes[k].kids[q]) : rightT t = false :=
  right_no fun hp => by
    have h1 := rightP_count hp t.nodes[k].kids[q]
    have h2 := seen_count t.nodes k (q + 1) t.nodes[k].kids[q]
    rw [seen_kid _ _ _ hk hq, List.count_append, List.count_singleton] at h2
    simp at h2; omega
/-- Nothing was wrong ahead of node k. -/
def FineTo (l : List Nd) (k : Nat) : Prop := ∀ j, j < k → ∀ n, l[j]? = some n → ndOk j n = true
theorem FineTo.zero (l : List Nd) : FineTo l 0 := fun j hj => by omega
theorem FineTo.next {l : List Nd} {k : Nat} (h : FineTo l k) (hk : k < l.length) (hf : fitN l[k] l[k].kids.length = true) (hi : ∀ p (hp : p < l[k].kids.length), 0 ≤ l[k].kids[p] ∧ l[k].kids[p] < (k : Int)) : FineTo l (k + 1) := fun j hj n hn => by
  by_cases e : j < k
  · exact h j e n hn
  · obtain rfl : j = k := by omega
    rw [List.getElem?_eq_getElem hk] at hn
    cases hn
    simp only [ndOk, Bool.and_eq_true, hf, true_and, List.all_eq_true, decide_eq_true_eq]
    intro z hz
    obtain ⟨p, hp, rfl⟩ := List.mem_iff_getElem.1 hz
    exact hi p hp
theorem right_no_end {t : Tr} {j : Nat} (hj : j < t.nodes.length) (h : (kidsOf t.nodes).count (j : Int) ≠ if (j : Int) = t.root then 0 else 1) : rightT t = false := right_no fun hp => h (hp.2.2 j hj)
theorem right_yes {t : Tr} (h0 : 0 ≤ t.root ∧ t.root < (t.nodes.length : Int)) (h1 : FineTo t.nodes t.nodes.length) (h2 : ∀ j, j < t.nodes.length → (kidsOf t.nodes).count (j : Int) = if (j : Int) = t.root then 0 else 1) : rightT t = true :=
  (rightT_iff t).2 ⟨h0, fun i n hn => h1 i (List.getElem?_eq_some_iff.1 hn).1 n hn, h2⟩

/-! ### what was seen, as it lies in memory -/
def boolsOf (n : Nat) (L : List Int) : List Value := (List.range n).map fun j : Nat => Value.bool (decide (0 < L.count (j : Int)))
theorem boolsOf_length (n : Nat) (L : List Int) : (boolsOf n L).length = n := by simp [boolsOf]
theorem boolsOf_get (n : Nat) (L : List Int) (j : Nat) (h : j < n) : (boolsOf n L)[j]? = some (.bool (decide (0 < L.count (j : Int)))) := by simp [boolsOf, h]
theorem boolsOf_nil (n : Nat) : (madeCells #[.bool false] n).toList = boolsOf n [] := by
  rw [toList_madeCells_one]
  apply List.ext_getElem?
  intro i
  by_cases h : i < n
  · rw [boolsOf_get _ _ _ h, List.getElem?_replicate_of_lt h]; rfl
  · rw [List.getElem?_eq_none (by simp; omega), List.getElem?_eq_none (by rw [boolsOf_length]; omega)]
theorem boolsOf_set (n : Nat) (L : List Int) (m : Nat) (h : m < n) : (boolsOf n L).set m (.bool true) = boolsOf n (L ++ [(m : Int)]) := by
  apply List.ext_getElem?
  intro i
  by_cases hi : i < n
  · rw [boolsOf_get _ _ _ hi, List.getElem?_set]
    by_cases e : m = i
    · subst e
      rw [if_pos rfl, if_pos (by rw [boolsOf_length]; exact h), List.count_append]
      simp
    · rw [if_neg e, boolsOf_get _ _ _ hi, List.count_append, List.count_singleton]
      have : ((m : Int) == (i : Int)) = false := by simp; omega
      rw [this]; simp
  · rw [List.getElem?_eq_none (by simp [boolsOf_length]; omega), List.getElem?_eq_none (by rw [boolsOf_length]; omega)]
def countsOf (n : Nat) (L : List Int) : List Value := (List.range n).map fun j : Nat => Value.int .i64 (L.count (j : Int) : Nat)
theorem countsOf_length (n : Nat) (L : List Int) : (countsOf n L).length = n := by simp [countsOf]
theorem countsOf_get (n : Nat) (L : List Int) (j : Nat) (h : j < n) : (countsOf n L)[j]? = some (.int .i64 (L.count (j : Int) : Nat)) := by simp [countsOf, h]
theorem countsOf_nil (n : Nat) : (madeCells #[.int .i64 0] n).toList = countsOf n [] := by
  rw [toList_madeCells_one]
  apply List.ext_getElem?
  intro i
  by_cases h : i < n
  · rw [countsOf_get _ _ _ h, List.getElem?_replicate_of_lt h]; rfl
  · rw [List.getElem?_eq_none (by simp; omega), List.getElem?_eq_none (by rw [countsOf_length]; omega)]
theorem countsOf_set (n : Nat) (L : List Int) (m : Nat) (h : m < n) : (countsOf n L).set m (.int .i64 ((L.count (m : Int) : Nat) + 1)) = countsOf n (L ++ [(m : Int)]) := by
  apply List.ext_getElem?
  intro i
  by_cases hi : i < n
  · rw [countsOf_get _ _ _ hi, List.getElem?_set]
    by_cases e : m = i
    · subst e
      rw [if_pos rfl, if_pos (by rw [countsOf_length]; exact h), List.count_append]
      simp
    · rw [if_neg e, countsOf_get _ _ _ hi, List.count_append, List.count_singleton]
      have : ((m : Int) == (i : Int)) = false := by simp; omega
      rw [this]; simp
  · rw [List.getElem?_eq_none (by simp [countsOf_length]; omega), List.getElem?_eq_none (by rw [countsOf_length]; omega)]
end Go.Proofs.YtbfjanfhgpgmdaaDoor
