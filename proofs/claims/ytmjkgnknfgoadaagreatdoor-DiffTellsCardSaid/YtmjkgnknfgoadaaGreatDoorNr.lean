/- The report of a diff, plain. The longest common row of two grammars' rules, plain: the reference's table. The contracts of bonsairef02's Letter, digit, Take. The contracts of package bonsairef02 that the trees need. -/
import Derived.Test.YtmjkgnknfgoadaaGreatDoorDx
import Derived.Test.YtmjkgnknfgoadaaGreatDoorGo
import Derived.Test.YtmjkgnknfgoadaaGreatDoorDa
import Derived.Test.YtmjkgnknfgoadaaGreatDoorNa
namespace Go.Proofs.YtmjkgnknfgoadaaGreatDoor
open Go.RowKit
set_option linter.unusedSimpArgs false
set_option linter.unusedVariables false
theorem of_next {a b : List Df} {p q : Nat} {e : Ed} {l : List Ed} (hp : p ≤ a.length) (hq : q ≤ b.length) (h : ofL (a.drop p) (b.drop q) = e :: l) :
    (e.kind = 0 ∧ p < a.length ∧ q < b.length ∧ ofL (a.drop (p + 1)) (b.drop (q + 1)) = l) ∨ (e.kind = 1 ∧ p < a.length ∧ ofL (a.drop (p + 1)) (b.drop q) = l) ∨ (e.kind = 2 ∧ ∃ hq : q < b.length, e.d = b[q] ∧ ofL (a.drop p) (b.drop (q + 1)) = l) := by
  by_cases hp1 : p < a.length
  · by_cases hq1 : q < b.length
    · cases hs : sameD a[p] b[q]
      · by_cases hn : needL (a.drop (p + 1)) (b.drop q) ≤ needL (a.drop p) (b.drop (q + 1))
        · rw [of_del hp1 hq1 hs hn] at h
          obtain ⟨rfl, rfl⟩ := List.cons.inj h
          exact Or.inr (Or.inl ⟨rfl, hp1, rfl⟩)
        · rw [of_ins hp1 hq1 hs hn] at h
          obtain ⟨rfl, rfl⟩ := List.cons.inj h
          exact Or.inr (Or.inr ⟨rfl, hq1, rfl, rfl⟩)
      · rw [of_keep hp1 hq1 hs] at h
        obtain ⟨rfl, rfl⟩ := List.cons.inj h
        exact Or.inl ⟨rfl, hp1, hq1, rfl⟩
    · rw [of_del0 hp1 (by omega)] at h
      obtain ⟨rfl, rfl⟩ := List.cons.inj h
      exact Or.inr (Or.inl ⟨rfl, hp1, rfl⟩)
  · by_cases hq1 : q < b.length
    · rw [of_ins0 (by omega) hq1] at h
      obtain ⟨rfl, rfl⟩ := List.cons.inj h
      exact Or.inr (Or.inr ⟨rfl, hq1, rfl, rfl⟩)
    · rw [of_end (by omega) (by omega)] at h
      cases h
def repL : List Df → List Ed → List UInt8
  | _, [] => []
  | a, e :: l => if e.kind = 2 then [43, 32] ++ defB e.d ++ repL a l else (if e.kind = 1 then [45, 32] else [32, 32]) ++ defB (a.headD ⟨⟨#[]⟩, ⟨[], 0⟩⟩) ++ repL a.tail l
def repG (a b : List Df) : List UInt8 := if mayG a = 0 ∧ mayG b = 0 then repL a (ofL a b) else []
theorem head_drop {a : List Df} {p : Nat} (hp : p < a.length) : (a.drop p).headD ⟨⟨#[]⟩, ⟨[], 0⟩⟩ = a[p] := by rw [List.drop_eq_getElem_cons hp]; rfl
theorem tail_drop' {a : List Df} {p : Nat} : (a.drop p).tail = a.drop (p + 1) := by simp
structure RepSt (a b : List Df) (es : List Ed) (k p : Nat) (out : List UInt8) : Prop where
  le : p ≤ a.length
  rest : ∃ q, q ≤ b.length ∧ ofL (a.drop p) (b.drop q) = es.drop k
  txt : out ++ repL (a.drop p) (es.drop k) = repL a es
  len : out.length ≤ k * 2400000039
theorem RepSt.start {a b : List Df} {es : List Ed} (h : es = ofL a b) : RepSt a b es 0 0 [] := ⟨Nat.zero_le _, ⟨0, Nat.zero_le _, by simp [h]⟩, by simp, by simp⟩
theorem RepSt.done {a b : List Df} {es : List Ed} {p : Nat} {out : List UInt8} (h : RepSt a b es es.length p out) : out = repL a es := by
  have := h.txt
  rw [List.drop_of_length_le (Nat.le_refl _)] at this
  simpa [repL] using this
theorem RepSt.step {a b : List Df} {es : List Ed} {k p : Nat} {out : List UInt8} (h : RepSt a b es k p out) (hk : k < es.length) (hm : ∀ d ∈ a, (defB d).length ≤ 2400000037) (hn : ∀ d ∈ b, (defB d).length ≤ 2400000037) :
    (es[k].kind = 0 ∧ ∃ hp : p < a.length, RepSt a b es (k + 1) (p + 1) (out ++ [32, 32] ++ defB a[p])) ∨ (es[k].kind = 1 ∧ ∃ hp : p < a.length, RepSt a b es (k + 1) (p + 1) (out ++ [45, 32] ++ defB a[p])) ∨ (es[k].kind = 2 ∧ RepSt a b es (k + 1) p (out ++ [43, 32] ++ defB es[k].d) ∧ es[k].d ∈ b) := by
  obtain ⟨q, hq, hr⟩ := h.rest
  rw [List.drop_eq_getElem_cons hk] at hr
  have ho := h.txt
  rw [List.drop_eq_getElem_cons hk] at ho
  have hl := h.len
  rcases of_next h.le hq hr with ⟨h1, h2, h3, h4⟩ | ⟨h1, h2, h4⟩ | ⟨h1, h2, h3, h4⟩
  · refine Or.inl ⟨h1, h2, ⟨h2, ⟨q + 1, h3, h4⟩, ?_, ?_⟩⟩
    · rw [repL, if_neg (by rw [h1]; decide), if_neg (by rw [h1]; decide), head_drop h2, tail_drop'] at ho
      rw [← ho]; simp only [List.append_assoc]
    · have := hm _ (List.getElem_mem h2); simp only [List.length_append, List.length_cons, List.length_nil]; omega
  · refine Or.inr (Or.inl ⟨h1, h2, ⟨h2, ⟨q, hq, h4⟩, ?_, ?_⟩⟩)
    · rw [repL, if_neg (by rw [h1]; decide), if_pos h1, head_drop h2, tail_drop'] at ho
      rw [← ho]; simp only [List.append_assoc]
    · have := hm _ (List.getElem_mem h2); simp only [List.length_append, List.length_cons, List.length_nil]; omega
  · have hd0 : es[k].d ∈ b := by rw [h3]; exact List.getElem_mem h2
    have hd := hn _ hd0
    refine Or.inr (Or.inr ⟨h1, ⟨h.le, ⟨q + 1, h2, h4⟩, ?_, ?_⟩, hd0⟩)
    · rw [repL, if_pos h1] at ho
      rw [← ho]; simp only [List.append_assoc]
    · simp only [List.length_append, List.length_cons, List.length_nil]; omega
end Go.Proofs.YtmjkgnknfgoadaaGreatDoor
namespace Go.Proofs.YtmjkgnknfgoadaaGreatDoor
set_option linter.unusedSimpArgs false
set_option linter.unusedVariables false
def lcL : List Df → List Df → Nat
  | [], _ => 0
  | _ :: _, [] => 0
  | x :: a, y :: b => if sameD x y then 1 + lcL a b else max (lcL a (y :: b)) (lcL (x :: a) b)
theorem lcL_nil (a : List Df) : lcL a [] = 0 := by cases a <;> rw [lcL]
theorem lcL_cons (x y : Df) (a b : List Df) : lcL (x :: a) (y :: b) = if sameD x y then 1 + lcL a b else max (lcL a (y :: b)) (lcL (x :: a) b) := by rw [lcL]
theorem need_lc (n : Nat) : ∀ a b : List Df, a.length + b.length ≤ n → needL a b + 2 * lcL a b = a.length + b.length := by
  induction n using Nat.strongRecOn with
  | _ n ih =>
    intro a b hn
    cases a with
    | nil => simp [needL, lcL]
    | cons x a =>
      cases b with
      | nil => simp [needL_nil, lcL_nil]
      | cons y b =>
        simp only [List.length_cons] at hn ⊢
        have h1 := ih (a.length + b.length) (by omega) a b (Nat.le_refl _)
        have h2 := ih (a.length + (b.length + 1)) (by omega) a (y :: b) (by simp)
        have h3 := ih (a.length + 1 + b.length) (by omega) (x :: a) b (by simp)
        simp only [List.length_cons] at h2 h3
        rw [needL_cons, lcL_cons]
        by_cases hs : sameD x y = true
        · rw [if_pos hs, if_pos hs]; omega
        · rw [if_neg hs, if_neg hs]
          rcases Nat.le_total (needL a (y :: b)) (needL (x :: a) b) with h | h
          · rw [Nat.min_eq_left h, Nat.max_eq_left (by omega)]; omega
          · rw [Nat.min_eq_right h, Nat.max_eq_right (by omega)]; omega
theorem lc_need (a b : List Df) : needL a b + 2 * lcL a b = a.length + b.length := need_lc _ a b (Nat.le_refl _)
theorem lc_del (x : Df) (a b : List Df) : lcL (x :: a) b ≤ 1 + lcL a b ∧ lcL a b ≤ lcL (x :: a) b := by
  have h1 := lc_need a b; have h2 := lc_need (x :: a) b
  have h3 := need_near _ a b (Nat.le_refl _) x x
  simp only [List.length_cons] at h2
  omega
theorem lc_ins (y : Df) (a b : List Df) : lcL a (y :: b) ≤ 1 + lcL a b ∧ lcL a b ≤ lcL a (y :: b) := by
  have h1 := lc_need a b; have h2 := lc_need a (y :: b)
  have h3 := need_near _ a b (Nat.le_refl _) y y
  simp only [List.length_cons] at h2
  omega
theorem lc_le (a b : List Df) : lcL a b ≤ a.length := by
  have h1 := lc_need a b
  induction a generalizing b with
  | nil => simp [lcL]
  | cons x a ih =>
    have h2 := (lc_del x a b).1
    have h3 := ih b (lc_need a b)
    simp only [List.length_cons]; omega
theorem drop_cons {a : List Df} {i : Nat} (hi : i < a.length) : a.drop i = a[i] :: a.drop (i + 1) := List.drop_eq_getElem_cons hi
theorem lc_step {a b : List Df} {i k : Nat} (hi : i < a.length) (hk : k < b.length) :
    (sameD a[i] b[k] = true → max (max (lcL (a.drop (i + 1)) (b.drop k)) (lcL (a.drop i) (b.drop (k + 1)))) (1 + lcL (a.drop (i + 1)) (b.drop (k + 1))) = lcL (a.drop i) (b.drop k) ∧ lcL (a.drop i) (b.drop k) = 1 + lcL (a.drop (i + 1)) (b.drop (k + 1))) ∧
    (sameD a[i] b[k] = false → max (lcL (a.drop (i + 1)) (b.drop k)) (lcL (a.drop i) (b.drop (k + 1))) = lcL (a.drop i) (b.drop k)) := by
  have h1 := (lc_del a[i] (a.drop (i + 1)) (b.drop (k + 1))).1
  have h2 := (lc_ins b[k] (a.drop (i + 1)) (b.drop (k + 1))).1
  rw [← drop_cons hi] at h1
  rw [← drop_cons hk] at h2
  have h3 := lcL_cons a[i] b[k] (a.drop (i + 1)) (b.drop (k + 1))
  rw [← drop_cons hi, ← drop_cons hk] at h3
  refine ⟨fun hs => ?_, fun hs => ?_⟩
  · rw [if_pos hs] at h3
    refine ⟨?_, h3⟩
    rw [h3]; omega
  · rw [if_neg (by simp [hs])] at h3
    exact h3.symm
theorem lc_delete {a b : List Df} {i k : Nat} (hi : i < a.length) (hk : k < b.length) (hs : sameD a[i] b[k] = false) : (lcL (a.drop i) (b.drop k) = lcL (a.drop (i + 1)) (b.drop k)) ↔ needL (a.drop (i + 1)) (b.drop k) ≤ needL (a.drop i) (b.drop (k + 1)) := by
  have h0 := (lc_step hi hk).2 hs
  have h1 := lc_need (a.drop (i + 1)) (b.drop k)
  have h2 := lc_need (a.drop i) (b.drop (k + 1))
  simp only [List.length_drop] at h1 h2
  omega
end Go.Proofs.YtmjkgnknfgoadaaGreatDoor
namespace Go.Proofs.YtmjkgnknfgoadaaGreatDoor
open Go.RowKit
set_option maxHeartbeats 400000 in
theorem rletter_any (b : Int) (w : World) :
    Calls Tryz.prog 141 #[.int .u8 b] w fun e w' => e = .returned (.bool (isLetter b)) ∧ w = w' := by
  go_enter Tryz.func141, Tryz.ntmps141
  go_wp2
  all_goals (go_ret; exact ⟨ret_bool (by unfold isLetter; rw [Bool.eq_iff_iff]; simp; omega), rfl⟩)
set_option maxHeartbeats 400000 in
theorem rdigit_any (b : Int) (w : World) :
    Calls Tryz.prog 142 #[.int .u8 b] w fun e w' => e = .returned (.bool (isDigit b)) ∧ w = w' := by
  go_enter Tryz.func142, Tryz.ntmps142
  go_wp2
  all_goals (go_ret; exact ⟨ret_bool (by unfold isDigit; rw [Bool.eq_iff_iff]; simp; omega), rfl⟩)
set_option maxHeartbeats 400000 in
theorem rtake_any (s : ByteArray) (w : World) (hs : s.size ≤ 281474976710656) :
    Calls Tryz.prog 108 #[.string s] w fun e w' => ∃ t : ByteArray, e = .returned (.string t) ∧ t.data.toList = takeL s.data.toList ∧ w = w' := by
  by_cases h0 : 0 < s.size
  · have ⟨e1, e2⟩ := bytes_ne s h0
    cases hl : isLetter s[0].toNat
    · have HT := Lib.hid (takeL_noletter s h0 hl)
      go_enter Tryz.func108, Tryz.ntmps108
      go_wp2_with (first | (go_at_call 141; refine (rletter_any _ _).mono ?_; rintro e w' ⟨rfl, rfl⟩))
      go_ret
      exact ⟨_, rfl, HT.out.symm, rfl⟩
    · have HT := Lib.hid (takeL_letter s h0 hl)
      go_enter Tryz.func108, Tryz.ntmps108
      go_wp2_with (first | (go_at_call 141; refine (rletter_any _ _).mono ?_; rintro e w' ⟨rfl, rfl⟩))
      go_loop [3] (fun n => ∃ k : Nat, k ≤ s.size ∧ n = .int .i64 k ∧ takeL s.data.toList = s.data.toList.take k ++ (s.data.toList.drop k).takeWhile alnum) (fun n => s.size - (intOf n).toNat)
      case atStart => exact ⟨0, by omega, rfl, by rw [HT.out, List.drop_zero]; conv => { rhs; arg 2; rw [bytes_pos s h0] }; simp [alnum, hl]⟩
      case round =>
        obtain ⟨k, hk, rfl, hT⟩ := hrel
        have HK := Lib.hid hT; clear hT
        by_cases hlt : k < s.size
        · go_wp2_with (first | (go_at_call 141; refine (rletter_any _ _).mono ?_; rintro e w' ⟨rfl, rfl⟩) | (go_at_call 142; refine (rdigit_any _ _).mono ?_; rintro e w' ⟨rfl, rfl⟩))
          · refine ⟨⟨k + 1, by omega, by go_num, ?_⟩, by simp [intOf]; omega⟩
            rw [HK.out, takeWhile_yes s k hlt (by simp [alnum, *])]
          · refine ⟨⟨k + 1, by omega, by go_num, ?_⟩, by simp [intOf]; omega⟩
            rw [HK.out, takeWhile_yes s k hlt (by simp [alnum, *])]
          · have HF := Lib.hid (takeWhile_no s k hlt (by simp [alnum, *]))
            go_ret
            exact ⟨_, rfl, by rw [HK.out, HF.out, Lib.extract_data]; simp, rfl⟩
        · have HF := Lib.hid (takeWhile_end s k (by omega))
          go_wp2_with (first | (go_at_call 141; refine (rletter_any _ _).mono ?_; rintro e w' ⟨rfl, rfl⟩) | (go_at_call 142; refine (rdigit_any _ _).mono ?_; rintro e w' ⟨rfl, rfl⟩))
          go_ret
          exact ⟨_, rfl, by rw [HK.out, HF.out, Lib.extract_data]; simp, rfl⟩
  · have ⟨e1, e2, e3⟩ := bytes_none s h0
    go_enter Tryz.func108, Tryz.ntmps108
    go_wp2_with fail
    go_ret
    exact ⟨_, rfl, by rw [e3]; rfl, rfl⟩
end Go.Proofs.YtmjkgnknfgoadaaGreatDoor
namespace Go.Proofs.YtmjkgnknfgoadaaGreatDoor
open Go.RowKit
theorem mayL_eq (s t : ByteArray) (ht : t.data.toList = takeL s.data.toList) (h1 : 0 < s.size) (h2 : s.size ≤ 32) : (t.toList == s.toList) = mayL s.data.toList := by
  have hn : s.data.toList ≠ [] := by rw [bytes_pos s h1]; simp
  have e1 := sz_data s; have e2 := sz_data t
  rw [Bool.eq_iff_iff]
  simp only [mayL, decide_eq_true_eq, beq_iff_eq, Lib.toList_data, ht]
  exact ⟨fun h => ⟨hn, by omega, h⟩, fun h => h.2.2⟩
set_option maxHeartbeats 400000 in
theorem rmay_any (s : ByteArray) (w : World) (hs : s.size ≤ 281474976710656) :
    Calls Tryz.prog 62 #[.string s] w fun e w' => e = .returned (.bool (mayL s.data.toList)) ∧ w = w' := by
  by_cases h0 : 0 < s.size
  · have ⟨e1, e2⟩ := bytes_ne s h0
    by_cases h1 : s.size ≤ 32
    · go_enter Tryz.func62, Tryz.ntmps62
      go_wp2_with fail
      refine (rtake_any _ _ hs).mono ?_
      rintro e w' ⟨t, rfl, ht, rfl⟩
      have HM := Lib.hid (mayL_eq s t ht h0 h1); clear ht
      go_wp2_with fail
      go_ret
      exact ⟨ret_bool HM.out, rfl⟩
    · have HM := Lib.hid (show mayL s.data.toList = false by have := sz_data s; simp only [mayL, decide_eq_false_iff_not]; rintro ⟨_, h, _⟩; omega)
      go_enter Tryz.func62, Tryz.ntmps62
      go_wp2_with fail
      go_ret
      exact ⟨ret_bool HM.out.symm, rfl⟩
  · have ⟨e1, e2, e3⟩ := bytes_none s h0
    have HM := Lib.hid (show mayL s.data.toList = false by rw [e3]; rfl)
    go_enter Tryz.func62, Tryz.ntmps62
    go_wp2_with fail
    go_ret
    exact ⟨ret_bool HM.out.symm, rfl⟩
end Go.Proofs.YtmjkgnknfgoadaaGreatDoor
