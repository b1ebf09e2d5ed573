/- Plain: a node's text is made of its kids' texts; what stands at a node, clean, is right, and has the node's text. No program in sight. -/
import Derived.Test.YtmjkgnknfgoadaaGreatDoorHg
namespace Go.Proofs.YtmjkgnknfgoadaaGreatDoor
set_option linter.unusedSimpArgs false
set_option linter.unusedVariables false

/-! ### what stands at a node, clean -/
theorem post_perm {l : List Nd} (h : Ahead l) : ∀ i, (postN l i).Perm (i :: (postN l i).flatMap (kidsAt l)) := by
  intro i
  induction i using Nat.strongRecOn with
  | _ i ih =>
    have h1 : ∀ ks : List Nat, (∀ k ∈ ks, k < i) → (ks.flatMap (postN l)).Perm (ks ++ (ks.flatMap (postN l)).flatMap (kidsAt l)) := by
      intro ks
      induction ks with
      | nil => intro _; exact .refl _
      | cons k ks ihk =>
        intro hk
        have a := ih k (hk k List.mem_cons_self)
        have b := ihk fun z hz => hk z (List.mem_cons_of_mem _ hz)
        simp only [List.flatMap_cons, List.flatMap_append, List.cons_append]
        refine (List.Perm.append a b).trans ?_
        simp only [List.cons_append]
        refine .cons _ ?_
        rw [← List.append_assoc, ← List.append_assoc]
        exact List.Perm.append_right _ List.perm_append_comm
    rw [postN_eq h, List.flatMap_append]
    have h2 := h1 (kidsAt l i) (fun k hk => h i k hk)
    simp only [List.flatMap_cons, List.flatMap_nil, List.append_nil]
    refine (List.perm_append_comm (l₂ := [i])).trans ?_
    refine .cons _ (h2.trans List.perm_append_comm)
theorem taken_ndAt (l : List Nd) (i q : Nat) (hq : q < (postN l i).length) : ndAt (takenL l i) q = placed (postN l i) (ndAt l (postN l i)[q]) := by
  simp [ndAt, takenL, hq]
theorem taken_kidsAt (l : List Nd) (i q : Nat) (hq : q < (postN l i).length) : kidsAt (takenL l i) q = (kidsAt l (postN l i)[q]).map fun z => (postN l i).idxOf z := by
  rw [kidsAt_nd, taken_ndAt l i q hq, kidsAt_nd, placed, List.map_map, List.map_map]
  exact List.map_congr_left fun z _ => rfl
theorem taken_kids_none (l : List Nd) (i q : Nat) (hq : (postN l i).length ≤ q) : kidsAt (takenL l i) q = [] := by
  unfold kidsAt
  rw [List.getElem?_eq_none (by rw [taken_length]; exact hq)]; rfl
theorem taken_ahead {l : List Nd} (h : Ahead l) {i : Nat} (hn : (postN l i).Nodup) : Ahead (takenL l i) := fun q k hk => by
  by_cases hq : q < (postN l i).length
  · rw [taken_kidsAt l i q hq] at hk
    obtain ⟨z, hz, rfl⟩ := List.mem_map.1 hk
    obtain ⟨j, hj, e⟩ := kid_before h hq hz
    rw [idx_of hn e]; exact hj
  · rw [taken_kids_none l i q (by omega)] at hk; cases hk
theorem taken_textN {l : List Nd} (h : Ahead l) {i : Nat} (hn : (postN l i).Nodup) : ∀ z, z ∈ postN l i → textN (takenL l i) ((postN l i).idxOf z) = textN l z := by
  intro z
  induction z using Nat.strongRecOn with
  | _ z ih =>
    intro hz
    have hq : (postN l i).idxOf z < (postN l i).length := List.idxOf_lt_length_of_mem hz
    have hg : (postN l i)[(postN l i).idxOf z] = z := List.getElem_idxOf hq
    rw [text_eq (taken_ahead h hn), text_eq h, taken_kidsAt l i _ hq, taken_ndAt l i _ hq, hg, List.map_map]
    have e : ((fun k => wrapB (wrapsK (placed (postN l i) (ndAt l z)).kind (ndAt (takenL l i) k).kind) (textN (takenL l i) k)) ∘ fun z => (postN l i).idxOf z) = fun y => wrapB (wrapsK (ndAt l z).kind (ndAt (takenL l i) ((postN l i).idxOf y)).kind) (textN (takenL l i) ((postN l i).idxOf y)) := rfl
    have e2 : (kidsAt l z).map (fun y => wrapB (wrapsK (ndAt l z).kind (ndAt (takenL l i) ((postN l i).idxOf y)).kind) (textN (takenL l i) ((postN l i).idxOf y))) = (kidsAt l z).map fun k => wrapB (wrapsK (ndAt l z).kind (ndAt l k).kind) (textN l k) := by
      refine List.map_congr_left fun y hy => ?_
      have hyp := post_kid h hz hy
      have hyq : (postN l i).idxOf y < (postN l i).length := List.idxOf_lt_length_of_mem hyp
      rw [ih y (h z y hy) hyp, taken_ndAt l i _ hyq, List.getElem_idxOf hyq]
      rfl
    rw [e, e2]
    rfl
theorem flat_count (m : List (List Nat)) (z : Nat) : (m.flatMap id).count z = (m.map fun x => x.count z).sum := by
  induction m with
  | nil => rfl
  | cons a m ih => simp only [List.flatMap_cons, List.count_append, List.map_cons, List.sum_cons, id, ih]
theorem taken_rightP {t : Tr} (h : rightP t) {i : Nat} (hi : i < t.nodes.length) : rightP (takenT t i) := by
  have hA := rightP_ahead h
  have hn := post_nodup h i hi
  have hne := postN_ne t.nodes i
  have hlt : ∀ p ∈ postN t.nodes i, p < t.nodes.length := fun p hp => by have := postN_le hA i p hp; omega
  have hkids : ∀ p ∈ postN t.nodes i, ∀ z ∈ (ndAt t.nodes p).kids, 0 ≤ z := fun p hp z hz => by
    have h1 : t.nodes[p]? = some (ndAt t.nodes p) := by simp [ndAt, hlt p hp]
    have h2 := h.2.1 p _ h1
    simp only [ndOk, Bool.and_eq_true, List.all_eq_true, decide_eq_true_eq] at h2
    exact (h2.2 z hz).1
  refine ⟨?_, ?_, ?_⟩
  · simp only [takenT, taken_length]; omega
  · intro q n hq
    have hql : q < (postN t.nodes i).length := by
      have := (List.getElem?_eq_some_iff.1 hq).1
      simpa [takenT, taken_length] using this
    have hnn : n = placed (postN t.nodes i) (ndAt t.nodes (postN t.nodes i)[q]) := by
      rw [← taken_ndAt t.nodes i q hql]; simp only [takenT] at hq; simp [ndAt, hq]
    have hp := hlt _ (List.getElem_mem hql)
    have h1 : t.nodes[(postN t.nodes i)[q]]? = some (ndAt t.nodes (postN t.nodes i)[q]) := by simp [ndAt, hp]
    have h2 := rightP_fit h h1
    simp only [ndOk, Bool.and_eq_true, List.all_eq_true, decide_eq_true_eq]
    constructor
    · rw [hnn]
      have e : (placed (postN t.nodes i) (ndAt t.nodes (postN t.nodes i)[q])).kids.length = (ndAt t.nodes (postN t.nodes i)[q]).kids.length := by simp [placed]
      rw [e]
      exact h2
    · intro k hk
      have hk0 : ∃ z ∈ (ndAt t.nodes (postN t.nodes i)[q]).kids, ((postN t.nodes i).idxOf z.toNat : Int) = k := by
        rw [hnn] at hk; simpa [placed] using hk
      obtain ⟨z, hz, rfl⟩ := hk0
      have hzk : z.toNat ∈ kidsAt t.nodes (postN t.nodes i)[q] := by rw [kidsAt_nd]; exact List.mem_map.2 ⟨z, hz, rfl⟩
      obtain ⟨j, hj, e⟩ := kid_before hA hql hzk
      rw [idx_of hn e]; omega
  · intro q hq
    have hql : q < (postN t.nodes i).length := by simpa [takenT, taken_length] using hq
    have e1 : kidsOf (takenT t i).nodes = ((postN t.nodes i).flatMap (kidsAt t.nodes)).map fun z => ((postN t.nodes i).idxOf z : Int) := by
      simp only [takenT, takenL, kidsOf, List.flatMap_map]
      rw [List.map_flatMap]
      simp only [List.flatMap]
      congr 1
      refine List.map_congr_left fun p hp => ?_
      rw [kidsAt_nd, List.map_map]; rfl
    have hP := post_perm hA i
    have hmem : ∀ z ∈ (postN t.nodes i).flatMap (kidsAt t.nodes), z ∈ postN t.nodes i := fun z hz => hP.mem_iff.2 (List.mem_cons_of_mem _ hz)
    have e2 : (kidsOf (takenT t i).nodes).count (q : Int) = ((postN t.nodes i).flatMap (kidsAt t.nodes)).count (postN t.nodes i)[q] := by
      rw [e1]
      have : ∀ m : List Nat, (∀ z ∈ m, z ∈ postN t.nodes i) → (m.map fun z => ((postN t.nodes i).idxOf z : Int)).count (q : Int) = m.count (postN t.nodes i)[q] := by
        intro m
        induction m with
        | nil => intro _; rfl
        | cons z m ihm =>
          intro hm
          have h1 := ihm fun y hy => hm y (List.mem_cons_of_mem _ hy)
          rw [List.map_cons, List.count_cons, List.count_cons, h1]
          congr 1
          have hz := hm z List.mem_cons_self
          have h3 : (((postN t.nodes i).idxOf z : Int) == (q : Int)) = (z == (postN t.nodes i)[q]) := by
            rw [Bool.eq_iff_iff, beq_iff_eq, beq_iff_eq]
            constructor
            · intro e
              have e : (postN t.nodes i).idxOf z = q := by omega
              have hzl := List.idxOf_lt_length_of_mem hz
              have := List.getElem_idxOf hzl
              simp only [e] at this
              exact this.symm
            · intro e
              rw [e, idx_of hn (List.getElem?_eq_getElem hql)]
          rw [h3]
      exact this _ hmem
    rw [e2]
    have h4 : (postN t.nodes i).count (postN t.nodes i)[q] = 1 := by rw [hn.count, if_pos (List.getElem_mem hql)]
    have h5 := hP.count_eq (postN t.nodes i)[q]
    rw [h4, List.count_cons] at h5
    have h6 := post_last hA hn
    have hik : i ∈ postN t.nodes i := by rw [postN_eq hA]; simp
    have h7 : (takenT t i).root = ((postN t.nodes i).idxOf i : Int) := by simp only [takenT]; omega
    rw [h7]
    by_cases hqi : q = (postN t.nodes i).idxOf i
    · subst hqi
      rw [if_pos rfl]
      have h8 : (postN t.nodes i)[(postN t.nodes i).idxOf i] = i := List.getElem_idxOf hql
      simp only [h8] at h5 ⊢
      simp at h5; simpa using h5
    · rw [if_neg (by omega)]
      have h8 : (i == (postN t.nodes i)[q]) = false := by
        rw [beq_eq_false_iff_ne]
        intro e
        apply hqi
        have h9 := idx_of hn (List.getElem?_eq_getElem hql)
        rw [← e] at h9
        exact h9.symm
      rw [h8] at h5; simp at h5; omega
theorem treeB_taken {t : Tr} (h : rightP t) {i : Nat} (hi : i < t.nodes.length) : treeB (takenT t i) = textN t.nodes i := by
  have hA := rightP_ahead h
  have hn := post_nodup h i hi
  unfold treeB
  rw [if_pos ((rightT_iff _).2 (taken_rightP h hi))]
  have hik : i ∈ postN t.nodes i := by rw [postN_eq hA]; simp
  have h6 := post_last hA hn
  have h7 : (takenT t i).root.toNat = (postN t.nodes i).idxOf i := by simp only [takenT]; omega
  rw [h7]
  exact taken_textN hA hn i hik

/-! ### a text is made of the kids' texts -/
def kidTexts (l : List Nd) (i : Nat) : List (List UInt8) := (kidsAt l i).map fun k => wrapB (wrapsK (ndAt l i).kind (ndAt l k).kind) (textN l k)
def partAt (l : List Nd) (i j : Nat) : Nat := (aheadB (ndAt l i)).length + (joinB (betweenB (ndAt l i)) ((kidTexts l i).take j)).length
theorem joinB_append (sep : List UInt8) : ∀ (a b : List (List UInt8)), a ≠ [] → joinB sep (a ++ b) = joinB sep a ++ b.flatMap (sep ++ ·)
  | [], _, h => absurd rfl h
  | x :: a, b, _ => by simp [joinB]
theorem joinB_next (sep : List UInt8) (L : List (List UInt8)) (j : Nat) (h : j < L.length) : joinB sep (L.take (j + 1)) = joinB sep (L.take j) ++ (if 0 < j then sep else []) ++ L[j] := by
  rw [List.take_succ_eq_append_getElem h]
  by_cases hj : 0 < j
  · rw [joinB_append sep _ _ (by intro e; have := congrArg List.length e; simp at this; rcases this with rfl | rfl; omega; simp at h), if_pos hj]
    simp
  · obtain rfl : j = 0 := by omega
    simp [joinB]
theorem joinB_rest (sep : List UInt8) (L : List (List UInt8)) (j : Nat) (h : j < L.length) : ∃ r, joinB sep L = joinB sep (L.take j) ++ (if 0 < j then sep else []) ++ L[j] ++ r := by
  refine ⟨(L.drop (j + 1)).flatMap (sep ++ ·), ?_⟩
  rw [← joinB_next sep L j h, ← joinB_append sep _ _ (by intro e; have := congrArg List.length e; simp at this; rw [this] at h; simp at h), List.take_append_drop]
/-- Where the next kid's text stands. -/
theorem part_here {l : List Nd} (h : Ahead l) (i j : Nat) (hj : j < (kidsAt l i).length) :
    ∃ r, (textN l i).drop (partAt l i j + (if 0 < j then (betweenB (ndAt l i)).length else 0)) = wrapB (wrapsK (ndAt l i).kind (ndAt l (kidsAt l i)[j]).kind) (textN l (kidsAt l i)[j]) ++ r := by
  have hj2 : j < (kidTexts l i).length := by simpa [kidTexts] using hj
  obtain ⟨r, e⟩ := joinB_rest (betweenB (ndAt l i)) (kidTexts l i) j hj2
  have e3 : textN l i = aheadB (ndAt l i) ++ joinB (betweenB (ndAt l i)) (kidTexts l i) ++ behindB (ndAt l i) := text_eq h i
  refine ⟨r ++ behindB (ndAt l i), ?_⟩
  rw [e3, e]
  have e4 : (kidTexts l i)[j] = wrapB (wrapsK (ndAt l i).kind (ndAt l (kidsAt l i)[j]).kind) (textN l (kidsAt l i)[j]) := by simp [kidTexts]
  rw [e4]
  simp only [List.append_assoc]
  rw [show aheadB (ndAt l i) ++ (joinB (betweenB (ndAt l i)) (List.take j (kidTexts l i)) ++ ((if 0 < j then betweenB (ndAt l i) else []) ++ (wrapB (wrapsK (ndAt l i).kind (ndAt l (kidsAt l i)[j]).kind) (textN l (kidsAt l i)[j]) ++ (r ++ behindB (ndAt l i))))) = (aheadB (ndAt l i) ++ joinB (betweenB (ndAt l i)) (List.take j (kidTexts l i)) ++ (if 0 < j then betweenB (ndAt l i) else [])) ++ (wrapB (wrapsK (ndAt l i).kind (ndAt l (kidsAt l i)[j]).kind) (textN l (kidsAt l i)[j]) ++ (r ++ behindB (ndAt l i))) by simp only [List.append_assoc]]
  have e5 : partAt l i j + (if 0 < j then (betweenB (ndAt l i)).length else 0) = (aheadB (ndAt l i) ++ joinB (betweenB (ndAt l i)) (List.take j (kidTexts l i)) ++ (if 0 < j then betweenB (ndAt l i) else [])).length := by
    simp only [partAt, List.length_append]; split <;> simp
  rw [e5, List.drop_left]
theorem part_next {l : List Nd} (i j : Nat) (hj : j < (kidsAt l i).length) :
    partAt l i (j + 1) = partAt l i j + (if 0 < j then (betweenB (ndAt l i)).length else 0) + (wrapB (wrapsK (ndAt l i).kind (ndAt l (kidsAt l i)[j]).kind) (textN l (kidsAt l i)[j])).length := by
  have hj2 : j < (kidTexts l i).length := by simpa [kidTexts] using hj
  have e4 : (kidTexts l i)[j] = wrapB (wrapsK (ndAt l i).kind (ndAt l (kidsAt l i)[j]).kind) (textN l (kidsAt l i)[j]) := by simp [kidTexts]
  unfold partAt
  rw [joinB_next _ _ j hj2, e4]
  simp only [List.length_append]
  split
  · omega
  · rw [List.length_nil]; omega
theorem part_end {l : List Nd} (h : Ahead l) (i : Nat) : (textN l i).length = partAt l i (kidsAt l i).length + (behindB (ndAt l i)).length := by
  have e3 : textN l i = aheadB (ndAt l i) ++ joinB (betweenB (ndAt l i)) (kidTexts l i) ++ behindB (ndAt l i) := text_eq h i
  rw [e3]
  unfold partAt
  rw [List.take_of_length_le (by simp [kidTexts])]
  simp only [List.length_append]
theorem part_le {l : List Nd} (h : Ahead l) (i j : Nat) (hj : j < (kidsAt l i).length) : partAt l i j + (if 0 < j then (betweenB (ndAt l i)).length else 0) + (wrapB (wrapsK (ndAt l i).kind (ndAt l (kidsAt l i)[j]).kind) (textN l (kidsAt l i)[j])).length ≤ (textN l i).length := by
  have e3 : textN l i = aheadB (ndAt l i) ++ joinB (betweenB (ndAt l i)) (kidTexts l i) ++ behindB (ndAt l i) := text_eq h i
  have hj2 : j < (kidTexts l i).length := by simpa [kidTexts] using hj
  obtain ⟨r, e⟩ := joinB_rest (betweenB (ndAt l i)) (kidTexts l i) j hj2
  have e4 : (kidTexts l i)[j] = wrapB (wrapsK (ndAt l i).kind (ndAt l (kidsAt l i)[j]).kind) (textN l (kidsAt l i)[j]) := by simp [kidTexts]
  rw [e3, e, e4]
  unfold partAt
  simp only [List.length_append]
  split
  · omega
  · rw [List.length_nil]; omega
/-- No text is of signs '(' alone. -/
theorem text_no40 {l : List Nd} (H : Fine l) : ∀ i, ∃ c ∈ textN l i, c ≠ 40 := by
  intro i
  induction i using Nat.strongRecOn with
  | _ i ih =>
    have hc := fit_cases (H.fit i)
    rw [text_eq H.ahead]
    have hA : ∀ c, c ∈ aheadB (ndAt l i) → c ≠ 40 → ∃ c ∈ aheadB (ndAt l i) ++ joinB (betweenB (ndAt l i)) ((kidsAt l i).map fun k => wrapB (wrapsK (ndAt l i).kind (ndAt l k).kind) (textN l k)) ++ behindB (ndAt l i), c ≠ 40 := fun c h1 h2 => ⟨c, by simp [h1], h2⟩
    have hM : ∀ c, c ∈ joinB (betweenB (ndAt l i)) ((kidsAt l i).map fun k => wrapB (wrapsK (ndAt l i).kind (ndAt l k).kind) (textN l k)) → c ≠ 40 → ∃ c ∈ aheadB (ndAt l i) ++ joinB (betweenB (ndAt l i)) ((kidsAt l i).map fun k => wrapB (wrapsK (ndAt l i).kind (ndAt l k).kind) (textN l k)) ++ behindB (ndAt l i), c ≠ 40 := fun c h1 h2 => ⟨c, by rw [List.mem_append, List.mem_append]; exact .inl (.inr h1), h2⟩
    have hsep : ∀ (f : Nat → List UInt8), 32 ∈ betweenB (ndAt l i) → 2 ≤ (kidsAt l i).length → (32 : UInt8) ∈ joinB (betweenB (ndAt l i)) ((kidsAt l i).map f) := fun f h1 h2 => by
      cases e : kidsAt l i with
      | nil => rw [e] at h2; simp at h2
      | cons a m =>
        cases m with
        | nil => rw [e] at h2; simp at h2
        | cons b m => simp [joinB, h1]
    have hcl : ∀ f, ∃ c ∈ classF f, c ≠ 40 := fun f => by
      unfold classF
      split
      · exact ⟨46, by simp, by decide⟩
      · exact ⟨91, by simp, by decide⟩
    rcases hc with h | h | h | h | h | h | h | h | h | h
    · exact hA 34 (by unfold aheadB litB; simp [h.1]) (by decide)
    · obtain ⟨c, h1, h2⟩ := hcl (hasW (wordsN (ndAt l i)))
      exact hA c (by unfold aheadB; rw [if_neg (by omega), if_pos h.1]; exact h1) h2
    · exact hA 34 (by unfold aheadB litB; simp [h.1]) (by decide)
    · have hm := h.2.2
      obtain ⟨_, _, _, _, ha⟩ := may_form hm
      have hne : (ndAt l i).text.data.toList ≠ [] := by simp only [mayL, decide_eq_true_eq] at hm; exact hm.1
      obtain ⟨c, m, e⟩ := List.exists_cons_of_ne_nil hne
      have hcm : c ∈ (ndAt l i).text.data.toList := by rw [e]; simp
      refine hA c (by unfold aheadB; rw [if_neg (by omega), if_neg (by omega), if_pos h.1]; exact hcm) (fun e => ?_)
      have := ha c hcm; rw [e] at this; revert this; decide
    · exact hM 32 (hsep _ (by unfold betweenB; rw [if_pos h.1]; simp) h.2) (by decide)
    · exact hM 32 (hsep _ (by unfold betweenB; rw [if_neg (by omega), if_pos h.1]; simp) h.2) (by decide)
    · obtain ⟨k, e⟩ := List.length_eq_one_iff.1 h.2.1
      obtain ⟨c, h1, h2⟩ := ih k (H.ahead i k (by rw [e]; simp))
      refine hM c ?_ h2
      rw [e]
      simp only [List.map_cons, List.map_nil, joinB, List.flatMap_nil, List.append_nil]
      unfold wrapB
      split <;> simp [h1]
    · exact hA 38 (by unfold aheadB; simp [h.1]) (by decide)
    · exact hA 33 (by unfold aheadB; simp [h.1]) (by decide)
    · exact hA 60 (by unfold aheadB; simp [h.1]) (by decide)
/-- What stands bare does not stand in parentheses. -/
theorem bare_prefix {u r : List UInt8} (h : ∃ c ∈ u, c ≠ 40) : ¬ ([40] ++ u ++ [41]) <+: (u ++ r) := fun hp => by
  have hu : u <+: [40] ++ u := by
    have h1 : u <+: u ++ r := List.prefix_append _ _
    have h2 : [40] ++ u <+: u ++ r := (List.prefix_append _ _).trans hp
    exact List.prefix_of_prefix_length_le h1 h2 (by simp)
  have hall : ∀ (n : Nat) (c : UInt8), u[n]? = some c → c = 40 := by
    intro n
    induction n with
    | zero =>
      intro c hc
      obtain ⟨t, ht⟩ := hu
      have hl := (List.getElem?_eq_some_iff.1 hc).1
      have e : (u ++ t)[0]? = ([40] ++ u)[0]? := by rw [ht]
      rw [List.getElem?_append_left hl, hc] at e; simpa using e
    | succ n ih =>
      intro c hc
      have hl := (List.getElem?_eq_some_iff.1 hc).1
      obtain ⟨t, ht⟩ := hu
      have e : (u ++ t)[n + 1]? = ([40] ++ u)[n + 1]? := by rw [ht]
      rw [List.getElem?_append_left hl, hc] at e
      simp only [List.cons_append, List.nil_append, List.getElem?_cons_succ] at e
      exact ih c e.symm
  obtain ⟨c, hc, hne⟩ := h
  obtain ⟨n, hn, e⟩ := List.getElem_of_mem hc
  exact hne (hall n c (by rw [List.getElem?_eq_getElem hn, e]))
end Go.Proofs.YtmjkgnknfgoadaaGreatDoor
