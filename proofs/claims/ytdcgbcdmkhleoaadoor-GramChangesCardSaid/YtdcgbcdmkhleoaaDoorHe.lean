/- Plain: what stands at a node, clean, is put together of its kids'; two trees have the same text just if they are the same. -/
import Derived.Test.YtdcgbcdmkhleoaaDoorHb
import Derived.Test.YtdcgbcdmkhleoaaDoorDk
import Derived.Test.YtdcgbcdmkhleoaaDoorDa
namespace Go.Proofs.YtdcgbcdmkhleoaaDoor
set_option linter.unusedSimpArgs false
set_option linter.unusedVariables false

def shiftN (off : Nat) (n : Nd) : Nd := { n with kids := n.kids.map (· + (off : Int)) }
def catN : Nat → List (List Nd) → List Nd
  | _, [] => []
  | off, t :: ts => t.map (shiftN off) ++ catN (off + t.length) ts
def endsN : Nat → List (List Nd) → List Int
  | _, [] => []
  | off, t :: ts => (((off + t.length : Nat) : Int) - 1) :: endsN (off + t.length) ts
def bareN (n : Nd) : Nd := { n with kids := [] }
theorem taken_length (l : List Nd) (i : Nat) : (takenL l i).length = (postN l i).length := by simp [takenL]
theorem idx_mid {pre q suf : List Nat} {z : Nat} (h : z ∉ pre) (hz : z ∈ q) : (pre ++ q ++ suf).idxOf z = pre.length + q.idxOf z := by
  rw [List.append_assoc, List.idxOf_append, if_neg h, List.idxOf_append, if_pos hz]; omega
theorem post_last {l : List Nd} (h : Ahead l) {k : Nat} (hn : (postN l k).Nodup) : (postN l k).idxOf k + 1 = (postN l k).length := by
  rw [postN_eq h] at hn ⊢
  have hk : k ∉ (kidsAt l k).flatMap (postN l) := fun hk => by
    rw [List.nodup_append] at hn
    exact hn.2.2 k hk k (by simp) rfl
  rw [List.idxOf_append, if_neg hk]
  simp
theorem post_kid {l : List Nd} (h : Ahead l) {k p z : Nat} (hp : p ∈ postN l k) (hz : z ∈ kidsAt l p) : z ∈ postN l k := by
  obtain ⟨a, b, e⟩ := List.append_of_mem hp
  have := kid_ahead h k a p b e z hz
  rw [e]; exact List.mem_append_left _ this
theorem kidsAt_nd (l : List Nd) (p : Nat) : kidsAt l p = (ndAt l p).kids.map Int.toNat := by
  unfold kidsAt ndAt
  cases l[p]? <;> simp
theorem split_kids {l : List Nd} (h : Ahead l) (P : List Nat) (hP : P.Nodup) : ∀ (ks pre suf : List Nat), P = pre ++ ks.flatMap (postN l) ++ suf →
    (ks.flatMap (postN l)).map (fun p => placed P (ndAt l p)) = catN pre.length (ks.map (takenL l)) ∧ (ks.map fun k => (P.idxOf k : Int)) = endsN pre.length (ks.map (takenL l))
  | [], pre, suf, _ => ⟨rfl, rfl⟩
  | k :: ks, pre, suf, e => by
    simp only [List.flatMap_cons] at e
    have e1 : P = pre ++ postN l k ++ (ks.flatMap (postN l) ++ suf) := by rw [e]; simp
    have e2 : P = (pre ++ postN l k) ++ ks.flatMap (postN l) ++ suf := by rw [e]; simp
    obtain ⟨h1, h2⟩ := split_kids h P hP ks (pre ++ postN l k) suf e2
    have hnd : (pre ++ postN l k).Nodup := by
      rw [e1, List.nodup_append] at hP; exact hP.1
    have hnk : (postN l k).Nodup := (List.nodup_append.1 hnd).2.1
    have hpre : ∀ z ∈ postN l k, z ∉ pre := fun z hz hz' => (List.nodup_append.1 hnd).2.2 z hz' z hz rfl
    have hidx : ∀ z ∈ postN l k, P.idxOf z = pre.length + (postN l k).idxOf z := fun z hz => by
      rw [e1]; exact idx_mid (hpre z hz) hz
    rw [List.length_append] at h1 h2
    constructor
    · simp only [List.flatMap_cons, List.map_append, List.map_cons, catN, taken_length, h1]
      congr 1
      rw [takenL, List.map_map]
      refine List.map_congr_left fun p hp => ?_
      simp only [Function.comp_apply, placed, shiftN, List.map_map]
      congr 1
      refine List.map_congr_left fun z hz => ?_
      have hz' : z.toNat ∈ kidsAt l p := by rw [kidsAt_nd]; exact List.mem_map_of_mem hz
      have := hidx z.toNat (post_kid h hp hz')
      simp only [Function.comp_apply, this]; omega
    · simp only [List.map_cons, endsN, taken_length, h2]
      congr 1
      have hk : k ∈ postN l k := by rw [postN_eq h]; simp
      have h3 := hidx k hk
      have h4 := post_last h hnk
      omega
theorem taken_split {l : List Nd} (h : Ahead l) {i : Nat} (hn : (postN l i).Nodup) :
    takenL l i = catN 0 ((kidsAt l i).map (takenL l)) ++ [{ ndAt l i with kids := endsN 0 ((kidsAt l i).map (takenL l)) }] := by
  have e := postN_eq h i
  obtain ⟨h1, h2⟩ := split_kids h (postN l i) hn (kidsAt l i) [] [i] (by simpa using e)
  simp only [List.length_nil] at h1 h2
  have h3 : (ndAt l i).kids.map (fun k => ((postN l i).idxOf k.toNat : Int)) = endsN 0 ((kidsAt l i).map (takenL l)) := by
    rw [← h2, kidsAt_nd, List.map_map]; rfl
  refine (congrArg (List.map fun p => placed (postN l i) (ndAt l p)) e).trans ?_
  rw [List.map_append, h1, ← h3]
  rfl
theorem shift_inj {off : Nat} {a b : Nd} (h : shiftN off a = shiftN off b) : a = b := by
  obtain ⟨k, s0, s1, s2, s3, t, mn, mx, ka⟩ := a
  obtain ⟨k', s0', s1', s2', s3', t', mn', mx', kb⟩ := b
  simp only [shiftN, Nd.mk.injEq] at h ⊢
  obtain ⟨h0, h1, h2, h3, h4, h5, h6, h7, h8⟩ := h
  refine ⟨h0, h1, h2, h3, h4, h5, h6, h7, ?_⟩
  exact (List.map_inj_right (fun x y hxy => by omega)).1 h8
theorem cat_inj : ∀ (off : Nat) (T U : List (List Nd)), endsN off T = endsN off U → catN off T = catN off U → T = U
  | _, [], [], _, _ => rfl
  | _, [], _ :: _, h, _ => by simp [endsN] at h
  | _, _ :: _, [], h, _ => by simp [endsN] at h
  | off, t :: T, u :: U, h, k => by
    simp only [endsN, List.cons.injEq] at h
    have hl : t.length = u.length := by have := h.1; omega
    simp only [catN] at k
    obtain ⟨k1, k2⟩ := List.append_inj k (by simp [hl])
    rw [hl] at h k2
    have h2 : t = u := (List.map_inj_right (fun x y hxy => shift_inj hxy)).1 k1
    rw [h2, cat_inj _ T U h.2 k2]
theorem taken_parts {l m : List Nd} (h : Ahead l) (k : Ahead m) {i j : Nat} (hn : (postN l i).Nodup) (hm : (postN m j).Nodup) (e : takenL l i = takenL m j) :
    bareN (ndAt l i) = bareN (ndAt m j) ∧ (kidsAt l i).map (takenL l) = (kidsAt m j).map (takenL m) := by
  rw [taken_split h hn, taken_split k hm] at e
  obtain ⟨e1, e2⟩ := List.append_inj' e rfl
  simp only [List.cons.injEq, and_true, Nd.mk.injEq] at e2
  obtain ⟨h0, h1, h2, h3, h4, h5, h6, h7, h8⟩ := e2
  refine ⟨?_, cat_inj 0 _ _ h8 e1⟩
  simp only [bareN, Nd.mk.injEq]
  exact ⟨h0, h1, h2, h3, h4, h5, h6, h7, trivial⟩
theorem taken_of_parts {l m : List Nd} (h : Ahead l) (k : Ahead m) {i j : Nat} (hn : (postN l i).Nodup) (hm : (postN m j).Nodup) (e1 : bareN (ndAt l i) = bareN (ndAt m j)) (e2 : (kidsAt l i).map (takenL l) = (kidsAt m j).map (takenL m)) :
    takenL l i = takenL m j := by
  rw [taken_split h hn, taken_split k hm, e2]
  congr 2
  simp only [bareN, Nd.mk.injEq] at e1 ⊢
  obtain ⟨h0, h1, h2, h3, h4, h5, h6, h7, _⟩ := e1
  exact ⟨h0, h1, h2, h3, h4, h5, h6, h7, trivial⟩
theorem map_pair {α β γ δ : Type} (f : α → γ) (g : β → γ) (F : α → δ) (G : β → δ) : ∀ (l : List α) (m : List β), l.map f = m.map g → (∀ a ∈ l, ∀ b ∈ m, f a = g b → F a = G b) → l.map F = m.map G
  | [], [], _, _ => rfl
  | [], _ :: _, h, _ => by simp at h
  | _ :: _, [], h, _ => by simp at h
  | a :: l, b :: m, h, k => by
    simp only [List.map_cons, List.cons.injEq] at h ⊢
    exact ⟨k a List.mem_cons_self b List.mem_cons_self h.1, map_pair f g F G l m h.2 fun x hx y hy => k x (List.mem_cons_of_mem _ hx) y (List.mem_cons_of_mem _ hy)⟩
theorem kind_bare {n m : Nd} (h : bareN n = bareN m) : n.kind = m.kind := by
  have := congrArg Nd.kind h
  exact this
theorem ahead_bare (n : Nd) : aheadB (bareN n) = aheadB n := rfl
theorem behind_bare (n : Nd) : behindB (bareN n) = behindB n := rfl
theorem between_bare (n : Nd) : betweenB (bareN n) = betweenB n := rfl
theorem raw_bare (n : Nd) : rawN (bareN n) = rawN n := rfl
/-- The same, clean: the same text. -/
theorem taken_text {l m : List Nd} (h : Ahead l) (k : Ahead m) : ∀ i j, (∀ p, p ≤ i → (postN l p).Nodup) → (∀ p, p ≤ j → (postN m p).Nodup) → takenL l i = takenL m j → textN l i = textN m j := by
  intro i
  induction i using Nat.strongRecOn with
  | _ i ih =>
    intro j hn hm e
    obtain ⟨e1, e2⟩ := taken_parts h k (hn i (Nat.le_refl _)) (hm j (Nat.le_refl _)) e
    rw [text_eq h, text_eq k, ← ahead_bare, ← behind_bare, ← between_bare, e1, ahead_bare, behind_bare, between_bare]
    congr 3
    refine map_pair _ _ _ _ _ _ e2 fun a ha b hb eab => ?_
    have hla := h i a ha; have hlb := k j b hb
    have h1 := ih a hla b (fun p hp => hn p (by omega)) (fun p hp => hm p (by omega)) eab
    have h2 := (taken_parts h k (hn a (by omega)) (hm b (by omega)) eab).1
    have h3 : (ndAt l a).kind = (ndAt m b).kind := kind_bare h2
    have h4 : (ndAt l i).kind = (ndAt m j).kind := kind_bare e1
    rw [h1, h3, h4]
theorem raw_text {n : Nd} (h : n.kind = 2) : rawN n = n.text.data.toList.flatMap (signB [34]) := by unfold rawN; rw [if_pos (.inr h)]
theorem raw_name {n : Nd} (h : n.kind = 3 ∨ n.kind = 9) : rawN n = n.text.data.toList := by unfold rawN; rw [if_neg (by omega), if_neg (by omega), if_pos h]
theorem raw_count {n : Nd} (h : n.kind = 6) : rawN n = countB n.mn n.mx := by unfold rawN; rw [if_neg (by omega), if_neg (by omega), if_neg (by omega), if_pos h]
theorem raw_set {n : Nd} (h : n.kind = 1) : rawN n = classB n := by unfold rawN; rw [if_neg (by omega), if_pos h]
def wordOk (n : Nd) : Prop := (0 ≤ n.s0 ∧ n.s0 < 18446744073709551616) ∧ (0 ≤ n.s1 ∧ n.s1 < 18446744073709551616) ∧ (0 ≤ n.s2 ∧ n.s2 < 18446744073709551616) ∧ (0 ≤ n.s3 ∧ n.s3 < 18446744073709551616)
theorem text_ext {a b : ByteArray} (h : a.data.toList = b.data.toList) : a = b := by
  obtain ⟨⟨a⟩⟩ := a; obtain ⟨⟨b⟩⟩ := b
  simp only at h; rw [h]
theorem text_none {a : ByteArray} (h : a.size = 0) : a.data.toList = [] := List.eq_nil_of_length_eq_zero h
theorem fit_bare {n : Nd} {k : Nat} (h : fitN n k = true) : (n.kind ≠ 1 → noSet n = true) ∧ (¬ (n.kind = 2 ∨ n.kind = 3 ∨ n.kind = 9) → noText n = true) ∧ (n.kind ≠ 6 → noNum n = true) := by
  unfold fitN at h
  repeat' split at h
  all_goals (try simp only [Bool.and_eq_true] at h)
  all_goals first
    | (exact ⟨fun _ => by simp_all, fun _ => by simp_all, fun _ => by simp_all⟩)
    | (simp_all)
theorem bare_eq {n m : Nd} {k j : Nat} (h : fitN n k = true) (g : fitN m j = true) (wn : wordOk n) (wm : wordOk m) (hk : n.kind = m.kind) (hr : rawN n = rawN m) : bareN n = bareN m := by
  obtain ⟨a1, a2, a3⟩ := fit_bare h
  obtain ⟨b1, b2, b3⟩ := fit_bare g
  have c1 := fit_cases h; have c2 := fit_cases g
  obtain ⟨kd, s0, s1, s2, s3, t, mn, mx, ka⟩ := n
  obtain ⟨kd', s0', s1', s2', s3', t', mn', mx', kb⟩ := m
  simp only at hk
  subst hk
  simp only [noSet, noText, noNum, decide_eq_true_eq] at a1 a2 a3 b1 b2 b3
  simp only [wordOk] at wn wm
  simp only [countOk] at c1 c2
  simp only [bareN, Nd.mk.injEq, true_and, and_true]
  have hset : s0 = s0' ∧ s1 = s1' ∧ s2 = s2' ∧ s3 = s3' := by
    by_cases e : kd = 1
    · subst e
      rw [raw_set rfl, raw_set rfl] at hr
      have h1 := classF_inj _ _ hr
      simp only [wordsN] at h1
      have := has_eq h1 (by omega) (by omega) (by omega) (by omega) (by omega) (by omega) (by omega) (by omega)
      omega
    · have h1 := a1 e; have h2 := b1 e
      omega
  have htx : t = t' := by
    by_cases e : kd = 2 ∨ kd = 3 ∨ kd = 9
    · apply text_ext
      rcases e with rfl | rfl | rfl
      · rw [raw_text rfl, raw_text rfl] at hr
        exact signs_inj left_lit _ _ hr
      · rw [raw_name (.inl rfl), raw_name (.inl rfl)] at hr
        exact hr
      · rw [raw_name (.inr rfl), raw_name (.inr rfl)] at hr
        exact hr
    · have h1 := a2 e; have h2 := b2 e
      apply text_ext
      rw [text_none h1, text_none h2]
  have hnum : mn = mn' ∧ mx = mx' := by
    by_cases e : kd = 6
    · subst e
      rw [raw_count rfl, raw_count rfl] at hr
      have h1 : countB mn mx = countB mn' mx' := hr
      have h2 := unC_count (lo := mn) (hi := mx) (by omega)
      have h3 := unC_count (lo := mn') (hi := mx') (by omega)
      rw [h1, h3] at h2
      injection h2 with h4 h5
      exact ⟨h4.symm, h5.symm⟩
    · have h1 := a3 e; have h2 := b3 e
      omega
  exact ⟨hset.1, hset.2.1, hset.2.2.1, hset.2.2.2, htx, hnum.1, hnum.2⟩
/-- Of the same shape: the same, clean. -/
theorem shape_taken {l m : List Nd} (H : Fine l) (K : Fine m) (wl : ∀ p, wordOk (ndAt l p)) (wm : ∀ p, wordOk (ndAt m p)) : ∀ i j, (∀ p, p ≤ i → (postN l p).Nodup) → (∀ p, p ≤ j → (postN m p).Nodup) → rtN l i = rtN m j → takenL l i = takenL m j := by
  intro i
  induction i using Nat.strongRecOn with
  | _ i ih =>
    intro j hn hm e
    rw [rtN_eq H.ahead, rtN_eq K.ahead] at e
    injection e with e1 e2 e3
    have hk : (ndAt l i).kind = (ndAt m j).kind := by
      have h1 := fit_cases (H.fit i); have h2 := fit_cases (K.fit j)
      omega
    refine taken_of_parts H.ahead K.ahead (hn i (Nat.le_refl _)) (hm j (Nat.le_refl _)) (bare_eq (H.fit i) (K.fit j) (wl i) (wm j) hk e2) ?_
    refine map_pair _ _ _ _ _ _ e3 fun a ha b hb eab => ?_
    have hla := H.ahead i a ha; have hlb := K.ahead j b hb
    exact ih a hla b (fun p hp => hn p (by omega)) (fun p hp => hm p (by omega)) eab
/-- Two trees that are right have the same text just if they are the same. -/
theorem unlike {a b : Tr} (ha : rightP a) (hb : rightP b) (wa : ∀ n ∈ a.nodes, wordOk n) (wb : ∀ n ∈ b.nodes, wordOk n) :
    textN a.nodes a.root.toNat = textN b.nodes b.root.toNat ↔ takenL a.nodes a.root.toNat = takenL b.nodes b.root.toNat := by
  have hna : ∀ p, p ≤ a.root.toNat → (postN a.nodes p).Nodup := fun p hp => post_nodup ha p (by have := ha.1; omega)
  have hnb : ∀ p, p ≤ b.root.toNat → (postN b.nodes p).Nodup := fun p hp => post_nodup hb p (by have := hb.1; omega)
  have wd : ∀ {l : List Nd}, (∀ n ∈ l, wordOk n) → ∀ p, wordOk (ndAt l p) := fun {l} h p => by
    unfold ndAt
    cases e : l[p]? with
    | none => simp [wordOk]
    | some n => exact h n (List.mem_of_getElem? e)
  exact ⟨fun h => shape_taken (rightP_fine ha) (rightP_fine hb) (wd wa) (wd wb) _ _ hna hnb (text_shape (rightP_fine ha) (rightP_fine hb) h), taken_text (rightP_ahead ha) (rightP_ahead hb) _ _ hna hnb⟩
theorem text_ne {l : List Nd} (H : Fine l) : ∀ i, textN l i ≠ [] := by
  intro i
  induction i using Nat.strongRecOn with
  | _ i ih =>
    by_cases h : (ndAt l i).kind = 4 ∨ (ndAt l i).kind = 5
    · rw [text_eq H.ahead]
      have hk : 2 ≤ (kidsAt l i).length := by have := fit_cases (H.fit i); omega
      cases hks : kidsAt l i with
      | nil => rw [hks] at hk; simp at hk
      | cons k ks =>
        have hkk := ih k (H.ahead i k (by rw [hks]; simp))
        intro e
        simp only [List.map_cons, joinB, List.append_eq_nil_iff] at e
        have e1 := e.1.2.1
        unfold wrapB at e1
        split at e1
        · simp at e1
        · exact hkk e1
    · obtain ⟨c, t, e, _⟩ := unit_head H i
      rw [decide_eq_false h] at e
      intro e2
      rw [show wrapB false (textN l i) = textN l i from rfl, e2] at e
      cases e
theorem treeB_ne {t : Tr} (h : rightT t = true) : treeB t ≠ [] := by
  unfold treeB; rw [if_pos h]
  exact text_ne (rightP_fine ((rightT_iff t).1 h)) _
theorem treeB_no {t : Tr} (h : rightT t = false) : treeB t = [] := by
  unfold treeB; rw [if_neg (by simp [h])]
end Go.Proofs.YtdcgbcdmkhleoaaDoor

/- Plain: what bytes a text has; grammars' texts, line by line. -/
namespace Go.Proofs.YtdcgbcdmkhleoaaDoor
set_option linter.unusedSimpArgs false
set_option linter.unusedVariables false

def visB (c : UInt8) : Prop := 32 ≤ c.toNat ∧ c.toNat ≤ 126
theorem vis_sign {left : List UInt8} (hl : ∀ x ∈ left, visB x) (b : UInt8) : ∀ c ∈ signB left b, visB c := by
  intro c hc
  unfold signB at hc
  split at hc
  · rename_i h
    simp only [List.mem_singleton] at hc; subst hc; exact h.1
  split at hc
  · simp only [List.mem_cons, List.not_mem_nil, or_false] at hc; rcases hc with rfl | rfl <;> (unfold visB; decide)
  split at hc
  · simp only [List.mem_cons, List.not_mem_nil, or_false] at hc; rcases hc with rfl | rfl <;> (unfold visB; decide)
  split at hc
  · simp only [List.mem_cons, List.not_mem_nil, or_false] at hc; rcases hc with rfl | rfl <;> (unfold visB; decide)
  split at hc
  · rename_i h
    simp only [List.mem_cons, List.not_mem_nil, or_false] at hc
    rcases hc with rfl | rfl
    · unfold visB; decide
    · rcases h with rfl | h
      · unfold visB; decide
      · exact hl _ h
  · have hb := b.toNat_lt
    have hx : ∀ k : Fin 16, visB (hexB k.val) := by unfold visB; decide
    simp only [List.mem_cons, List.not_mem_nil, or_false] at hc
    rcases hc with rfl | rfl | rfl | rfl
    · unfold visB; decide
    · unfold visB; decide
    · exact hx ⟨b.toNat / 16, by omega⟩
    · exact hx ⟨b.toNat % 16, by omega⟩
theorem vis_lit (s : List UInt8) : ∀ c ∈ litB s, visB c := by
  intro c hc
  simp only [litB, List.mem_append, List.mem_singleton, List.mem_flatMap] at hc
  rcases hc with (rfl | ⟨x, _, hc⟩) | rfl
  · unfold visB; decide
  · exact vis_sign (by intro x hx; simp only [List.mem_singleton] at hx; subst hx; unfold visB; decide) x c hc
  · unfold visB; decide
theorem vis_cls (b : UInt8) : ∀ c ∈ signB [93, 45, 94] b, visB c := vis_sign (by
  intro x hx
  simp only [List.mem_cons, List.not_mem_nil, or_false] at hx
  rcases hx with rfl | rfl | rfl <;> (unfold visB; decide)) b
theorem vis_class (f : Nat → Bool) : ∀ c ∈ classF f, visB c := by
  intro c hc
  unfold classF at hc
  split at hc
  · simp only [List.mem_singleton] at hc; subst hc; unfold visB; decide
  · simp only [List.mem_append, List.mem_singleton, List.mem_flatMap] at hc
    rcases hc with (rfl | ⟨x, _, hc⟩) | rfl
    · unfold visB; decide
    · unfold runB at hc
      simp only [List.mem_append] at hc
      rcases hc with (hc | hc) | hc
      · exact vis_cls _ c hc
      · split at hc
        · simp only [List.mem_singleton] at hc; subst hc; unfold visB; decide
        · cases hc
      · split at hc
        · exact vis_cls _ c hc
        · cases hc
    · unfold visB; decide
theorem vis_alnum {c : UInt8} (h : alnum c = true) : visB c := by
  unfold visB
  simp only [alnum, isLetter, isDigit, Bool.or_eq_true, decide_eq_true_eq] at h
  omega
theorem vis_name {l : List UInt8} (h : mayL l = true) : ∀ c ∈ l, visB c := by
  obtain ⟨_, _, _, _, ha⟩ := may_form h
  exact fun c hc => vis_alnum (ha c hc)
theorem vis_num {n : Int} (h : 0 ≤ n) : ∀ c ∈ numB n, visB c := by
  obtain ⟨m, rfl⟩ := Int.eq_ofNat_of_zero_le h
  intro c hc
  have := (isDigit_iff _).1 (num_dig m c hc)
  unfold visB; omega
theorem vis_count (lo hi : Int) : ∀ c ∈ countB lo hi, visB c := by
  intro c hc
  unfold countB at hc
  split at hc
  · cases hc
  rename_i h
  simp only [Decidable.not_not] at h
  split at hc
  · simp only [List.mem_singleton] at hc; subst hc; unfold visB; decide
  split at hc
  · simp only [List.mem_singleton] at hc; subst hc; unfold visB; decide
  split at hc
  · simp only [List.mem_singleton] at hc; subst hc; unfold visB; decide
  split at hc
  · simp only [List.mem_append, List.mem_singleton] at hc
    rcases hc with (rfl | hc) | rfl
    · unfold visB; decide
    · exact vis_num h.1 c hc
    · unfold visB; decide
  split at hc
  · simp only [List.mem_append, List.mem_singleton, List.mem_cons, List.not_mem_nil, or_false] at hc
    rcases hc with (rfl | hc) | rfl | rfl
    · unfold visB; decide
    · exact vis_num h.1 c hc
    · unfold visB; decide
    · unfold visB; decide
  · simp only [List.mem_append, List.mem_singleton] at hc
    rcases hc with (((rfl | hc) | rfl) | hc) | rfl
    · unfold visB; decide
    · exact vis_num h.1 c hc
    · unfold visB; decide
    · exact vis_num (by omega) c hc
    · unfold visB; decide
theorem fit_may {n : Nd} {k : Nat} (h : fitN n k = true) (e : n.kind = 3 ∨ n.kind = 9) : mayL n.text.data.toList = true := by
  rcases fit_cases h with h | h | h | h | h | h | h | h | h | h
  · exact absurd h.1 (by omega)
  · exact absurd h.1 (by omega)
  · exact absurd h.1 (by omega)
  · exact h.2.2
  · exact absurd h.1 (by omega)
  · exact absurd h.1 (by omega)
  · exact absurd h.1 (by omega)
  · exact absurd h.1 (by omega)
  · exact absurd h.1 (by omega)
  · exact h.2.2
theorem vis_ahead {n : Nd} {k : Nat} (h : fitN n k = true) : ∀ c ∈ aheadB n, visB c := by
  intro c hc
  have hf := fit_cases h
  unfold aheadB at hc
  split at hc
  · exact vis_lit _ c hc
  split at hc
  · exact vis_class _ c hc
  split at hc
  · rename_i h3
    exact vis_name (fit_may h (.inl h3)) c hc
  split at hc
  · simp only [List.mem_singleton] at hc; subst hc; unfold visB; decide
  split at hc
  · simp only [List.mem_singleton] at hc; subst hc; unfold visB; decide
  split at hc
  · rename_i h9
    have := fit_may h (.inr h9)
    simp only [List.mem_append, List.mem_singleton, List.mem_cons, List.not_mem_nil, or_false] at hc
    rcases hc with (rfl | hc) | rfl | rfl
    · unfold visB; decide
    · exact vis_name this c hc
    · unfold visB; decide
    · unfold visB; decide
  · cases hc
theorem vis_behind (n : Nd) : ∀ c ∈ behindB n, visB c := by
  intro c hc
  unfold behindB at hc
  split at hc
  · exact vis_count _ _ c hc
  split at hc
  · simp only [List.mem_singleton] at hc; subst hc; unfold visB; decide
  · cases hc
theorem vis_between (n : Nd) : ∀ c ∈ betweenB n, visB c := by
  intro c hc
  unfold betweenB at hc
  split at hc
  · simp only [List.mem_singleton] at hc; subst hc; unfold visB; decide
  split at hc
  · simp only [List.mem_cons, List.not_mem_nil, or_false] at hc
    rcases hc with rfl | rfl | rfl <;> (unfold visB; decide)
  · cases hc
theorem vis_join {sep : List UInt8} (hs : ∀ c ∈ sep, visB c) : ∀ m : List (List UInt8), (∀ x ∈ m, ∀ c ∈ x, visB c) → ∀ c ∈ joinB sep m, visB c
  | [], _, c, hc => by cases hc
  | x :: m, h, c, hc => by
    simp only [joinB, List.mem_append, List.mem_flatMap] at hc
    rcases hc with hc | ⟨y, hy, hc | hc⟩
    · exact h x List.mem_cons_self c hc
    · exact hs c hc
    · exact h y (List.mem_cons_of_mem _ hy) c hc
/-- A tree's text has bytes 32 to 126 alone. -/
theorem vis_text {l : List Nd} (H : Fine l) : ∀ i, ∀ c ∈ textN l i, visB c := by
  intro i
  induction i using Nat.strongRecOn with
  | _ i ih =>
    intro c hc
    rw [text_eq H.ahead] at hc
    simp only [List.mem_append] at hc
    rcases hc with (hc | hc) | hc
    · exact vis_ahead (H.fit i) c hc
    · refine vis_join (vis_between _) _ (fun x hx c hc => ?_) c hc
      obtain ⟨k, hk, rfl⟩ := List.mem_map.1 hx
      have h1 := ih k (H.ahead i k hk)
      unfold wrapB at hc
      split at hc
      · simp only [List.mem_append, List.mem_singleton] at hc
        rcases hc with (rfl | hc) | rfl
        · unfold visB; decide
        · exact h1 c hc
        · unfold visB; decide
      · exact h1 c hc
    · exact vis_behind _ c hc
theorem vis_treeB (t : Tr) : ∀ c ∈ treeB t, visB c := by
  intro c hc
  unfold treeB at hc
  split at hc
  · rename_i h
    exact vis_text (rightP_fine ((rightT_iff t).1 h)) _ c hc
  · cases hc
theorem unlike_tree {a b : Tr} (ha : rightT a = true) (hb : rightT b = true) (wa : ∀ n ∈ a.nodes, wordOk n) (wb : ∀ n ∈ b.nodes, wordOk n) : treeB a = treeB b ↔ sameT a b = true := by
  have h := unlike ((rightT_iff a).1 ha) ((rightT_iff b).1 hb) wa wb
  unfold treeB sameT
  rw [if_pos ha, if_pos hb, ha, hb]
  simp only [Bool.true_and, decide_eq_true_eq]
  exact h

/-! ### grammars -/
def okD (d : Df) : Prop := mayL d.name.data.toList = true ∧ rightT d.body = true
theorem defB_ok {d : Df} (h : okD d) : defB d = d.name.data.toList ++ [32, 60, 45, 32] ++ treeB d.body ++ [10] := by
  unfold defB
  rw [if_neg (fun k => k.elim (treeB_ne h.2) (fun k => k h.1))]
theorem defB_iff (d : Df) : defB d ≠ [] ↔ okD d := by
  constructor
  · intro h
    unfold defB at h
    split at h
    · exact absurd rfl h
    · rename_i k
      simp only [not_or, Decidable.not_not] at k
      refine ⟨k.2, ?_⟩
      cases hr : rightT d.body with
      | true => rfl
      | false => exact absurd (treeB_no hr) k.1
  · intro h
    rw [defB_ok h]
    simp
theorem gramB_ok : ∀ g : List Df, (∀ d ∈ g, okD d) → gramB g = some (g.flatMap defB)
  | [], _ => rfl
  | d :: g, h => by
    rw [gramB, if_neg ((defB_iff d).2 (h d List.mem_cons_self)), gramB_ok g fun x hx => h x (List.mem_cons_of_mem _ hx)]
    rfl
theorem gramB_no : ∀ g : List Df, (¬ ∀ d ∈ g, okD d) → gramB g = none
  | [], h => absurd (by simp) h
  | d :: g, h => by
    by_cases hd : okD d
    · have h2 : ¬ ∀ x ∈ g, okD x := fun k => h (fun x hx => by
        rcases List.mem_cons.1 hx with rfl | hx
        · exact hd
        · exact k x hx)
      rw [gramB, if_neg ((defB_iff d).2 hd), gramB_no g h2]; rfl
    · rw [gramB, if_pos (Decidable.not_not.1 fun k => hd ((defB_iff d).1 k))]
/-- A grammar's text. -/
def gramT (g : List Df) : List UInt8 := (gramB g).getD []
theorem cut_eq {a : UInt8} : ∀ (x y r s : List UInt8), a ∉ x → a ∉ y → x ++ a :: r = y ++ a :: s → x = y ∧ r = s
  | [], [], r, s, _, _, h => by simp only [List.nil_append, List.cons.injEq] at h; exact ⟨rfl, h.2⟩
  | [], c :: y, r, s, _, hy, h => by
    simp only [List.nil_append, List.cons_append, List.cons.injEq] at h
    exact absurd (by rw [h.1]; simp) hy
  | c :: x, [], r, s, hx, _, h => by
    simp only [List.nil_append, List.cons_append, List.cons.injEq] at h
    exact absurd (by rw [← h.1]; simp) hx
  | c :: x, d :: y, r, s, hx, hy, h => by
    simp only [List.cons_append, List.cons.injEq] at h
    obtain ⟨h1, h2⟩ := cut_eq x y r s (fun k => hx (List.mem_cons_of_mem _ k)) (fun k => hy (List.mem_cons_of_mem _ k)) h.2
    exact ⟨by rw [h.1, h1], h2⟩
theorem vis_no10 {l : List UInt8} (h : ∀ c ∈ l, visB c) : (10 : UInt8) ∉ l := fun k => by
  have := h 10 k; unfold visB at this; revert this; decide
theorem alnum_no32 {l : List UInt8} (h : mayL l = true) : (32 : UInt8) ∉ l := fun k => by
  obtain ⟨_, _, _, _, ha⟩ := may_form h
  have := ha 32 k; revert this; decide
/-- What a line has ahead of its LF. -/
def headB (d : Df) : List UInt8 := d.name.data.toList ++ [32, 60, 45, 32] ++ treeB d.body
theorem head_no10 {d : Df} (h : okD d) : (10 : UInt8) ∉ headB d := by
  apply vis_no10
  intro c hc
  simp only [headB, List.mem_append] at hc
  rcases hc with (hc | hc) | hc
  · exact vis_name h.1 c hc
  · simp only [List.mem_cons, List.not_mem_nil, or_false] at hc
    rcases hc with rfl | rfl | rfl | rfl <;> (unfold visB; decide)
  · exact vis_treeB _ c hc
theorem head_inj {d e : Df} (h : okD d) (k : okD e) (hh : headB d = headB e) : d.name = e.name ∧ treeB d.body = treeB e.body := by
  simp only [headB, List.append_assoc, List.cons_append, List.nil_append] at hh
  obtain ⟨h1, h2⟩ := cut_eq _ _ _ _ (alnum_no32 h.1) (alnum_no32 k.1) hh
  simp only [List.cons.injEq, true_and] at h2
  exact ⟨text_ext h1, h2⟩
def wordsD (d : Df) : Prop := ∀ n ∈ d.body.nodes, wordOk n
theorem gram_inj : ∀ (a b : List Df), (∀ d ∈ a, okD d) → (∀ d ∈ b, okD d) → (∀ d ∈ a, wordsD d) → (∀ d ∈ b, wordsD d) → (a.flatMap defB = b.flatMap defB ↔ sameG a b = true)
  | [], [], _, _, _, _ => by simp [sameG]
  | [], e :: b, _, hb, _, _ => by
    simp only [List.flatMap_nil, List.flatMap_cons, sameG]
    constructor
    · intro h
      exact absurd (List.append_eq_nil_iff.1 h.symm).1 ((defB_iff e).2 (hb e List.mem_cons_self))
    · intro h; cases h
  | d :: a, [], ha, _, _, _ => by
    simp only [List.flatMap_nil, List.flatMap_cons, sameG]
    constructor
    · intro h
      exact absurd (List.append_eq_nil_iff.1 h).1 ((defB_iff d).2 (ha d List.mem_cons_self))
    · intro h; cases h
  | d :: a, e :: b, ha, hb, wa, wb => by
    have hd := ha d List.mem_cons_self; have he := hb e List.mem_cons_self
    have ih := gram_inj a b (fun x hx => ha x (List.mem_cons_of_mem _ hx)) (fun x hx => hb x (List.mem_cons_of_mem _ hx)) (fun x hx => wa x (List.mem_cons_of_mem _ hx)) (fun x hx => wb x (List.mem_cons_of_mem _ hx))
    have hu := unlike_tree hd.2 he.2 (wa d List.mem_cons_self) (wb e List.mem_cons_self)
    have e1 : ∀ {d : Df} (h : okD d) (r : List UInt8), defB d ++ r = headB d ++ 10 :: r := fun {d} h r => by
      rw [defB_ok h]; simp [headB]
    simp only [List.flatMap_cons, sameG, Bool.and_eq_true]
    rw [e1 hd, e1 he]
    constructor
    · intro h
      obtain ⟨h1, h2⟩ := cut_eq _ _ _ _ (head_no10 hd) (head_no10 he) h
      obtain ⟨h3, h4⟩ := head_inj hd he h1
      refine ⟨?_, ih.1 h2⟩
      simp only [sameD, Bool.and_eq_true, decide_eq_true_eq]
      exact ⟨h3, hu.1 h4⟩
    · rintro ⟨h1, h2⟩
      simp only [sameD, Bool.and_eq_true, decide_eq_true_eq] at h1
      rw [ih.2 h2]
      unfold headB
      rw [h1.1, hu.2 h1.2]
/-- How many lines. -/
theorem gram_ends : ∀ g : List Df, (∀ d ∈ g, okD d) → (g.flatMap defB).count 10 = g.length
  | [], _ => rfl
  | d :: g, h => by
    have hd := h d List.mem_cons_self
    have h1 := List.count_eq_zero.2 (head_no10 hd)
    have e1 : defB d = headB d ++ [10] := by rw [defB_ok hd]; simp [headB]
    rw [List.flatMap_cons, List.count_append, gram_ends g fun x hx => h x (List.mem_cons_of_mem _ hx), e1, List.count_append, h1]
    simp; omega
theorem gram_last (g : List Df) (h : ∀ d ∈ g, okD d) (hg : g ≠ []) : ∃ x, g.flatMap defB = x ++ [10] := by
  rcases List.eq_nil_or_concat g with rfl | ⟨ini, d, rfl⟩
  · exact absurd rfl hg
  · rw [List.concat_eq_append] at h ⊢
    refine ⟨ini.flatMap defB ++ headB d, ?_⟩
    rw [List.flatMap_append]
    simp only [List.flatMap_cons, List.flatMap_nil, List.append_nil]
    rw [defB_ok (h d (by simp))]
    simp [headB]
end Go.Proofs.YtdcgbcdmkhleoaaDoor

/- Plain: how deep a tree is, whether one may be, is normal; what is wrong with a grammar. -/
namespace Go.Proofs.YtdcgbcdmkhleoaaDoor
set_option linter.unusedSimpArgs false
set_option linter.unusedVariables false

def depF (l : List Nd) : Nat → Nat → Nat
  | 0, _ => 0
  | f + 1, i => ((kidsAt l i).map (depF l f)).foldl max 0 + 1
def depN (l : List Nd) (i : Nat) : Nat := depF l (i + 1) i
theorem depF_stable {l : List Nd} (h : Ahead l) : ∀ (f g i : Nat), i < f → i < g → depF l f i = depF l g i
  | 0, _, _, hf, _ => by omega
  | _, 0, _, _, hg => by omega
  | f + 1, g + 1, i, hf, hg => by
    simp only [depF]
    congr 2
    refine List.map_congr_left fun k hk => ?_
    have := h i k hk
    exact depF_stable h f g k (by omega) (by omega)
theorem depN_eq {l : List Nd} (h : Ahead l) (i : Nat) : depN l i = ((kidsAt l i).map (depN l)).foldl max 0 + 1 := by
  show depF l (i + 1) i = _
  simp only [depF]
  congr 2
  refine List.map_congr_left fun k hk => ?_
  have := h i k hk
  exact depF_stable h i (k + 1) k (by omega) (by omega)
theorem fold_max_le (c : Nat) : ∀ (l : List Nat) (a : Nat), a ≤ c → (∀ x ∈ l, x ≤ c) → l.foldl max a ≤ c
  | [], a, h, _ => h
  | x :: l, a, h, k => fold_max_le c l (max a x) (Nat.max_le.2 ⟨h, k x List.mem_cons_self⟩) fun y hy => k y (List.mem_cons_of_mem _ hy)
theorem depN_le {l : List Nd} (h : Ahead l) : ∀ i, depN l i ≤ i + 1 := by
  intro i
  induction i using Nat.strongRecOn with
  | _ i ih =>
    rw [depN_eq h]
    have : ((kidsAt l i).map (depN l)).foldl max 0 ≤ i := fold_max_le i _ 0 (Nat.zero_le _) fun x hx => by
      obtain ⟨k, hk, rfl⟩ := List.mem_map.1 hx
      have := h i k hk; have := ih k this
      omega
    omega
def depT (t : Tr) : Nat := if rightT t then depN t.nodes t.root.toNat else 0
def mayT (t : Tr) : Bool := decide (t.nodes.length ≤ 1024) && rightT t && decide (depT t ≤ 32)
def sizeT (t : Tr) : Nat := if rightT t then t.nodes.length else 0
/-- Of a node: none of its kids is to be opened. -/
def shutN (l : List Nd) (n : Nd) : Bool :=
  if n.kind = 4 ∨ n.kind = 5 then n.kids.all fun k => decide ((ndAt l k.toNat).kind ≠ n.kind ∧ ¬ ((ndAt l k.toNat).kind = 0 ∧ n.kind = 4)) else true
def normT (t : Tr) : Bool := rightT t && t.nodes.all (shutN t.nodes)
def nodesG (g : List Df) : Nat := (g.map fun d => sizeT d.body).sum
/-- Where the first rule of a name is; -1: there is none. -/
def findG : List Df → ByteArray → Int
  | [], _ => -1
  | d :: g, s => if d.name = s then 0 else if findG g s < 0 then -1 else findG g s + 1
theorem findG_ge : ∀ (g : List Df) (s : ByteArray), -1 ≤ findG g s
  | [], _ => by simp [findG]
  | d :: g, s => by
    have := findG_ge g s
    unfold findG; split
    · omega
    · split <;> omega
theorem findG_neg : ∀ (g : List Df) (s : ByteArray), findG g s < 0 ↔ ∀ d ∈ g, d.name ≠ s
  | [], s => by simp [findG]
  | d :: g, s => by
    have ih := findG_neg g s
    unfold findG
    by_cases h : d.name = s
    · rw [if_pos h]
      exact ⟨fun h => by omega, fun k => absurd h (k d List.mem_cons_self)⟩
    · rw [if_neg h]
      by_cases h2 : findG g s < 0
      · rw [if_pos h2]
        refine ⟨fun _ x hx => ?_, fun _ => by omega⟩
        rcases List.mem_cons.1 hx with rfl | hx
        · exact h
        · exact ih.1 h2 x hx
      · rw [if_neg h2]
        refine ⟨fun k => by omega, fun k => ?_⟩
        exact absurd (ih.2 fun x hx => k x (List.mem_cons_of_mem _ hx)) h2
theorem findG_at : ∀ (g : List Df) (s : ByteArray) (k : Nat) (hk : k < g.length), g[k].name = s → (∀ j (hj : j < k), g[j].name ≠ s) → findG g s = k
  | [], _, k, hk, _, _ => by simp at hk
  | d :: g, s, 0, _, h, _ => by
    simp only [List.getElem_cons_zero] at h
    unfold findG; rw [if_pos h]; rfl
  | d :: g, s, k + 1, hk, h, h2 => by
    have h0 := h2 0 (by omega)
    simp only [List.getElem_cons_zero] at h0
    have ih := findG_at g s k (by simpa using hk) (by simpa using h) fun j hj => by
      have := h2 (j + 1) (by omega); simpa using this
    unfold findG; rw [if_neg h0, ih, if_neg (by omega)]; omega
theorem findG_lt (g : List Df) (s : ByteArray) : findG g s < g.length := by
  induction g with
  | nil => simp [findG]
  | cons d g ih =>
    unfold findG
    simp only [List.length_cons]
    split
    · omega
    · split <;> omega
theorem findG_name : ∀ (g : List Df) (s : ByteArray) (k : Nat), findG g s = k → ∃ hk : k < g.length, g[k].name = s ∧ ∀ j (hj : j < k), g[j].name ≠ s
  | [], s, k, h => by simp [findG] at h
  | d :: g, s, k, h => by
    unfold findG at h
    by_cases h0 : d.name = s
    · rw [if_pos h0] at h
      obtain rfl : k = 0 := by omega
      exact ⟨by simp, h0, fun j hj => by omega⟩
    · rw [if_neg h0] at h
      by_cases h1 : findG g s < 0
      · rw [if_pos h1] at h; omega
      · rw [if_neg h1] at h
        obtain ⟨k, rfl⟩ : ∃ m, k = m + 1 := ⟨k - 1, by omega⟩
        obtain ⟨hk, h2, h3⟩ := findG_name g s k (by omega)
        refine ⟨by simpa using hk, by simpa using h2, fun j hj => ?_⟩
        cases j with
        | zero => exact h0
        | succ j => simpa using h3 j (by omega)
def twiceG : List Df → Bool
  | [] => false
  | d :: g => g.any (fun e => decide (e.name = d.name)) || twiceG g
/-- A rule that is called, and is not there. -/
def lostG (g : List Df) : Bool := g.any fun d => d.body.nodes.any fun n => decide (n.kind = 3) && decide (findG g n.text < 0)
def largeG (g : List Df) : Bool := decide (64 < g.length) || g.any (fun d => !mayT d.body) || decide (1024 < nodesG g) || decide (8192 < (gramT g).length)
def mayG (g : List Df) : Int :=
  if g = [] ∨ g.any (fun d => !(mayL d.name.data.toList && normT d.body)) = true then 4
  else if largeG g then 40 else if twiceG g then 6 else if lostG g then 41 else 0
/-- What is known of one that may be. -/
structure OkG (g : List Df) : Prop where
  some : g ≠ []
  ok : ∀ d ∈ g, okD d
  norm : ∀ d ∈ g, normT d.body = true
  len : g.length ≤ 64
  may : ∀ d ∈ g, mayT d.body = true
  nodes : nodesG g ≤ 1024
  size : (gramT g).length ≤ 8192
  once : twiceG g = false
  found : lostG g = false
theorem mayG_ok {g : List Df} (h : mayG g = 0) : OkG g := by
  unfold mayG at h
  split at h
  · omega
  rename_i h1
  split at h
  · omega
  rename_i h2
  split at h
  · omega
  rename_i h3
  split at h
  · omega
  rename_i h4
  simp only [not_or, Bool.not_eq_true, List.any_eq_false, Bool.not_eq_eq_eq_not, Bool.not_false, Bool.and_eq_true] at h1
  simp only [largeG, Bool.or_eq_true, not_or, decide_eq_true_eq, Bool.not_eq_true, List.any_eq_false, Bool.not_eq_eq_eq_not, Bool.not_false] at h2
  have hn : ∀ d ∈ g, mayL d.name.data.toList = true ∧ normT d.body = true := fun d hd => by
    have := h1.2 d hd
    simpa using this
  refine ⟨h1.1, fun d hd => ⟨(hn d hd).1, ?_⟩, fun d hd => (hn d hd).2, by omega, fun d hd => ?_, by omega, by omega, by simpa using h3, by simpa using h4⟩
  · have := (hn d hd).2
    simp only [normT, Bool.and_eq_true] at this
    exact this.1
  · have := h2.1.1.2 d hd
    simpa using this
theorem twice_no : ∀ (g : List Df), twiceG g = false → ∀ i j (hi : i < g.length) (hj : j < g.length), g[i].name = g[j].name → i = j
  | [], _, i, _, hi, _, _ => by simp at hi
  | d :: g, h, i, j, hi, hj, e => by
    simp only [twiceG, Bool.or_eq_false_iff, List.any_eq_false, decide_eq_true_eq] at h
    cases i with
    | zero =>
      cases j with
      | zero => rfl
      | succ j =>
        simp only [List.getElem_cons_zero, List.getElem_cons_succ] at e
        exact absurd e.symm (h.1 _ (List.getElem_mem _))
    | succ i =>
      cases j with
      | zero =>
        simp only [List.getElem_cons_zero, List.getElem_cons_succ] at e
        exact absurd e (h.1 _ (List.getElem_mem _))
      | succ j =>
        simp only [List.getElem_cons_succ] at e
        rw [twice_no g h.2 i j (by simpa using hi) (by simpa using hj) e]
theorem twiceG_iff (g : List Df) : twiceG g = true ↔ ∃ i j, ∃ (hi : i < j) (hj : j < g.length), g[i].name = g[j].name := by
  induction g with
  | nil => simp [twiceG]
  | cons d g ih =>
    simp only [twiceG, Bool.or_eq_true, List.any_eq_true, decide_eq_true_eq, ih]
    constructor
    · rintro (⟨x, hx, e⟩ | ⟨i, j, hi, hj, e⟩)
      · obtain ⟨k, hk, rfl⟩ := List.mem_iff_getElem.1 hx
        exact ⟨0, k + 1, by omega, by simpa using hk, by simpa using e.symm⟩
      · exact ⟨i + 1, j + 1, by omega, by simpa using hj, by simpa using e⟩
    · rintro ⟨i, j, hi, hj, e⟩
      cases i with
      | zero =>
        cases j with
        | zero => omega
        | succ j =>
          simp only [List.getElem_cons_zero, List.getElem_cons_succ] at e
          exact .inl ⟨_, List.getElem_mem _, e.symm⟩
      | succ i =>
        cases j with
        | zero => omega
        | succ j =>
          simp only [List.getElem_cons_succ] at e
          exact .inr ⟨i, j, by omega, by simpa using hj, e⟩
end Go.Proofs.YtdcgbcdmkhleoaaDoor
