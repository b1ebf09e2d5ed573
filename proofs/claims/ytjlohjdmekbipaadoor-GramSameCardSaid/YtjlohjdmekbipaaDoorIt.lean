/- Plain: what is told of trees is the same of two that are the same. -/
import Derived.Test.YtjlohjdmekbipaaDoorHe
namespace Go.Proofs.YtjlohjdmekbipaaDoor
set_option linter.unusedSimpArgs false
set_option linter.unusedVariables false

theorem kids_same {l m : List Nd} {i j : Nat} (e : (kidsAt l i).map (takenL l) = (kidsAt m j).map (takenL m)) : (kidsAt l i).length = (kidsAt m j).length ∧ ∀ t (h1 : t < (kidsAt l i).length) (h2 : t < (kidsAt m j).length), takenL l (kidsAt l i)[t] = takenL m (kidsAt m j)[t] := by
  have h := congrArg List.length e
  simp only [List.length_map] at h
  refine ⟨h, fun t h1 h2 => ?_⟩
  have h3 := congrArg (·[t]?) e
  simpa [h1, h2] using h3
theorem dep_taken {l m : List Nd} (h : Ahead l) (k : Ahead m) : ∀ i j, (∀ p, p ≤ i → (postN l p).Nodup) → (∀ p, p ≤ j → (postN m p).Nodup) → takenL l i = takenL m j → depN l i = depN m j := by
  intro i
  induction i using Nat.strongRecOn with
  | _ i ih =>
    intro j hn hm e
    obtain ⟨_, e2⟩ := taken_parts h k (hn i (Nat.le_refl _)) (hm j (Nat.le_refl _)) e
    obtain ⟨e3, e4⟩ := kids_same e2
    rw [depN_eq h, depN_eq k]
    congr 2
    apply List.ext_getElem
    · simpa using e3
    · intro t h1 h2
      simp only [List.length_map] at h1 h2
      simp only [List.getElem_map]
      have a1 := h i _ (List.getElem_mem h1)
      have a2 := k j _ (List.getElem_mem h2)
      exact ih _ a1 _ (fun p hp => hn p (by omega)) (fun p hp => hm p (by omega)) (e4 t h1 h2)
theorem same_dep {a b : Tr} (h : sameT a b = true) : depT a = depT b := by
  simp only [sameT, Bool.and_eq_true, decide_eq_true_eq] at h
  obtain ⟨⟨ha, hb⟩, he⟩ := h
  have pa := (rightT_iff a).1 ha; have pb := (rightT_iff b).1 hb
  unfold depT
  rw [if_pos ha, if_pos hb]
  exact dep_taken (rightP_ahead pa) (rightP_ahead pb) _ _ (fun p hp => post_nodup pa p (by have := pa.1; omega)) (fun p hp => post_nodup pb p (by have := pb.1; omega)) he
theorem same_may {a b : Tr} (h : sameT a b = true) : mayT a = mayT b := by
  have h1 := same_dep h; have h2 := sameT_length h
  simp only [sameT, Bool.and_eq_true, decide_eq_true_eq] at h
  unfold mayT
  rw [h1, h2, h.1.1, h.1.2]
theorem same_size {a b : Tr} (h : sameT a b = true) : sizeT a = sizeT b := by
  have h2 := sameT_length h
  simp only [sameT, Bool.and_eq_true, decide_eq_true_eq] at h
  unfold sizeT
  rw [h2, h.1.1, h.1.2]
theorem bare_kind {a b : Nd} (h : bareN a = bareN b) : a.kind = b.kind := by
  simp only [bareN, Nd.mk.injEq] at h; exact h.1
theorem shut_at (l : List Nd) (i : Nat) : shutN l (ndAt l i) = if (ndAt l i).kind = 4 ∨ (ndAt l i).kind = 5 then (kidsAt l i).all fun k => decide ((ndAt l k).kind ≠ (ndAt l i).kind ∧ ¬ ((ndAt l k).kind = 0 ∧ (ndAt l i).kind = 4)) else true := by
  unfold shutN
  split
  · rw [kidsAt_nd, List.all_map]; rfl
  · rfl
theorem shut_taken {l m : List Nd} (h : Ahead l) (k : Ahead m) {i j : Nat} (hn : ∀ p, p ≤ i → (postN l p).Nodup) (hm : ∀ p, p ≤ j → (postN m p).Nodup) (e : takenL l i = takenL m j) (hs : shutN l (ndAt l i) = true) : shutN m (ndAt m j) = true := by
  obtain ⟨e1, e2⟩ := taken_parts h k (hn i (Nat.le_refl _)) (hm j (Nat.le_refl _)) e
  obtain ⟨e3, e4⟩ := kids_same e2
  have ek := bare_kind e1
  rw [shut_at] at hs ⊢
  rw [ek] at hs
  split
  · rename_i hc
    rw [if_pos hc] at hs
    rw [List.all_eq_true] at hs ⊢
    intro y hy
    obtain ⟨t, ht, rfl⟩ := List.mem_iff_getElem.1 hy
    have ht' : t < (kidsAt l i).length := by omega
    have a1 := h i _ (List.getElem_mem ht')
    have a2 := k j _ (List.getElem_mem ht)
    have e5 := bare_kind (taken_parts h k (hn _ (by omega)) (hm _ (by omega)) (e4 t ht' ht)).1
    have h6 := hs _ (List.getElem_mem ht')
    rw [e5] at h6; exact h6
  · rfl
theorem shut_all {l m : List Nd} (h : Ahead l) (k : Ahead m) : ∀ i j, (∀ p, p ≤ i → (postN l p).Nodup) → (∀ p, p ≤ j → (postN m p).Nodup) → takenL l i = takenL m j → (∀ p ∈ postN l i, shutN l (ndAt l p) = true) → ∀ q ∈ postN m j, shutN m (ndAt m q) = true := by
  intro i
  induction i using Nat.strongRecOn with
  | _ i ih =>
    intro j hn hm e hs q hq
    obtain ⟨_, e2⟩ := taken_parts h k (hn i (Nat.le_refl _)) (hm j (Nat.le_refl _)) e
    obtain ⟨e3, e4⟩ := kids_same e2
    rw [postN_eq k, List.mem_append] at hq
    rcases hq with hq | hq
    · obtain ⟨y, hy, hq⟩ := List.mem_flatMap.1 hq
      obtain ⟨t, ht, rfl⟩ := List.mem_iff_getElem.1 hy
      have ht' : t < (kidsAt l i).length := by omega
      have a1 := h i _ (List.getElem_mem ht')
      have a2 := k j _ (List.getElem_mem ht)
      refine ih _ a1 _ (fun p hp => hn p (by omega)) (fun p hp => hm p (by omega)) (e4 t ht' ht) (fun p hp => hs p ?_) q hq
      rw [postN_eq h, List.mem_append]
      exact .inl (List.mem_flatMap.2 ⟨_, List.getElem_mem ht', hp⟩)
    · simp only [List.mem_singleton] at hq
      subst hq
      exact shut_taken h k hn hm e (hs i (by rw [postN_eq h]; simp))
theorem root_all {t : Tr} (h : rightP t) (p : Nat) (hp : p < t.nodes.length) : p ∈ postN t.nodes t.root.toNat := by
  have hr : t.root.toNat < t.nodes.length := by have := h.1; omega
  apply Decidable.byContradiction
  intro hn
  have h1 : (p :: postN t.nodes t.root.toNat).Nodup := List.nodup_cons.2 ⟨hn, post_nodup h _ hr⟩
  have h2 := nodup_length h1 (n := t.nodes.length) (fun k hk => by
    rcases List.mem_cons.1 hk with rfl | hk
    · exact hp
    · have := postN_le (rightP_ahead h) _ k hk; omega)
  rw [List.length_cons, root_length h] at h2
  omega
theorem norm_post {t : Tr} (h : rightP t) : (t.nodes.all (shutN t.nodes)) = true ↔ ∀ p ∈ postN t.nodes t.root.toNat, shutN t.nodes (ndAt t.nodes p) = true := by
  have hr : t.root.toNat < t.nodes.length := by have := h.1; omega
  rw [List.all_eq_true]
  constructor
  · intro ha p hp
    have hl : p < t.nodes.length := by have := postN_le (rightP_ahead h) _ p hp; omega
    have e : ndAt t.nodes p = t.nodes[p] := by simp [ndAt, hl]
    rw [e]; exact ha _ (List.getElem_mem hl)
  · intro ha n hn
    obtain ⟨p, hp, rfl⟩ := List.mem_iff_getElem.1 hn
    have e : ndAt t.nodes p = t.nodes[p] := by simp [ndAt, hp]
    rw [← e]; exact ha p (root_all h p hp)
theorem norm_le {a b : Tr} (h : sameT a b = true) (hn : normT a = true) : normT b = true := by
  simp only [sameT, Bool.and_eq_true, decide_eq_true_eq] at h
  obtain ⟨⟨ha, hb⟩, he⟩ := h
  have pa := (rightT_iff a).1 ha; have pb := (rightT_iff b).1 hb
  unfold normT at hn ⊢
  rw [ha, Bool.true_and, norm_post pa] at hn
  rw [hb, Bool.true_and, norm_post pb]
  exact shut_all (rightP_ahead pa) (rightP_ahead pb) _ _ (fun p hp => post_nodup pa p (by have := pa.1; omega)) (fun p hp => post_nodup pb p (by have := pb.1; omega)) he hn
theorem same_norm {a b : Tr} (h : sameT a b = true) : normT a = normT b := by
  rw [Bool.eq_iff_iff]
  exact ⟨norm_le h, norm_le (sameT_symm h)⟩
theorem same_text {a b : Tr} (h : sameT a b = true) : treeB a = treeB b := by
  simp only [sameT, Bool.and_eq_true, decide_eq_true_eq] at h
  obtain ⟨⟨ha, hb⟩, he⟩ := h
  have pa := (rightT_iff a).1 ha; have pb := (rightT_iff b).1 hb
  unfold treeB
  rw [if_pos ha, if_pos hb]
  exact taken_text (rightP_ahead pa) (rightP_ahead pb) _ _ (fun p hp => post_nodup pa p (by have := pa.1; omega)) (fun p hp => post_nodup pb p (by have := pb.1; omega)) he
theorem same_name {x y : Df} (h : sameD x y = true) : x.name = y.name ∧ sameT x.body y.body = true := by
  simpa [sameD] using h
theorem sameG_map {β : Type} (f : Df → β) (hf : ∀ x y, sameD x y = true → f x = f y) : ∀ a b : List Df, sameG a b = true → a.map f = b.map f
  | [], [], _ => rfl
  | x :: a, y :: b, h => by
    simp only [sameG, Bool.and_eq_true] at h
    rw [List.map_cons, List.map_cons, hf x y h.1, sameG_map f hf a b h.2]
  | [], _ :: _, h => by simp [sameG] at h
  | _ :: _, [], h => by simp [sameG] at h
theorem any_map (f : Df → Bool) (g : List Df) : g.any f = (g.map f).any id := by rw [List.any_map]; rfl
theorem gramB_map : ∀ a b : List Df, a.map defB = b.map defB → gramB a = gramB b
  | [], [], _ => rfl
  | x :: a, y :: b, h => by
    simp only [List.map_cons, List.cons.injEq] at h
    rw [gramB, gramB, h.1, gramB_map a b h.2]
  | [], _ :: _, h => by simp at h
  | _ :: _, [], h => by simp at h
theorem twiceG_map : ∀ a b : List Df, a.map Df.name = b.map Df.name → twiceG a = twiceG b
  | [], [], _ => rfl
  | x :: a, y :: b, h => by
    simp only [List.map_cons, List.cons.injEq] at h
    have e : ∀ (g : List Df) (s : ByteArray), g.any (fun e => decide (e.name = s)) = (g.map Df.name).any fun n => decide (n = s) := fun g s => by rw [List.any_map]; rfl
    rw [twiceG, twiceG, e, e, h.1, h.2, twiceG_map a b h.2]
  | [], _ :: _, h => by simp at h
  | _ :: _, [], h => by simp at h
theorem findG_map (s : ByteArray) : ∀ a b : List Df, a.map Df.name = b.map Df.name → findG a s = findG b s
  | [], [], _ => rfl
  | x :: a, y :: b, h => by
    simp only [List.map_cons, List.cons.injEq] at h
    rw [findG, findG, h.1, findG_map s a b h.2]
  | [], _ :: _, h => by simp at h
  | _ :: _, [], h => by simp at h
/-- Of a right tree: whether a node is such, told by its clean form. -/
theorem any_taken {t : Tr} (h : rightP t) (Q : Nd → Bool) (hQ : ∀ n P, Q (placed P n) = Q n) : t.nodes.any Q = (takenL t.nodes t.root.toNat).any Q := by
  have hr : t.root.toNat < t.nodes.length := by have := h.1; omega
  rw [Bool.eq_iff_iff, List.any_eq_true, List.any_eq_true]
  constructor
  · rintro ⟨n, hn, hq⟩
    obtain ⟨p, hp, rfl⟩ := List.mem_iff_getElem.1 hn
    refine ⟨placed (postN t.nodes t.root.toNat) (ndAt t.nodes p), List.mem_map.2 ⟨p, root_all h p hp, rfl⟩, ?_⟩
    rw [hQ, show ndAt t.nodes p = t.nodes[p] by simp [ndAt, hp]]; exact hq
  · rintro ⟨n, hn, hq⟩
    obtain ⟨p, hp, rfl⟩ := List.mem_map.1 hn
    have hl : p < t.nodes.length := by have := postN_le (rightP_ahead h) _ p hp; omega
    rw [hQ, show ndAt t.nodes p = t.nodes[p] by simp [ndAt, hl]] at hq
    exact ⟨_, List.getElem_mem hl, hq⟩
theorem same_any {a b : Tr} (h : sameT a b = true) (Q : Nd → Bool) (hQ : ∀ n P, Q (placed P n) = Q n) : a.nodes.any Q = b.nodes.any Q := by
  simp only [sameT, Bool.and_eq_true, decide_eq_true_eq] at h
  obtain ⟨⟨ha, hb⟩, he⟩ := h
  rw [any_taken ((rightT_iff a).1 ha) Q hQ, any_taken ((rightT_iff b).1 hb) Q hQ, he]
theorem same_defB {x y : Df} (h : sameD x y = true) : defB x = defB y := by
  obtain ⟨h1, h2⟩ := same_name h
  unfold defB
  rw [same_text h2, h1]
theorem same_lost {a b : List Df} (h : sameG a b = true) : lostG a = lostG b := by
  have hn := sameG_map Df.name (fun x y h => (same_name h).1) a b h
  have hf : ∀ s, findG a s = findG b s := fun s => findG_map s a b hn
  unfold lostG
  simp only [hf]
  rw [any_map, any_map, sameG_map _ (fun x y h => same_any (same_name h).2 _ (fun n P => rfl)) a b h]
theorem same_large {a b : List Df} (h : sameG a b = true) : largeG a = largeG b := by
  have h1 := (sameG_at a b h).1
  have h2 : a.any (fun d => !mayT d.body) = b.any (fun d => !mayT d.body) := by
    rw [any_map, any_map, sameG_map _ (fun x y h => by rw [same_may (same_name h).2]) a b h]
  have h3 : nodesG a = nodesG b := by
    unfold nodesG
    rw [sameG_map _ (fun x y h => same_size (same_name h).2) a b h]
  have h4 : gramT a = gramT b := by
    unfold gramT
    rw [gramB_map a b (sameG_map _ (fun x y h => same_defB h) a b h)]
  unfold largeG
  rw [h1, h2, h3, h4]
theorem same_mayG {a b : List Df} (h : sameG a b = true) : mayG a = mayG b := by
  have h1 := (sameG_at a b h).1
  have h2 : a.any (fun d => !(mayL d.name.data.toList && normT d.body)) = b.any (fun d => !(mayL d.name.data.toList && normT d.body)) := by
    rw [any_map, any_map, sameG_map _ (fun x y h => by rw [same_norm (same_name h).2, (same_name h).1]) a b h]
  have h3 : a = [] ↔ b = [] := by rw [← List.length_eq_zero_iff, ← List.length_eq_zero_iff, h1]
  unfold mayG
  rw [h2, same_large h, twiceG_map a b (sameG_map _ (fun x y h => (same_name h).1) a b h), same_lost h]
  simp only [h3]
theorem sameG_symm : ∀ a b : List Df, sameG a b = sameG b a
  | [], [] => rfl
  | x :: a, y :: b => by rw [sameG, sameG, sameD_symm, sameG_symm a b]
  | [], _ :: _ => rfl
  | _ :: _, [] => rfl
theorem sameG_trans : ∀ a b c : List Df, sameG a b = true → sameG b c = true → sameG a c = true
  | [], [], [], _, _ => rfl
  | x :: a, y :: b, z :: c, h, k => by
    simp only [sameG, Bool.and_eq_true] at h k ⊢
    exact ⟨sameD_trans h.1 k.1, sameG_trans a b c h.2 k.2⟩
  | [], [], _ :: _, _, k => by simp [sameG] at k
  | [], _ :: _, _, h, _ => by simp [sameG] at h
  | _ :: _, [], _, h, _ => by simp [sameG] at h
  | _ :: _, _ :: _, [], _, k => by simp [sameG] at k
end Go.Proofs.YtjlohjdmekbipaaDoor
