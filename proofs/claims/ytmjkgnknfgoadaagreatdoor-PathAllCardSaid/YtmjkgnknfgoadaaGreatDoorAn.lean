/- Plain: paths within an arena; arenas of many roots; what path.graft appends. -/
import Derived.Test.YtmjkgnknfgoadaaGreatDoorAd
import Derived.Test.YtmjkgnknfgoadaaGreatDoorAk
namespace Go.Proofs.YtmjkgnknfgoadaaGreatDoor
set_option linter.unusedSimpArgs false
set_option linter.unusedVariables false

/-- The nodes above a path's end, each with the kid that goes there, and the node there. -/
def goDown (l : List Nd) : Nat → List Int → Option (List (Nat × Nat) × Nat)
  | k, [] => some ([], k)
  | k, z :: p => if 0 ≤ z then ((kidsAt l k)[z.toNat]?).bind fun c => (goDown l c p).map fun r => ((k, z.toNat) :: r.1, r.2) else none
theorem goDown_append (l : List Nd) : ∀ (p q : List Int) (k : Nat), goDown l k (p ++ q) = (goDown l k p).bind fun r => (goDown l r.2 q).map fun s => (r.1 ++ s.1, s.2)
  | [], q, k => by simp [goDown]
  | z :: p, q, k => by
    simp only [List.cons_append, goDown]
    split
    · cases (kidsAt l k)[z.toNat]? with
      | none => rfl
      | some c =>
        simp only [Option.bind_some, goDown_append l p q c]
        cases goDown l c p with
        | none => rfl
        | some r => cases hq : goDown l r.2 q <;> simp [hq]
    · rfl
theorem goDown_snoc {l : List Nd} {p : List Int} {k : Nat} {r : List (Nat × Nat) × Nat} (h : goDown l k p = some r) {z : Int} (hz : 0 ≤ z) {c : Nat} (hc : (kidsAt l r.2)[z.toNat]? = some c) : goDown l k (p ++ [z]) = some (r.1 ++ [(r.2, z.toNat)], c) := by
  rw [goDown_append, h]
  simp [goDown, hz, hc]
theorem goDown_stop {l : List Nd} {p : List Int} {k : Nat} {r : List (Nat × Nat) × Nat} (h : goDown l k p = some r) {z : Int} (hz : z < 0 ∨ (kidsAt l r.2).length ≤ z.toNat) (q : List Int) : goDown l k (p ++ z :: q) = none := by
  rw [goDown_append, h]
  simp only [Option.bind_some, goDown]
  rcases hz with hz | hz
  · rw [if_neg (by omega)]; rfl
  · rw [List.getElem?_eq_none hz]; split <;> rfl
theorem goDown_at {l : List Nd} (hA : Ahead l) : ∀ (p : List Int) (k : Nat), (goDown l k p).map (fun r => den l r.2) = atTT (den l k) p
  | [], k => rfl
  | z :: p, k => by
    rw [den_eq hA]
    simp only [goDown, atTT, TT.kids, List.getElem?_map]
    split
    · cases (kidsAt l k)[z.toNat]? with
      | none => rfl
      | some c =>
        simp only [Option.bind_some, Option.map_some, ← goDown_at hA p c]
        cases goDown l c p <;> rfl
    · rfl
theorem goDown_lt {l : List Nd} (hA : Ahead l) : ∀ (p : List Int) (k : Nat) (r : List (Nat × Nat) × Nat), goDown l k p = some r → r.2 ≤ k ∧ (∀ a ∈ r.1, a.1 ≤ k ∧ a.2 < (kidsAt l a.1).length) ∧ r.1.length = p.length
  | [], k, r, h => by simp only [goDown, Option.some.injEq] at h; subst h; simp
  | z :: p, k, r, h => by
    simp only [goDown] at h
    split at h
    · obtain ⟨c, hc, h⟩ := Option.bind_eq_some_iff.1 h
      obtain ⟨s, hs, rfl⟩ := Option.map_eq_some_iff.1 h
      have h1 := goDown_lt hA p c s hs
      have h2 := hA k c (List.mem_of_getElem? hc)
      refine ⟨by show s.2 ≤ k; omega, fun a ha => ?_, by simp [h1.2.2]⟩
      rcases List.mem_cons.1 ha with rfl | ha
      · exact ⟨Nat.le_refl _, (List.getElem?_eq_some_iff.1 hc).1⟩
      · have := h1.2.1 a ha; exact ⟨by omega, this.2⟩
    · cases h
/-- What is put in its place below the nodes above it. -/
def plugT (l : List Nd) : List (Nat × Nat) → TT → TT
  | [], y => y
  | a :: A, y => .mk (bareN (ndAt l a.1)) (((kidsAt l a.1).map (den l)).set a.2 (plugT l A y))
theorem plug_snoc (l : List Nd) (a : Nat × Nat) (y : TT) : ∀ A, plugT l (A ++ [a]) y = plugT l A (.mk (bareN (ndAt l a.1)) (((kidsAt l a.1).map (den l)).set a.2 y))
  | [] => rfl
  | b :: A => by simp only [List.cons_append, plugT, plug_snoc l a y A]
theorem plug_put {l : List Nd} (hA : Ahead l) : ∀ (p : List Int) (k : Nat) (r : List (Nat × Nat) × Nat) (y : TT), goDown l k p = some r → plugT l r.1 y = putTT (den l k) p y
  | [], k, r, y, h => by simp only [goDown, Option.some.injEq] at h; subst h; rfl
  | z :: p, k, r, y, h => by
    simp only [goDown] at h
    split at h
    · obtain ⟨c, hc, h⟩ := Option.bind_eq_some_iff.1 h
      obtain ⟨s, hs, rfl⟩ := Option.map_eq_some_iff.1 h
      have h1 := plug_put hA p c s y hs
      rw [den_eq hA]
      simp only [plugT, putTT, TT.nd, TT.kids, List.getElem?_map, hc, Option.map_some, Option.getD_some, h1]
    · cases h

/-! ### arenas of many roots -/
structure Grove (N : List Nd) (R : Nat → Prop) : Prop where
  lt : ∀ p, R p → p < N.length
  ok : ∀ i n, N[i]? = some n → ndOk i n = true
  root : ∀ p, R p → (kidsOf N).count (p : Int) = 0
  kid : ∀ p, p < N.length → ¬ R p → (kidsOf N).count (p : Int) = 1
theorem Grove.nil : Grove [] (fun _ => False) := ⟨fun _ h => h.elim, fun i n h => by simp at h, fun _ h => h.elim, fun p h => by simp at h⟩
theorem Grove.congr {N : List Nd} {R R' : Nat → Prop} (h : Grove N R) (e : ∀ p, R p ↔ R' p) : Grove N R' := (funext fun p => propext (e p) : R = R') ▸ h
theorem kidsOf_append (N M : List Nd) : kidsOf (N ++ M) = kidsOf N ++ kidsOf M := by simp [kidsOf]
theorem kidsOf_one (n : Nd) : kidsOf [n] = n.kids := by simp [kidsOf]
theorem Grove.far {N : List Nd} {R : Nat → Prop} (h : Grove N R) : (kidsOf N).count (N.length : Int) = 0 := by
  refine List.count_eq_zero.2 fun hm => ?_
  obtain ⟨n, hn, hk⟩ := List.mem_flatMap.1 hm
  obtain ⟨i, hi, rfl⟩ := List.mem_iff_getElem.1 hn
  have := h.ok i _ (List.getElem?_eq_getElem hi)
  simp only [ndOk, Bool.and_eq_true, List.all_eq_true, decide_eq_true_eq] at this
  have := (this.2 _ hk).2
  omega
theorem Grove.push {N : List Nd} {R : Nat → Prop} (h : Grove N R) {n : Nd} (hf : fitN n n.kids.length = true) (hk : ∀ k ∈ n.kids, 0 ≤ k ∧ R k.toNat) (hn : n.kids.Nodup) :
    Grove (N ++ [n]) (fun p => p = N.length ∨ (R p ∧ (p : Int) ∉ n.kids)) := by
  have hc : ∀ p : Nat, (kidsOf (N ++ [n])).count (p : Int) = (kidsOf N).count (p : Int) + n.kids.count (p : Int) := fun p => by rw [kidsOf_append, kidsOf_one, List.count_append]
  have h0 : n.kids.count (N.length : Int) = 0 := List.count_eq_zero.2 fun hm => by
    have := h.lt _ (hk _ hm).2
    simp at this
  refine ⟨fun p hp => ?_, fun i m hm => ?_, fun p hp => ?_, fun p hp hr => ?_⟩
  · rw [List.length_append]
    rcases hp with rfl | hp
    · simp
    · have := h.lt p hp.1; omega
  · by_cases hi : i < N.length
    · rw [List.getElem?_append_left hi] at hm; exact h.ok i m hm
    · have hl := (List.getElem?_eq_some_iff.1 hm).1
      simp only [List.length_append, List.length_singleton] at hl
      obtain rfl : i = N.length := by omega
      rw [List.getElem?_append_right (Nat.le_refl _), Nat.sub_self] at hm
      simp only [List.getElem?_cons_zero, Option.some.injEq] at hm
      subst hm
      simp only [ndOk, hf, Bool.true_and, List.all_eq_true, decide_eq_true_eq]
      intro k hk'
      have h1 := hk k hk'
      have := h.lt _ h1.2
      omega
  · rw [hc]
    rcases hp with rfl | hp
    · rw [h.far, h0]
    · rw [h.root p hp.1, List.count_eq_zero.2 hp.2]
  · rw [hc]
    by_cases e : p = N.length
    · exact absurd (.inl e) hr
    · have hp : p < N.length := by rw [List.length_append] at hp; simp at hp; omega
      by_cases hR : R p
      · have hm : (p : Int) ∈ n.kids := Decidable.byContradiction fun hx => hr (.inr ⟨hR, hx⟩)
        rw [h.root p hR, hn.count, if_pos hm]
      · rw [h.kid p hp hR, List.count_eq_zero.2 fun hm => hR (by simpa using (hk _ hm).2)]
theorem Grove.right {N : List Nd} {r : Nat} (h : Grove N (fun p => p = r)) : rightP ⟨N, (r : Int)⟩ := by
  have hl := h.lt r rfl
  refine ⟨⟨by show (0 : Int) ≤ r; omega, by show (r : Int) < _; exact_mod_cast hl⟩, h.ok, fun i hi => ?_⟩
  show (kidsOf N).count (i : Int) = if (i : Int) = (r : Int) then 0 else 1
  split
  · rename_i e; exact h.root i (by exact_mod_cast e)
  · rename_i e; exact h.kid i hi fun e' => e (by rw [e'])
theorem Grove.aheadZ {N : List Nd} {R : Nat → Prop} (h : Grove N R) : AheadZ N := fun i n hn k hk => by
  have := h.ok i n hn
  simp only [ndOk, Bool.and_eq_true, List.all_eq_true, decide_eq_true_eq] at this
  exact this.2 k hk
theorem ndOk_fit {i : Nat} {n : Nd} (h : ndOk i n = true) : fitN n n.kids.length = true := by
  simp only [ndOk, Bool.and_eq_true] at h; exact h.1
/-- A node with the count of kids of a fitting one fits. -/
theorem fitN_kids (n : Nd) (ks : List Int) (k : Int) : fitN { n with kids := ks } k = fitN n k := rfl

/-! ### the row of path.graft -/
structure BInv (T : List Nd) (r : Nat) (row : List Nat) (i : Nat) : Prop where
  le : i ≤ row.length
  eq : row = r :: (row.take i).flatMap (kidsAt T)
  ahead : ∀ j, j < i → j ≤ ((row.take j).flatMap (kidsAt T)).length
  sum : i + ((row.drop i).flatMap (postN T)).length = (postN T r).length
  lt : ∀ x ∈ row, x ≤ r
theorem BInv.start (T : List Nd) (r : Nat) : BInv T r [r] 0 := ⟨by simp, by simp, by simp, by simp, by simp⟩
theorem BInv.bound {T : List Nd} {r i : Nat} {row : List Nat} (h : BInv T r row i) : row.length ≤ (postN T r).length := by
  have h1 := flat_le T (row.drop i)
  have h2 := h.sum
  have h3 := h.le
  rw [List.length_drop] at h1; omega
theorem BInv.step {T : List Nd} {r i : Nat} {row : List Nat} (hA : Ahead T) (h : BInv T r row i) (hi : i < row.length) : BInv T r (row ++ kidsAt T row[i]) (i + 1) := by
  have ht : (row ++ kidsAt T row[i]).take (i + 1) = row.take i ++ [row[i]] := by
    rw [List.take_append_of_le_length (by omega), List.take_succ_eq_append_getElem hi]
  refine ⟨by rw [List.length_append]; omega, ?_, fun j hj => ?_, ?_, fun x hx => ?_⟩
  · rw [ht, List.flatMap_append, List.flatMap_singleton]
    refine Eq.trans (congrArg (· ++ kidsAt T row[i]) h.eq) ?_
    simp
  · have e : (row ++ kidsAt T row[i]).take j = row.take j := List.take_append_of_le_length (by omega)
    rw [e]
    by_cases e2 : j = i
    · subst e2
      have h1 := h.eq
      have h2 := congrArg List.length h1
      rw [List.length_cons] at h2; omega
    · exact h.ahead j (by omega)
  · rw [List.drop_append_of_le_length (by omega), List.flatMap_append, List.length_append]
    have h1 := h.sum
    rw [List.drop_eq_getElem_cons hi, List.flatMap_cons, List.length_append, postN_eq hA, List.length_append] at h1
    simp only [List.length_singleton] at h1
    omega
  · rcases List.mem_append.1 hx with hx | hx
    · exact h.lt x hx
    · have h1 := hA _ _ hx
      have h2 := h.lt _ (List.getElem_mem hi)
      omega
/-- Where the kids of the row's i-th one begin. -/
def endE (T : List Nd) (row : List Nat) (i : Nat) : Nat := 1 + ((row.take i).flatMap (kidsAt T)).length
structure BDone (T : List Nd) (r : Nat) (row : List Nat) : Prop where
  len : row.length = (postN T r).length
  first : ∃ h : 0 < row.length, row[0] = r
  lt : ∀ x ∈ row, x ≤ r
  e0 : endE T row 0 = 1
  en : endE T row row.length = row.length
  es : ∀ i (h : i < row.length), endE T row (i + 1) = endE T row i + (kidsAt T row[i]).length
  ahead : ∀ i, i < row.length → i < endE T row i
  le : ∀ i, i ≤ row.length → endE T row i ≤ row.length
  kid : ∀ i (h : i < row.length) j (hj : j < (kidsAt T row[i]).length), row[endE T row i + j]? = some (kidsAt T row[i])[j]
theorem BInv.done {T : List Nd} {r : Nat} {row : List Nat} (h : BInv T r row row.length) : BDone T r row := by
  have he := h.eq
  rw [List.take_length] at he
  have hlen := congrArg List.length he
  rw [List.length_cons] at hlen
  have hes : ∀ i (h : i < row.length), endE T row (i + 1) = endE T row i + (kidsAt T row[i]).length := fun i hi => by
    unfold endE
    rw [List.take_succ_eq_append_getElem hi, List.flatMap_append, List.flatMap_singleton, List.length_append]; omega
  have hsp : ∀ i (h : i < row.length), row = r :: ((row.take i).flatMap (kidsAt T) ++ (kidsAt T row[i] ++ (row.drop (i + 1)).flatMap (kidsAt T))) := fun i hi => by
    conv => lhs; rw [he]
    congr 1
    conv => lhs; rw [← List.take_append_drop i row]
    rw [List.flatMap_append, List.drop_eq_getElem_cons hi, List.flatMap_cons]
  refine ⟨?_, ⟨by omega, ?_⟩, h.lt, by simp [endE], ?_, hes, fun i hi => ?_, fun i hi => ?_, fun i hi j hj => ?_⟩
  · have := h.sum; simpa using this
  · have : row[0]? = some r := by rw [he]; rfl
    exact (List.getElem?_eq_some_iff.1 this).2
  · unfold endE; rw [List.take_length]; omega
  · have := h.ahead i hi; unfold endE; omega
  · unfold endE
    have h1 : ((row.take i).flatMap (kidsAt T)).length + ((row.drop i).flatMap (kidsAt T)).length = (row.flatMap (kidsAt T)).length := by
      rw [← List.length_append, ← List.flatMap_append, List.take_append_drop]
    omega
  · have h1 := hsp i hi
    have hK := List.getElem?_eq_getElem hj
    generalize kidsAt T row[i] = K at *
    rw [h1]
    unfold endE
    have e2 : (row.take i).flatMap (kidsAt T) = ((r :: ((row.take i).flatMap (kidsAt T) ++ (K ++ (row.drop (i + 1)).flatMap (kidsAt T)))).take i).flatMap (kidsAt T) := by rw [← h1]
    rw [← e2]
    rw [show 1 + ((row.take i).flatMap (kidsAt T)).length + j = (((row.take i).flatMap (kidsAt T)).length + j) + 1 by omega, List.getElem?_cons_succ, List.getElem?_append_right (by omega), Nat.add_sub_cancel_left, List.getElem?_append_left hj]
    exact hK
/-- The node that is put for the row's i-th one. -/
def gNode (T : List Nd) (row : List Nat) (base i : Nat) : Nd :=
  { ndAt T ((row[i]?).getD 0) with kids := (List.range (ndAt T ((row[i]?).getD 0)).kids.length).map fun (j : Nat) => (base : Int) + ((row.length : Int) - 1) - ((endE T row i : Int) + (j : Int)) }
structure GInv (N T : List Nd) (row : List Nat) (m : Nat) (cur : List Nd) : Prop where
  le : m ≤ row.length
  len : cur.length = N.length + m
  pre : N <+: cur
  rep : ∀ q (h : q < row.length), row.length - m ≤ q → Rep cur (den T row[q]) (N.length + (row.length - 1 - q))
  grove : ∀ R, Grove N R → Grove cur (fun p => R p ∨ ∃ q, row.length - m ≤ q ∧ q < endE T row (row.length - m) ∧ q < row.length ∧ p = N.length + (row.length - 1 - q))
theorem GInv.start {N T : List Nd} {r : Nat} {row : List Nat} (h : BDone T r row) : GInv N T row 0 N := by
  refine ⟨Nat.zero_le _, by omega, List.prefix_refl _, fun q h1 h2 => by omega, fun R hR => hR.congr fun p => ⟨.inl, fun h => ?_⟩⟩
  rcases h with h | ⟨q, h1, _, h2, _⟩
  · exact h
  · omega
theorem kidsAt_len (T : List Nd) (i : Nat) : (kidsAt T i).length = (ndAt T i).kids.length := by rw [kidsAt_nd, List.length_map]
theorem GInv.step {N T cur : List Nd} {r m : Nat} {row : List Nat} (hok : ∀ i n, T[i]? = some n → ndOk i n = true) (hr : r < T.length) (hd : BDone T r row) (h : GInv N T row m cur) (hm : m < row.length) :
    GInv N T row (m + 1) (cur ++ [gNode T row N.length (row.length - 1 - m)]) := by
  obtain ⟨i, hi⟩ : ∃ i, i = row.length - 1 - m := ⟨_, rfl⟩
  have hil : i < row.length := by omega
  rw [← hi]
  have hx : row[i]? = some row[i] := List.getElem?_eq_getElem hil
  have hxT : row[i] < T.length := by have := hd.lt _ (List.getElem_mem hil); omega
  have hnd : T[row[i]]? = some (ndAt T row[i]) := by simp [ndAt, hxT]
  have hes := hd.es i hil
  have hah := hd.ahead i hil
  have hle := hd.le (i + 1) (by omega)
  have hkid := hd.kid i hil
  have hi1 : row.length - m = i + 1 := by omega
  have hi2 : row.length - (m + 1) = i := by omega
  have hkl := kidsAt_len T row[i]
  have hke := kidsAt_nd T row[i]
  have hA : Ahead T := fun i k hk => by
    simp only [kidsAt, List.mem_map] at hk
    obtain ⟨z, hz, rfl⟩ := hk
    cases e : T[i]? with
    | none => rw [e] at hz; simp at hz
    | some n =>
      rw [e] at hz
      have := hok i n e
      simp only [ndOk, Bool.and_eq_true, List.all_eq_true, decide_eq_true_eq] at this
      have := this.2 z (by simpa using hz)
      omega
  have hden := den_eq hA row[i]
  have hfit := ndOk_fit (hok _ _ hnd)
  have hg : gNode T row N.length i = { ndAt T row[i] with kids := (List.range (ndAt T row[i]).kids.length).map fun (j : Nat) => (N.length : Int) + ((row.length : Int) - 1) - ((endE T row i : Int) + (j : Int)) } := by
    unfold gNode; rw [hx]; rfl
  rw [hg]
  have hrep := h.rep
  have hlen := h.len
  refine ⟨by omega, by rw [List.length_append, hlen]; simp; omega, h.pre.trans (List.prefix_append _ _), fun q hq hqi => ?_, fun R hR => ?_⟩
  · rw [hi2] at hqi
    by_cases e : q = i
    · subst e
      rw [hden]
      refine rep_iff.2 ⟨{ ndAt T row[q] with kids := (List.range (ndAt T row[q]).kids.length).map fun (j : Nat) => (N.length : Int) + ((row.length : Int) - 1) - ((endE T row q : Int) + (j : Int)) }, ?_, rfl, by simp [hkl], fun j h1 h2 => ?_⟩
      · rw [List.getElem?_append_right (by omega), show N.length + (row.length - 1 - q) - cur.length = 0 by omega]; rfl
      · simp only [List.length_map, List.length_range] at h1
        simp only [List.getElem_map, List.getElem_range]
        have h3 : j < (kidsAt T row[q]).length := by omega
        have h4 := hkid j h3
        obtain ⟨h5, h6⟩ := List.getElem?_eq_some_iff.1 h4
        refine ⟨by omega, ?_⟩
        have h7 := hrep (endE T row q + j) h5 (by omega)
        rw [h6] at h7
        rw [show ((N.length : Int) + ((row.length : Int) - 1) - ((endE T row q : Int) + (j : Int))).toNat = N.length + (row.length - 1 - (endE T row q + j)) by omega]
        exact h7.append
    · exact (hrep q hq (by omega)).append
  · have hG := h.grove R hR
    rw [hi1] at hG
    have hp := hG.push (n := { ndAt T row[i] with kids := (List.range (ndAt T row[i]).kids.length).map fun (j : Nat) => (N.length : Int) + ((row.length : Int) - 1) - ((endE T row i : Int) + (j : Int)) })
      (by rw [fitN_kids]; simp only [List.length_map, List.length_range]; exact hfit)
      (fun k hk => by
        obtain ⟨j, hj, rfl⟩ := List.mem_map.1 hk
        rw [List.mem_range] at hj
        refine ⟨by omega, .inr ⟨endE T row i + j, by omega, by omega, by omega, by omega⟩⟩)
      (by
        refine List.pairwise_map.2 (List.Pairwise.imp ?_ List.nodup_range)
        intro a b hab e
        exact hab (by omega))
    refine hp.congr fun p => ?_
    rw [hi2]
    constructor
    · rintro (rfl | ⟨h1 | ⟨q, h1, h2, h3, rfl⟩, hnk⟩)
      · exact .inr ⟨i, Nat.le_refl _, by omega, by omega, by omega⟩
      · exact .inl h1
      · refine .inr ⟨q, by omega, ?_, h3, rfl⟩
        refine Nat.lt_of_not_le fun hle' => hnk ?_
        refine List.mem_map.2 ⟨q - endE T row i, List.mem_range.2 (by omega), by omega⟩
    · rintro (h1 | ⟨q, h1, h2, h3, rfl⟩)
      · refine .inr ⟨.inl h1, fun hmem => ?_⟩
        have h4 := hR.lt p h1
        obtain ⟨j, hj, e⟩ := List.mem_map.1 hmem
        rw [List.mem_range] at hj
        omega
      · by_cases e : q = i
        · subst e; exact .inl (by omega)
        · refine .inr ⟨.inr ⟨q, by omega, by omega, h3, rfl⟩, fun hmem => ?_⟩
          obtain ⟨j, hj, e⟩ := List.mem_map.1 hmem
          rw [List.mem_range] at hj
          omega
/-- What path.graft leaves. -/
def Grafted (N T : List Nd) (r : Nat) (N' : List Nd) : Prop := N <+: N' ∧ N'.length = N.length + (postN T r).length ∧ Rep N' (den T r) (N'.length - 1) ∧ ∀ R, Grove N R → Grove N' (fun p => R p ∨ p = N'.length - 1)
theorem GInv.done {N T cur : List Nd} {r : Nat} {row : List Nat} (hd : BDone T r row) (h : GInv N T row row.length cur) : Grafted N T r cur := by
  obtain ⟨h0, e0⟩ := hd.first
  have hl := h.len
  refine ⟨h.pre, by rw [hl, hd.len], ?_, fun R hR => (h.grove R hR).congr fun p => ?_⟩
  · have h1 := h.rep 0 h0 (by omega)
    rw [e0] at h1
    rw [show cur.length - 1 = N.length + (row.length - 1 - 0) by omega]; exact h1
  · rw [Nat.sub_self, hd.e0]
    constructor
    · rintro (h1 | ⟨q, _, h2, _, rfl⟩)
      · exact .inl h1
      · exact .inr (by omega)
    · rintro (h1 | rfl)
      · exact .inl h1
      · exact .inr ⟨0, Nat.le_refl _, by omega, h0, by omega⟩
end Go.Proofs.YtmjkgnknfgoadaaGreatDoor

/- The contracts of path.down and path.last. -/
namespace Go.Proofs.YtmjkgnknfgoadaaGreatDoor
open Go.RowKit
set_option linter.unusedSimpArgs false
set_option linter.unusedVariables false

theorem goDown_depth {l : List Nd} (hA : Ahead l) : ∀ (p : List Int) (k : Nat) (r : List (Nat × Nat) × Nat), goDown l k p = some r → r.1.length + r.2 ≤ k
  | [], k, r, h => by simp only [goDown, Option.some.injEq] at h; subst h; simp
  | z :: p, k, r, h => by
    simp only [goDown] at h
    split at h
    · obtain ⟨c, hc, h⟩ := Option.bind_eq_some_iff.1 h
      obtain ⟨s, hs, rfl⟩ := Option.map_eq_some_iff.1 h
      have h1 := goDown_depth hA p c s hs
      have h2 := hA k c (List.mem_of_getElem? hc)
      simp only [List.length_cons]; omega
    · cases h
/-- The cells of a row of nodes, each with a kid's place. -/
def abAll : List (Nat × Nat) → List Value
  | [] => []
  | a :: l => .int .i64 (a.1 : Int) :: .int .i64 (a.2 : Int) :: abAll l
theorem abAll_append : ∀ a b, abAll (a ++ b) = abAll a ++ abAll b
  | [], _ => rfl
  | x :: a, b => by simp only [List.cons_append, abAll, abAll_append a b]
theorem abAll_length : ∀ a, (abAll a).length = a.length * 2
  | [] => rfl
  | x :: a => by simp only [abAll, List.length_cons, abAll_length a]; omega
theorem infoAbove : (Tryz.prog.info? 161).map (fun i => (i.zero, i.size, i.bytes)) = some (some (.agg #[.int .i64 0, .int .i64 0]), 2, 16) := by kernel_rfl
def DownPost (l : List Nd) (root : Nat) (p : List Int) (w : World) (e : Ending) (w' : World) : Prop :=
  (∀ r, goDown l root p = some r → ∃ V c, e = .returned (.tuple #[.slice V r.1.length c, .int .i64 r.2, .bool true]) ∧ OwnS w' (w.heap.size ≤ ·) 161 2 V r.1.length c (abAll r.1) ∧ Below w.heap.size w w') ∧
  (goDown l root p = none → e = .returned (.tuple #[.slice none 0 0, .int .i64 0, .bool false]) ∧ Below w.heap.size w w')
def DownRel (W : World) (l : List Nd) (root : Nat) (p : List Int) (H : Nat) (v7 v8 v16 : Value) (wr : World) : Prop :=
  ∃ (j : Nat) (a : List (Nat × Nat)) (k : Nat) (V : Option Addr) (c : Nat), j ≤ p.length ∧ v16 = .int .i64 (j : Int) ∧ v8 = .int .i64 (k : Int) ∧ v7 = .slice V a.length c ∧ Hid (goDown l root (p.take j) = some (a, k)) ∧
    Hid (wr.ownsRow (H + 1) 161 2 (.slice V a.length c) a.length (abAll a)) ∧ Hid (Below (H + 1) W wr) ∧ Hid (H + 1 ≤ wr.heap.size)
set_option maxRecDepth 100000 in
set_option maxHeartbeats 3200000 in
theorem down_any (A : Option Addr) (c : Nat) (ls : List Ln) (root : Nat) (PA : Option Addr) (pc : Nat) (p : List Int) (S S' : Nat → Prop) (w : World) (hT : ndL.row w S A ls) (hP : intL.row w S' PA p) (hZ : AheadZ (ls.map Ln.nd)) (hr : root < ls.length) (hl : ls.length ≤ 4294967296) (hpl : p.length ≤ 4611686018427387904) :
    Calls Tryz.prog 91 #[.agg #[.slice A ls.length c, .int .i64 root], .slice PA p.length pc] w (DownPost (ls.map Ln.nd) root p w) := by
  obtain ⟨i0, hi, hz0, hz1, hz2⟩ := info_parts infoAbove
  have hzc : (Value.agg #[.int .i64 0, .int .i64 0]).cells.size = 2 := rfl
  have HT := Lib.hid hT; have HP := Lib.hid hP; have HZ := Lib.hid hZ; clear hT hP hZ
  have HBX := Lib.hid (bx_new w (.cells #[.slice A ls.length c, .int .i64 root] 48))
  have HB0 := Lib.hid (bx1 w (.cells #[.slice A ls.length c, .int .i64 root] 48))
  have HW0 := Lib.hid (show (w.alloc (.cells #[.slice A ls.length c, .int .i64 root] 48)).heap.size = w.heap.size + 1 from by simp)
  obtain ⟨k0, k1, k2, k3⟩ := blk2 HBX.out
  go_enter Tryz.func91, Tryz.ntmps91
  go_upto_region 4 with (fail)
  generalize w.alloc (.cells #[.slice A ls.length c, .int .i64 root] 48) = W at *
  clear k0 k1 k2 k3
  go_loopw [7, 8, 16] (fun v7 v8 v16 wr => DownRel W (ls.map Ln.nd) root p w.heap.size v7 v8 v16 wr) (fun _ _ v16 _ => p.length - (intOf v16).toNat)
  case atStart => exact ⟨0, [], root, none, 0, Nat.zero_le _, rfl, rfl, rfl, Lib.hid rfl, Lib.hid (World.ownsRow_nil _ _ _ _), Lib.hid (Below.refl _ _), Lib.hid (by have := HW0.out; omega)⟩
  case round =>
    obtain ⟨wo, rfl⟩ : ∃ wo : World, wo = wr := ⟨_, rfl⟩
    obtain ⟨j, a, k, V, vc, hj, rfl, rfl, rfl, HD, HO, HB, HWS⟩ := hrel
    have HBw := Lib.hid (show Below w.heap.size w wo from HB0.out.trans (HB.out.mono (Nat.le_succ _)))
    have hKB := (HB.out.block w.heap.size (Nat.lt_succ_self _)).trans HBX.out
    obtain ⟨k0, k1, k2, k3⟩ := blk2 hKB
    clear hKB
    have hA : Ahead (ls.map Ln.nd) := HZ.out.ahead
    have hkl := (goDown_lt hA _ _ _ HD.out).1
    have hdep := goDown_depth hA _ _ _ HD.out
    simp only at hkl hdep
    clear hA
    by_cases hjl : j < p.length
    · obtain ⟨zb, zo, hzA, _, _, z0⟩ := intRow (HP.out.agree (below_all HBw.out)) j hjl
      have HTK := Lib.hid (show p.take (j + 1) = p.take j ++ [p[j]] from List.take_succ_eq_append_getElem hjl)
      have HTD := Lib.hid (show p = p.take j ++ p[j] :: p.drop (j + 1) from by rw [← List.drop_eq_getElem_cons hjl, List.take_append_drop])
      generalize p[j] = z at *
      have i1 : (j : Int) < (p.length : Int) := by omega
      have i2 : (0 : Int) ≤ (j : Int) := by omega
      have hk : k < ls.length := by omega
      obtain ⟨ab, ao, hab, _, hab2, x0, x1, x2, x3, x4, x5, x6, x7, x8⟩ := ndRow (HT.out.below HBw.out) k hk
      have HKA := Lib.hid (show kidsAt (ls.map Ln.nd) k = ls[k].nd.kids.map Int.toNat from by simp [kidsAt, hk])
      have HKZ := Lib.hid (show ∀ q ∈ ls[k].nd.kids, 0 ≤ q ∧ q < (k : Int) from fun q hq => HZ.out k ls[k].nd (by simp [hk]) q hq)
      have HKR := Lib.hid (ndSub HT.out k hk)
      generalize ls[k] = x at *
      clear x0 x1 x2 x3 x4 x5 x6 x7
      have i3 : (k : Int) < (ls.length : Int) := by omega
      have i4 : (0 : Int) ≤ (k : Int) := by omega
      subst hab
      subst hzA
      by_cases hz : z < 0
      · have HN := Lib.hid (show goDown (ls.map Ln.nd) root p = none from by rw [HTD.out]; exact goDown_stop HD.out (.inl hz) _)
        go_wp2_with fail
        refine bodyPost_ret (v := .tuple #[.slice none 0 0, .int .i64 0, .bool false]) (by simp [results, Tryz.results91, go_sem]) rfl ?_
        exact ⟨fun r hr => (by rw [HN.out] at hr; cases hr), fun _ => ⟨rfl, HBw.out⟩⟩
      · have hz' : 0 ≤ z := by omega
        by_cases hzk : (x.nd.kids.length : Int) ≤ z
        · have HN := Lib.hid (show goDown (ls.map Ln.nd) root p = none from by rw [HTD.out]; exact goDown_stop HD.out (.inr (by rw [HKA.out, List.length_map]; omega)) _)
          go_wp2_with fail
          refine bodyPost_ret (v := .tuple #[.slice none 0 0, .int .i64 0, .bool false]) (by simp [results, Tryz.results91, go_sem]) rfl ?_
          exact ⟨fun r hr => (by rw [HN.out] at hr; cases hr), fun _ => ⟨rfl, HBw.out⟩⟩
        · obtain ⟨zn, rfl⟩ := Int.eq_ofNat_of_zero_le hz'
          have hzn : zn < x.nd.kids.length := by omega
          have HN := Lib.hid (show goDown (ls.map Ln.nd) root (p.take (j + 1)) = some (a ++ [(k, zn)], (x.nd.kids[zn]).toNat) from by
            rw [HTK.out]
            exact goDown_snoc (r := (a, k)) HD.out hz' (by show (kidsAt _ k)[_]? = _; rw [HKA.out]; simp [hzn]))
          have hq := HKZ.out x.nd.kids[zn] (List.getElem_mem hzn)
          obtain ⟨kb, ko, hkA, _, hkb, y0⟩ := intRow HKR.out zn hzn
          have HHK := Lib.hid (show ∀ w', Below w.heap.size w w' → w'.cell? ⟨kb, ko + zn, none⟩ = some (.int .i64 x.nd.kids[zn]) from fun w' h => (h.cell (p := ⟨kb, ko + zn, none⟩) hkb).trans y0)
          generalize x.nd.kids[zn] = q at *
          obtain ⟨qn, rfl⟩ := Int.eq_ofNat_of_zero_le hq.1
          simp only [Int.toNat_natCast] at HN
          have i5 : ¬ ((x.nd.kids.length : Int) ≤ (zn : Int)) := by omega
          have i6 : (zn : Int) < (x.nd.kids.length : Int) := by omega
          have i7 : (0 : Int) ≤ (zn : Int) := by omega
          have i8 : ¬ ((zn : Int) < 0) := by omega
          have F4 := Lib.hid (show a.length + 1 ≤ maxLen ∧ (a.length + 1) * 16 ≤ 140737488355328 ∧ w.heap.size + 1 ≤ (wo.alloc (.cells #[.int .i64 (k : Int), .int .i64 (zn : Int)] 161)).heap.size from ⟨by unfold maxLen; omega, by omega, by have := HWS.out; simp; omega⟩)
          clear y0
          rw [hkA] at x8
          clear hkA
          go_wp2_with (at_builtin; refine wpList_append_at _ rfl (.tmp 34) (.tmp 38) 131 rfl (w.heap.size + 1) 161 i0 (.agg #[.int .i64 0, .int .i64 0]) 2 16 Tryz.underlying131 hi hz0 hz1 hz2 hzc (by decide) V vc a.length (abAll a) rfl (World.ownsRow.alloc HO.out _) (some ⟨wo.heap.size, 0, none⟩) 1 1 [.int .i64 (k : Int), .int .i64 (zn : Int)] rfl rfl (row_blk (bx_new wo _)) (fun u hu => by simp only [List.mem_cons, List.not_mem_nil, or_false] at hu; rcases hu with rfl | rfl <;> rfl) F4.out.1 F4.out.2.1 F4.out.2.2 ?_; intro V' vc' w6 HO6 HG6 HA6; have HB6 := Lib.hid (show Below (w.heap.size + 1) wo w6 from ((Below.refl _ wo).alloc HWS.out _).trans (below_grownA (World.ownsRow.alloc HO.out _) HG6.out (Nat.le_refl _) F4.out.2.2)); have y1 := HHK.out w6 (HBw.out.trans (HB6.out.mono (Nat.le_succ _))))
          exact ⟨⟨j + 1, a ++ [(k, zn)], qn, V', vc', by omega, by go_num, rfl, by simp, HN, Lib.hid (by rw [abAll_append, List.length_append]; exact HO6.out), Lib.hid (HB.out.trans HB6.out), Lib.hid (by have := HG6.out.size; have := F4.out.2.2; omega)⟩, by simp [intOf]; omega⟩
    · obtain rfl : j = p.length := by omega
      have HN := HD.out
      rw [List.take_length] at HN
      have HN := Lib.hid HN
      have i1 : ¬ (p.length : Int) < (p.length : Int) := by omega
      go_wp2_with fail
      refine bodyPost_ret (v := .tuple #[.slice V a.length vc, .int .i64 k, .bool true]) (by simp [results, Tryz.results91, go_sem]) rfl ?_
      refine ⟨fun r hr => ?_, fun h => (by rw [HN.out] at h; cases h)⟩
      rw [HN.out] at hr
      cases hr
      exact ⟨V, vc, rfl, own_ownS (own_mono HO.out (Nat.le_succ _)), HBw.out⟩
end Go.Proofs.YtmjkgnknfgoadaaGreatDoor

/- The contracts of tree.Sub (of a right tree's node) and path.At. -/
namespace Go.Proofs.YtmjkgnknfgoadaaGreatDoor
open Go.RowKit
set_option linter.unusedSimpArgs false
set_option linter.unusedVariables false

def GotPost (t : Tr) (w : World) (e : Ending) (w' : World) : Prop := ∃ v : Lt, e = .returned (.tuple #[v.val, .bool true]) ∧ v.tr = t ∧ TreeOwn w' (w.heap.size ≤ ·) v ∧ Below w.heap.size w w'
def NotPost (w : World) (e : Ending) (w' : World) : Prop := e = .returned (.tuple #[.agg #[.slice none 0 0, .int .i64 0], .bool false]) ∧ Below w.heap.size w w'
/-- Two boxes: a tree, and room for one that is told. -/
theorem box2 (w : World) (x y : Value) :
    ((w.alloc (.cells #[x, y] 48)).alloc (.cells #[.slice none 0 0, .int .i64 0] 48)).heap[w.heap.size]? = some (.cells #[x, y] 48 (0, 0)) ∧ ((w.alloc (.cells #[x, y] 48)).alloc (.cells #[.slice none 0 0, .int .i64 0] 48)).heap[w.heap.size + 1]? = some (.cells #[.slice none 0 0, .int .i64 0] 48 (0, 0)) ∧
      ((w.alloc (.cells #[x, y] 48)).alloc (.cells #[.slice none 0 0, .int .i64 0] 48)).heap.size = w.heap.size + 2 := by
  refine ⟨bx_old (bx_new w _), ?_, by simp⟩
  have h := bx_new (w.alloc (.cells #[x, y] 48)) (.cells #[.slice none 0 0, .int .i64 0] 48)
  rw [World.size_alloc] at h; exact h
/-- What is stored in the second box. -/
theorem box_got {w w5 : World} {H : Nat} {v : Lt} {t : Tr} (hH : w.heap.size = H) (hb : Below H w w5) (hq : TreeOwn w5 (H + 2 ≤ ·) v) (ht : v.tr = t) :
    GotPost t w (.returned (.tuple #[v.val, .bool true])) ((w5.setCell ⟨H + 1, 0, none⟩ (.slice v.A v.ls.length v.c)).setCell ⟨H + 1, 1, none⟩ (.int .i64 v.root)) := by
  have hs : ∀ y, y ≠ H + 1 → ((w5.setCell ⟨H + 1, 0, none⟩ (.slice v.A v.ls.length v.c)).setCell ⟨H + 1, 1, none⟩ (.int .i64 v.root)).heap[y]? = w5.heap[y]? := fun y hy => (Below.heap_setCell _ _ _ _ hy).trans (Below.heap_setCell _ _ _ _ hy)
  subst hH
  exact ⟨v, rfl, ht, (hq.agree (fun y hy _ => hs y (by have hy : w.heap.size + 2 ≤ y := hy; omega))).mono (fun y _ hy => by have hy : w.heap.size + 2 ≤ y := hy; show w.heap.size ≤ y; omega),
    (hb.setCell (p := ⟨w.heap.size + 1, 0, none⟩) (Nat.le_succ _) _).setCell (p := ⟨w.heap.size + 1, 1, none⟩) (Nat.le_succ _) _⟩
set_option maxRecDepth 100000 in
set_option maxHeartbeats 3200000 in
theorem sub_ok (A : Option Addr) (c : Nat) (ls : List Ln) (root : Int) (node : Nat) (S : Nat → Prop) (w : World) (hT : ndL.row w S A ls) (hl : ls.length ≤ 4294967296) (hr : rightP ⟨ls.map Ln.nd, root⟩) (hn : node < ls.length) (ht : CntTab w) :
    Calls Tryz.prog 121 #[.agg #[.slice A ls.length c, .int .i64 root], .int .i64 node] w (GotPost (takenT ⟨ls.map Ln.nd, root⟩ node) w) := by
  have HT := Lib.hid hT; have HCT := Lib.hid ht; clear hT ht
  have HRG := Lib.hid (fun w' hT ht => right_any A c ls root S w' hT (by omega) ht)
  rw [(rightT_iff _).2 hr] at HRG
  have HTK := Lib.hid (fun w' hT => taken_any A c ls root node S w' hT hl hr hn)
  unfold TreePost at HTK
  have HB0 := Lib.hid (bx2 w (.cells #[.slice A ls.length c, .int .i64 root] 48) (.cells #[.slice none 0 0, .int .i64 0] 48))
  have HK0 := Lib.hid (box2 w (.slice A ls.length c) (.int .i64 root))
  have n1 : (node : Int) < (ls.length : Int) := by omega
  have n2 : (0 : Int) ≤ (node : Int) := by omega
  have n3 : ¬ ((node : Int) < 0) := by omega
  have n4 : ¬ ((ls.length : Int) ≤ (node : Int)) := by omega
  have n5 : ¬ (ls.length ≤ node) := by omega
  go_enter Tryz.func121, Tryz.ntmps121
  go_wp2_with (first
    | (go_at_call 86; refine (HRG.out _ (HT.out.below HB0.out) (HCT.out.below HB0.out)).mono ?_; rintro e w1 ⟨rfl, hb⟩; have HB1 := Lib.hid (Below.step HB0.out hb); have HK1 := Lib.hid (And.intro (bx_kept hb HK0.out.1) (bx_kept hb HK0.out.2.1)); have HZ1 := Lib.hid (show w.heap.size + 2 ≤ w1.heap.size from by have := hb.size; have := HK0.out.2.2; omega); clear hb; obtain ⟨k0, k1, k2, k3⟩ := blk2 HK1.out.1)
    | (go_at_call 112; refine (HTK.out _ (by exact HT.out.below HB1.out)).mono ?_; rintro e w5 ⟨v, rfl, h1, h2, h3⟩; have HQ1 := Lib.hid h1; have HQ2 := Lib.hid h2; have HQ3 := Lib.hid h3; have HK5 := Lib.hid (bx_kept h3 HK1.out.2); clear h1 h2 h3; obtain ⟨s0, s1, s2, s3⟩ := blk2 HK5.out)
    | fail)
  refine bodyPost_ret (v := .tuple #[v.val, .bool true]) (by simp [results, Tryz.results121, go_sem, s0, s1]) rfl ?_
  exact box_got rfl (Below.step HB1.out HQ3.out) (HQ2.out.mono fun y _ hy => Nat.le_trans HZ1.out hy) HQ1.out
/-- What stands at a path. -/
def atT (t : Tr) (p : List Int) : Option TT := if rightT t = true then atTT (den t.nodes t.root.toNat) p else none
def AtPost (t : Tr) (p : List Int) (w : World) (e : Ending) (w' : World) : Prop := (∀ y, atT t p = some y → GotPost (treeOf y) w e w') ∧ (atT t p = none → NotPost w e w')
set_option maxRecDepth 100000 in
set_option maxHeartbeats 3200000 in
theorem at_any (A : Option Addr) (c : Nat) (ls : List Ln) (root : Int) (PA : Option Addr) (pc : Nat) (p : List Int) (S S' : Nat → Prop) (w : World) (hT : ndL.row w S A ls) (hP : intL.row w S' PA p) (hl : ls.length ≤ 4294967296) (hpl : p.length ≤ 4611686018427387904) (ht : CntTab w) :
    Calls Tryz.prog 83 #[.agg #[.slice A ls.length c, .int .i64 root], .slice PA p.length pc] w (AtPost ⟨ls.map Ln.nd, root⟩ p w) := by
  have HT := Lib.hid hT; have HP := Lib.hid hP; have HCT := Lib.hid ht; clear hT hP ht
  have HRG := Lib.hid (fun w' hT ht => right_any A c ls root S w' hT (by omega) ht)
  have HB0 := Lib.hid (bx2 w (.cells #[.slice A ls.length c, .int .i64 root] 48) (.cells #[.slice none 0 0, .int .i64 0] 48))
  have HK0 := Lib.hid (box2 w (.slice A ls.length c) (.int .i64 root))
  rcases hr : rightT ⟨ls.map Ln.nd, root⟩ with _ | _
  · rw [hr] at HRG
    have HN := Lib.hid (show atT ⟨ls.map Ln.nd, root⟩ p = none from by unfold atT; rw [hr]; rfl)
    go_enter Tryz.func83, Tryz.ntmps83
    go_wp2_with (first
      | (go_at_call 86; refine (HRG.out _ (HT.out.below HB0.out) (HCT.out.below HB0.out)).mono ?_; rintro e w1 ⟨rfl, hb⟩; have HB1 := Lib.hid (Below.step HB0.out hb); have HK1 := Lib.hid (And.intro (bx_kept hb HK0.out.1) (bx_kept hb HK0.out.2.1)); clear hb; obtain ⟨k0, k1, k2, k3⟩ := blk2 HK1.out.2)
      | fail)
    have HB2 := Lib.hid ((HB1.out.setCell (p := ⟨w.heap.size + 1, 0, none⟩) (Nat.le_succ _) (.slice none 0 0)).setCell (p := ⟨w.heap.size + 1, 1, none⟩) (Nat.le_succ _) (.int .i64 0))
    refine bodyPost_ret (v := .tuple #[.agg #[.slice none 0 0, .int .i64 0], .bool false]) (by simp [results, Tryz.results83, go_sem, k0, k1]) rfl ?_
    exact ⟨fun y h => (by rw [HN.out] at h; cases h), fun _ => ⟨rfl, HB2.out⟩⟩
  · rw [hr] at HRG
    have HR := Lib.hid ((rightT_iff _).1 hr)
    have hroot := HR.out.1
    simp only [List.length_map] at hroot
    obtain ⟨ro, rfl⟩ := Int.eq_ofNat_of_zero_le hroot.1
    have hro : ro < ls.length := by omega
    have HZ := Lib.hid (right_aheadZ HR.out)
    have HDN := Lib.hid (fun w' hT hP => down_any A c ls ro PA pc p S S' w' hT hP HZ.out hro hl hpl)
    unfold DownPost at HDN
    have HAT := Lib.hid (show atT ⟨ls.map Ln.nd, (ro : Int)⟩ p = (goDown (ls.map Ln.nd) ro p).map (fun r => den (ls.map Ln.nd) r.2) from by
      unfold atT; rw [hr, if_pos rfl, goDown_at HZ.out.ahead]; rfl)
    have HLT := Lib.hid (fun r h => (goDown_lt HZ.out.ahead p ro r h).1)
    clear hr hroot
    rcases hd : goDown (ls.map Ln.nd) ro p with _ | r
    · rw [hd] at HAT
      go_enter Tryz.func83, Tryz.ntmps83
      go_wp2_with (first
        | (go_at_call 86; refine (HRG.out _ (HT.out.below HB0.out) (HCT.out.below HB0.out)).mono ?_; rintro e w1 ⟨rfl, hb⟩; have HB1 := Lib.hid (Below.step HB0.out hb); have HK1 := Lib.hid (And.intro (bx_kept hb HK0.out.1) (bx_kept hb HK0.out.2.1)); clear hb; obtain ⟨k0, k1, k2, k3⟩ := blk2 HK1.out.1)
        | (go_at_call 91; refine (HDN.out _ (by exact HT.out.below HB1.out) (by exact HP.out.agree (below_all HB1.out))).mono ?_; rintro e w3 hp; obtain ⟨rfl, hb⟩ := hp.2 hd; clear hp; have HB3 := Lib.hid (Below.step HB1.out hb); have HK3 := Lib.hid (bx_kept hb HK1.out.2); clear hb; obtain ⟨s0, s1, s2, s3⟩ := blk2 HK3.out)
        | fail)
      have HB4 := Lib.hid ((HB3.out.setCell (p := ⟨w.heap.size + 1, 0, none⟩) (Nat.le_succ _) (.slice none 0 0)).setCell (p := ⟨w.heap.size + 1, 1, none⟩) (Nat.le_succ _) (.int .i64 0))
      refine bodyPost_ret (v := .tuple #[.agg #[.slice none 0 0, .int .i64 0], .bool false]) (by simp [results, Tryz.results83, go_sem, s0, s1]) rfl ?_
      exact ⟨fun y h => (by rw [HAT.out] at h; cases h), fun _ => ⟨rfl, HB4.out⟩⟩
    · rw [hd] at HAT
      have hr2 : r.2 < ls.length := Nat.lt_of_le_of_lt (HLT.out r hd) hro
      have HSU := Lib.hid (fun w' hT ht => sub_ok A c ls ro r.2 S w' hT hl HR.out hr2 ht)
      rw [takenT_of HZ.out.ahead (post_nodup HR.out r.2 (by simpa using hr2))] at HSU
      unfold GotPost at HSU
      go_enter Tryz.func83, Tryz.ntmps83
      go_wp2_with (first
        | (go_at_call 86; refine (HRG.out _ (HT.out.below HB0.out) (HCT.out.below HB0.out)).mono ?_; rintro e w1 ⟨rfl, hb⟩; have HB1 := Lib.hid (Below.step HB0.out hb); have HK1 := Lib.hid (And.intro (bx_kept hb HK0.out.1) (bx_kept hb HK0.out.2.1)); have HZ1 := Lib.hid (show w.heap.size + 2 ≤ w1.heap.size from by have := hb.size; have := HK0.out.2.2; omega); clear hb; obtain ⟨k0, k1, k2, k3⟩ := blk2 HK1.out.1)
        | (go_at_call 91; refine (HDN.out _ (by exact HT.out.below HB1.out) (by exact HP.out.agree (below_all HB1.out))).mono ?_; rintro e w3 hp; obtain ⟨V, vc, rfl, _, hb⟩ := hp.1 r hd; clear hp; have HB3 := Lib.hid (Below.step HB1.out hb); have HK3 := Lib.hid (And.intro (bx_kept hb HK1.out.1) (bx_kept hb HK1.out.2)); have HZ3 := Lib.hid (show w.heap.size + 2 ≤ w3.heap.size from by have := hb.size; have := HZ1.out; omega); clear hb; obtain ⟨s0, s1, s2, s3⟩ := blk2 HK3.out.1)
        | (go_at_call 121; refine (HSU.out _ (by exact HT.out.below HB3.out) (by exact HCT.out.below HB3.out)).mono ?_; rintro e w5 ⟨v, rfl, h1, h2, h3⟩; have HQ1 := Lib.hid h1; have HQ2 := Lib.hid h2; have HQ3 := Lib.hid h3; have HK5 := Lib.hid (bx_kept h3 HK3.out.2); clear h1 h2 h3; obtain ⟨u0, u1, u2, u3⟩ := blk2 HK5.out)
        | fail)
      refine bodyPost_ret (v := .tuple #[v.val, .bool true]) (by simp [results, Tryz.results83, go_sem, u0, u1]) rfl ?_
      refine ⟨fun y h => ?_, fun h => (by rw [HAT.out] at h; cases h)⟩
      rw [HAT.out] at h
      cases h
      exact box_got rfl (Below.step HB3.out HQ3.out) (HQ2.out.mono fun y _ hy => Nat.le_trans HZ3.out hy) HQ1.out
end Go.Proofs.YtmjkgnknfgoadaaGreatDoor
