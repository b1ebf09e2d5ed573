/- Plain: the arena of a tree that fits is right; what is made normal is normal. Plain: how many nodes a tree has, made normal and not. -/
import Derived.Test.YtpfokabdpmjobaaDoorAd
namespace Go.Proofs.YtpfokabdpmjobaaDoor
open Go.RowKit
set_option linter.unusedSimpArgs false
set_option linter.unusedVariables false
structure Grove (N : List Nd) (R : Nat → Prop) : Prop where
  lt : ∀ p, R p → p < N.length
  ok : ∀ i n, N[i]? = some n → ndOk i n = true
  root : ∀ p, R p → (kidsOf N).count (p : Int) = 0
  kid : ∀ p, p < N.length → ¬ R p → (kidsOf N).count (p : Int) = 1
theorem Grove.nil : Grove [] (fun _ => False) := ⟨fun _ h => h.elim, fun i n h => by simp at h, fun _ h => h.elim, fun p h => by simp at h⟩
theorem Grove.congr {N : List Nd} {R R' : Nat → Prop} (h : Grove N R) (e : ∀ p, R p ↔ R' p) : Grove N R' := (funext fun p => propext (e p) : R = R') ▸ h
theorem kidsOf_append (N M : List Nd) : kidsOf (N ++ M) = kidsOf N ++ kidsOf M := by simp [kidsOf]
theorem kidsOf_one (n : Nd) : kidsOf [n] = n.kids := by simp [kidsOf]
theorem Grove.far {N : List Nd} {R : Nat → Prop} (h : Grove N R) : (kidsOf N).count (N.length : Int) = 0 := by
  refine List.count_eq_zero.2 fun hm => ?_
  obtain ⟨n, hn, hk⟩ := List.mem_flatMap.1 hm
  obtain ⟨i, hi, rfl⟩ := List.mem_iff_getElem.1 hn
  have := h.ok i _ (List.getElem?_eq_getElem hi)
  simp only [ndOk, Bool.and_eq_true, List.all_eq_true, decide_eq_true_eq] at this
  have := (this.2 _ hk).2
  omega
theorem Grove.push {N : List Nd} {R : Nat → Prop} (h : Grove N R) {n : Nd} (hf : fitN n n.kids.length = true) (hk : ∀ k ∈ n.kids, 0 ≤ k ∧ R k.toNat) (hn : n.kids.Nodup) :
    Grove (N ++ [n]) (fun p => p = N.length ∨ (R p ∧ (p : Int) ∉ n.kids)) := by
  have hc : ∀ p : Nat, (kidsOf (N ++ [n])).count (p : Int) = (kidsOf N).count (p : Int) + n.kids.count (p : Int) := fun p => by rw [kidsOf_append, kidsOf_one, List.count_append]
  have h0 : n.kids.count (N.length : Int) = 0 := List.count_eq_zero.2 fun hm => by
    have := h.lt _ (hk _ hm).2
    simp at this
  refine ⟨fun p hp => ?_, fun i m hm => ?_, fun p hp => ?_, fun p hp hr => ?_⟩
  · rw [List.length_append]
    rcases hp with rfl | hp
    · simp
    · have := h.lt p hp.1; omega
  · by_cases hi : i < N.length
    · rw [List.getElem?_append_left hi] at hm; exact h.ok i m hm
    · have hl := (List.getElem?_eq_some_iff.1 hm).1
      simp only [List.length_append, List.length_singleton] at hl
      obtain rfl : i = N.length := by omega
      rw [List.getElem?_append_right (Nat.le_refl _), Nat.sub_self] at hm
      simp only [List.getElem?_cons_zero, Option.some.injEq] at hm
      subst hm
      simp only [ndOk, hf, Bool.true_and, List.all_eq_true, decide_eq_true_eq]
      intro k hk'
      have h1 := hk k hk'
      have := h.lt _ h1.2
      omega
  · rw [hc]
    rcases hp with rfl | hp
    · rw [h.far, h0]
    · rw [h.root p hp.1, List.count_eq_zero.2 hp.2]
  · rw [hc]
    by_cases e : p = N.length
    · exact absurd (.inl e) hr
    · have hp : p < N.length := by rw [List.length_append] at hp; simp at hp; omega
      by_cases hR : R p
      · have hm : (p : Int) ∈ n.kids := Decidable.byContradiction fun hx => hr (.inr ⟨hR, hx⟩)
        rw [h.root p hR, hn.count, if_pos hm]
      · rw [h.kid p hp hR, List.count_eq_zero.2 fun hm => hR (by simpa using (hk _ hm).2)]
theorem Grove.right {N : List Nd} {r : Nat} (h : Grove N (fun p => p = r)) : rightP ⟨N, (r : Int)⟩ := by
  have hl := h.lt r rfl
  refine ⟨⟨by show (0 : Int) ≤ r; omega, by show (r : Int) < _; exact_mod_cast hl⟩, h.ok, fun i hi => ?_⟩
  show (kidsOf N).count (i : Int) = if (i : Int) = (r : Int) then 0 else 1
  split
  · rename_i e; exact h.root i (by exact_mod_cast e)
  · rename_i e; exact h.kid i hi fun e' => e (by rw [e'])
theorem fitN_kids (n : Nd) (ks : List Int) (k : Int) : fitN { n with kids := ks } k = fitN n k := rfl
theorem ends_ge : ∀ (T : List (List Nd)) (off : Nat), (∀ t ∈ T, 1 ≤ t.length) → ∀ z ∈ endsN off T, (off : Int) ≤ z
  | [], _, _, z, h => by simp [endsN] at h
  | t :: ts, off, ht, z, h => by
    have h1 := ht t List.mem_cons_self
    simp only [endsN, List.mem_cons] at h
    rcases h with rfl | h
    · omega
    · have := ends_ge ts (off + t.length) (fun t h => ht t (List.mem_cons_of_mem _ h)) z h; omega
theorem ends_nodup : ∀ (T : List (List Nd)) (off : Nat), (∀ t ∈ T, 1 ≤ t.length) → (endsN off T).Nodup
  | [], _, _ => by simp [endsN]
  | t :: ts, off, ht => by
    have h1 := ht t List.mem_cons_self
    have h2 : ∀ t' ∈ ts, 1 ≤ t'.length := fun t h => ht t (List.mem_cons_of_mem _ h)
    simp only [endsN, List.nodup_cons]
    refine ⟨fun hm => ?_, ends_nodup ts _ h2⟩
    have := ends_ge ts (off + t.length) h2 _ hm; omega
theorem grove_cat : ∀ (ks : List TT) (N : List Nd) (R : Nat → Prop), (∀ x ∈ ks, ∀ M Q, Grove M Q → Grove (M ++ (flatT x).map (shiftN M.length)) (fun p => Q p ∨ p = M.length + ((flatT x).length - 1))) → Grove N R →
    Grove (N ++ catN N.length (ks.map flatT)) (fun p => R p ∨ (p : Int) ∈ endsN N.length (ks.map flatT))
  | [], N, R, _, h => by
    simp only [List.map_nil, catN, endsN, List.append_nil]
    exact h.congr fun p => by simp
  | x :: ks, N, R, hx, h => by
    have h1 := hx x List.mem_cons_self N R h
    have h2 := grove_cat ks _ _ (fun y hy => hx y (List.mem_cons_of_mem _ hy)) h1
    have hl := flat_ne x
    simp only [List.length_append, List.length_map, List.append_assoc] at h2
    simp only [List.map_cons, catN, endsN]
    refine h2.congr fun p => ?_
    simp only [List.mem_cons]
    constructor
    · rintro ((h3 | rfl) | h3)
      · exact .inl h3
      · exact .inr (.inl (by omega))
      · exact .inr (.inr h3)
    · rintro (h3 | h3 | h3)
      · exact .inl (.inl h3)
      · exact .inl (.inr (by omega))
      · exact .inr h3
theorem grove_flat {x : TT} : fitTT x → ∀ N R, Grove N R → Grove (N ++ (flatT x).map (shiftN N.length)) (fun p => R p ∨ p = N.length + ((flatT x).length - 1)) := by
  induction x using TT.ind with
  | h n ks ih =>
    intro hf N R h
    obtain ⟨⟨hk, hn⟩, hks⟩ := fitTT_mk.1 hf
    have h1 := grove_cat ks N R (fun y hy => ih y hy (hks y hy)) h
    have hne : ∀ t ∈ ks.map flatT, 1 ≤ t.length := fun t ht => by obtain ⟨y, _, rfl⟩ := List.mem_map.1 ht; exact flat_ne y
    have hl : (catN 0 (ks.map flatT)).length = (catN N.length (ks.map flatT)).length := by
      rw [show N.length = N.length + 0 by omega, ← cat_shift]; simp
    have hs : (flatT (.mk n ks)).map (shiftN N.length) = catN N.length (ks.map flatT) ++ [{ n with kids := endsN N.length (ks.map flatT) }] := by
      rw [flatT_mk, List.map_append, cat_shift, Nat.add_zero, List.map_singleton]
      congr 2
      show ({ n with kids := (endsN 0 (ks.map flatT)).map (· + (N.length : Int)) } : Nd) = _
      rw [ends_shift, Nat.add_zero]
    have hlen : (flatT (.mk n ks)).length = (catN N.length (ks.map flatT)).length + 1 := by rw [flatT_mk, List.length_append, hl]; rfl
    rw [hs, ← List.append_assoc]
    refine (h1.push (n := { n with kids := endsN N.length (ks.map flatT) }) (by rw [fitN_kids]; simp only [ends_length', List.length_map]; exact hn) (fun k hk' => ?_) (ends_nodup _ _ hne)).congr fun p => ?_
    · have := ends_ge _ _ hne k hk'
      refine ⟨by omega, .inr ?_⟩
      rw [show ((k.toNat : Nat) : Int) = k by omega]; exact hk'
    · rw [List.length_append, hlen]
      constructor
      · rintro (h2 | ⟨h2 | h2, h3⟩)
        · exact .inr (by omega)
        · exact .inl h2
        · exact absurd h2 h3
      · rintro (h2 | h2)
        · refine .inr ⟨.inl h2, fun h3 => ?_⟩
          have h4 := ends_ge _ _ hne _ h3
          have h5 := h.lt p h2
          omega
        · exact .inl (by omega)
theorem right_treeOf {x : TT} (h : fitTT x) : rightP (treeOf x) := by
  have h1 := grove_flat h [] _ Grove.nil
  have e : (flatT x).map (shiftN 0) = flatT x := by
    refine Eq.trans (List.map_congr_left fun n _ => ?_) (List.map_id _)
    cases n; simp [shiftN]
  simp only [List.nil_append, List.length_nil, e, Nat.zero_add] at h1
  have hl := flat_ne x
  have h2 := (h1.congr (R' := fun p => p = (flatT x).length - 1) fun p => by simp).right
  have e2 : treeOf x = ⟨flatT x, (((flatT x).length - 1 : Nat) : Int)⟩ := by unfold treeOf; congr 1; omega
  rw [e2]; exact h2
end Go.Proofs.YtpfokabdpmjobaaDoor
namespace Go.Proofs.YtpfokabdpmjobaaDoor
open Go.RowKit
set_option linter.unusedSimpArgs false
set_option linter.unusedVariables false
def szTT (x : TT) : Nat := (flatT x).length
def szs (l : List TT) : Nat := (l.map szTT).sum
theorem cat_length : ∀ (off : Nat) (T : List (List Nd)), (catN off T).length = (T.map List.length).sum
  | _, [] => rfl
  | off, t :: ts => by simp only [catN, List.length_append, List.length_map, cat_length (off + t.length) ts, List.map_cons, List.sum_cons]
theorem sz_mk (n : Nd) (ks : List TT) : szTT (.mk n ks) = szs ks + 1 := by
  unfold szTT szs
  rw [flatT_mk, List.length_append, cat_length, List.map_map]; rfl
theorem sz_cons (x : TT) (l : List TT) : szs (x :: l) = szTT x + szs l := by simp [szs]
theorem sz_app (a b : List TT) : szs (a ++ b) = szs a + szs b := by simp [szs]
theorem sz_flat {f : TT → List TT} : ∀ (l : List TT), (∀ x ∈ l, szs (f x) ≤ szTT x) → szs (l.flatMap f) ≤ szs l
  | [], _ => Nat.le_refl _
  | x :: l, h => by
    rw [List.flatMap_cons, sz_app, sz_cons]
    have h1 := h x List.mem_cons_self
    have h2 := sz_flat l fun y hy => h y (List.mem_cons_of_mem _ hy)
    omega
theorem sz_one (x : TT) : szs [x] = szTT x := by simp [szs]
theorem sz_open (kind : Int) (x : TT) : szs (openTT kind x) ≤ szTT x := by
  induction x using TT.ind with
  | h n ks ih =>
    rw [openTT_mk]
    split
    · have := sz_flat ks ih
      rw [sz_mk]; omega
    · split
      · exact Nat.zero_le _
      · rw [sz_one]; exact Nat.le_refl _
theorem sz_joined (n none : Nd) (l : List TT) : szTT (joined n none l) ≤ szs l + 1 := by
  match l with
  | [] => rw [joined, sz_mk]; exact Nat.le_refl _
  | [x] => rw [joined, sz_one]; omega
  | x :: y :: l => rw [joined, sz_mk]; exact Nat.le_refl _
theorem sz_map {f : TT → TT} : ∀ (l : List TT), (∀ x ∈ l, szTT (f x) ≤ szTT x) → szs (l.map f) ≤ szs l
  | [], _ => Nat.le_refl _
  | x :: l, h => by
    rw [List.map_cons, sz_cons, sz_cons]
    have h1 := h x List.mem_cons_self
    have h2 := sz_map l fun y hy => h y (List.mem_cons_of_mem _ hy)
    omega
theorem sz_make (x : TT) : szTT (makeTT x) ≤ szTT x := by
  induction x using TT.ind with
  | h n ks ih =>
    have hm := sz_map ks ih
    rw [makeTT_mk, sz_mk]
    unfold joinTT
    split
    · have h1 := sz_joined n emptyN ((ks.map makeTT).flatMap (openTT 4))
      have h2 := sz_flat (ks.map makeTT) fun x _ => sz_open 4 x
      omega
    split
    · have h1 := sz_joined n setN ((ks.map makeTT).flatMap (openTT 5))
      have h2 := sz_flat (ks.map makeTT) fun x _ => sz_open 5 x
      omega
    · rw [sz_mk]; omega
theorem sz_den {t : Tr} (h : rightP t) : szTT (den t.nodes t.root.toNat) ≤ t.nodes.length := by
  have hr : t.root.toNat < t.nodes.length := by have := h.1; omega
  unfold szTT
  rw [← taken_flat (rightP_ahead h) _ (post_nodup h _ hr), taken_length]
  exact post_length h _ hr
end Go.Proofs.YtpfokabdpmjobaaDoor
