/- Plain: how many nodes a tree has. -/
import Derived.Test.YtmjkgnknfgoadaaGreatDoorAd
import Derived.Test.YtmjkgnknfgoadaaGreatDoorWc
namespace Go.Proofs.YtmjkgnknfgoadaaGreatDoor
set_option linter.unusedSimpArgs false
set_option linter.unusedVariables false

def szTT (x : TT) : Nat := (flatT x).length
def szs (l : List TT) : Nat := (l.map szTT).sum
theorem cat_length : ∀ (off : Nat) (T : List (List Nd)), (catN off T).length = (T.map List.length).sum
  | _, [] => rfl
  | off, t :: ts => by simp only [catN, List.length_append, List.length_map, cat_length (off + t.length) ts, List.map_cons, List.sum_cons]
theorem sz_mk (n : Nd) (ks : List TT) : szTT (.mk n ks) = szs ks + 1 := by
  unfold szTT szs
  rw [flatT_mk, List.length_append, cat_length, List.map_map]; rfl
theorem sz_cons (x : TT) (l : List TT) : szs (x :: l) = szTT x + szs l := by simp [szs]
theorem sz_app (a b : List TT) : szs (a ++ b) = szs a + szs b := by simp [szs]
theorem sz_flat {f : TT → List TT} : ∀ (l : List TT), (∀ x ∈ l, szs (f x) ≤ szTT x) → szs (l.flatMap f) ≤ szs l
  | [], _ => Nat.le_refl _
  | x :: l, h => by
    rw [List.flatMap_cons, sz_app, sz_cons]
    have h1 := h x List.mem_cons_self
    have h2 := sz_flat l fun y hy => h y (List.mem_cons_of_mem _ hy)
    omega
theorem sz_one (x : TT) : szs [x] = szTT x := by simp [szs]
theorem sz_open (kind : Int) (x : TT) : szs (openTT kind x) ≤ szTT x := by
  induction x using TT.ind with
  | h n ks ih =>
    rw [openTT_mk]
    split
    · have := sz_flat ks ih
      rw [sz_mk]; omega
    · split
      · exact Nat.zero_le _
      · rw [sz_one]; exact Nat.le_refl _
theorem sz_joined (n none : Nd) (l : List TT) : szTT (joined n none l) ≤ szs l + 1 := by
  match l with
  | [] => rw [joined, sz_mk]; exact Nat.le_refl _
  | [x] => rw [joined, sz_one]; omega
  | x :: y :: l => rw [joined, sz_mk]; exact Nat.le_refl _
theorem sz_map {f : TT → TT} : ∀ (l : List TT), (∀ x ∈ l, szTT (f x) ≤ szTT x) → szs (l.map f) ≤ szs l
  | [], _ => Nat.le_refl _
  | x :: l, h => by
    rw [List.map_cons, sz_cons, sz_cons]
    have h1 := h x List.mem_cons_self
    have h2 := sz_map l fun y hy => h y (List.mem_cons_of_mem _ hy)
    omega
/-- A tree made normal has no more nodes. -/
theorem sz_make (x : TT) : szTT (makeTT x) ≤ szTT x := by
  induction x using TT.ind with
  | h n ks ih =>
    have hm := sz_map ks ih
    rw [makeTT_mk, sz_mk]
    unfold joinTT
    split
    · have h1 := sz_joined n emptyN ((ks.map makeTT).flatMap (openTT 4))
      have h2 := sz_flat (ks.map makeTT) fun x _ => sz_open 4 x
      omega
    split
    · have h1 := sz_joined n setN ((ks.map makeTT).flatMap (openTT 5))
      have h2 := sz_flat (ks.map makeTT) fun x _ => sz_open 5 x
      omega
    · rw [sz_mk]; omega
theorem sz_set : ∀ (l : List TT) (i : Nat) (y : TT) (B : Nat), szTT y ≤ ((l[i]?).map szTT).getD 0 + B → szs (l.set i y) ≤ szs l + B
  | [], _, _, _, _ => by simp [szs]
  | x :: l, 0, y, B, h => by rw [List.set_cons_zero, sz_cons, sz_cons]; simp at h; omega
  | x :: l, i + 1, y, B, h => by
    rw [List.set_cons_succ, sz_cons, sz_cons]
    have := sz_set l i y B (by simpa using h)
    omega
theorem sz_put : ∀ (p : List Int) (x y z : TT), atTT x p = some z → szTT (putTT x p y) ≤ szTT x + szTT y
  | [], x, y, z, _ => Nat.le_add_left _ _
  | k :: p, x, y, z, h => by
    obtain ⟨_, u, h1, h2⟩ := atTT_cons h
    have ih := sz_put p u y z h2
    cases x with
    | mk n ks =>
      simp only [TT.kids] at h1
      simp only [putTT, TT.nd, TT.kids, h1, Option.getD_some]
      rw [sz_mk, sz_mk]
      have := sz_set ks k.toNat (putTT u p y) (szTT y) (by rw [h1]; simpa using ih)
      omega
theorem cat_mem : ∀ (off : Nat) (T : List (List Nd)) (n : Nd), n ∈ catN off T → ∃ t ∈ T, ∃ m ∈ t, n.kids.length = m.kids.length
  | _, [], n, h => by simp [catN] at h
  | off, t :: ts, n, h => by
    simp only [catN, List.mem_append] at h
    rcases h with h | h
    · obtain ⟨m, hm, rfl⟩ := List.mem_map.1 h
      exact ⟨t, List.mem_cons_self, m, hm, by simp [shiftN]⟩
    · obtain ⟨t', ht, m, hm, e⟩ := cat_mem _ ts n h
      exact ⟨t', List.mem_cons_of_mem _ ht, m, hm, e⟩
theorem sz_mem : ∀ (l : List TT) (x : TT), x ∈ l → szTT x ≤ szs l
  | y :: l, x, h => by
    rw [sz_cons]
    rcases List.mem_cons.1 h with rfl | h
    · omega
    · have := sz_mem l x h; omega
theorem sz_len (l : List TT) : l.length ≤ szs l := by
  induction l with
  | nil => exact Nat.zero_le _
  | cons x l ih => rw [sz_cons, List.length_cons]; have := flat_ne x; unfold szTT; omega
/-- No node has more kids than the tree has nodes. -/
theorem sz_kids (x : TT) : ∀ n ∈ flatT x, n.kids.length ≤ szTT x := by
  induction x using TT.ind with
  | h m ks ih =>
    intro n hn
    rw [flatT_mk] at hn
    rw [sz_mk]
    rcases List.mem_append.1 hn with hn | hn
    · obtain ⟨t, ht, n', hn', e⟩ := cat_mem _ _ _ hn
      obtain ⟨k, hk, rfl⟩ := List.mem_map.1 ht
      have h1 := ih k hk n' hn'
      have h2 := sz_mem ks k hk
      omega
    · simp only [List.mem_singleton] at hn
      subst hn
      have := sz_len ks
      show (endsN 0 (ks.map flatT)).length ≤ _
      rw [ends_length', List.length_map]; omega
theorem sz_den {t : Tr} (h : rightP t) : szTT (den t.nodes t.root.toNat) ≤ t.nodes.length := by
  have hr : t.root.toNat < t.nodes.length := by have := h.1; omega
  unfold szTT
  rw [← taken_flat (rightP_ahead h) _ (post_nodup h _ hr), taken_length]
  exact post_length h _ hr
end Go.Proofs.YtmjkgnknfgoadaaGreatDoor

/- All places of a tree, in their row: plain. -/
namespace Go.Proofs.YtmjkgnknfgoadaaGreatDoor
open Go.RowKit

mutual
/-- The paths of what stands in a tree, each behind a path, in their row. -/
def allTT : TT → List Int → List (List Int)
  | .mk _ ks, p => p :: allTTs ks 0 p
def allTTs : List TT → Nat → List Int → List (List Int)
  | [], _, _ => []
  | x :: xs, i, p => allTT x (p ++ [(i : Int)]) ++ allTTs xs (i + 1) p
end
theorem allTTs_app : ∀ (xs ys : List TT) (i : Nat) (p : List Int), allTTs (xs ++ ys) i p = allTTs xs i p ++ allTTs ys (i + xs.length) p
  | [], ys, i, p => by simp [allTTs]
  | x :: xs, ys, i, p => by
    rw [List.cons_append, allTTs, allTTs_app xs ys (i + 1) p, allTTs, List.append_assoc, List.length_cons, show i + 1 + xs.length = i + (xs.length + 1) by omega]
theorem allTTs_one (x : TT) (i : Nat) (p : List Int) : allTTs [x] i p = allTT x (p ++ [(i : Int)]) := by simp [allTTs]
mutual
theorem allTT_length : ∀ (x : TT) (p : List Int), (allTT x p).length = szTT x
  | .mk n ks, p => by rw [allTT, List.length_cons, allTTs_length ks 0 p, sz_mk]
theorem allTTs_length : ∀ (xs : List TT) (i : Nat) (p : List Int), (allTTs xs i p).length = szs xs
  | [], _, _ => by simp [allTTs, szs]
  | x :: xs, i, p => by rw [allTTs, List.length_append, allTT_length x, allTTs_length xs, sz_cons]
end
mutual
/-- Each of them is the path behind which they stand, with a path of the tree behind it. -/
theorem allTT_mem : ∀ (x : TT) (p q : List Int), q ∈ allTT x p → ∃ s y, q = p ++ s ∧ atTT x s = some y ∧ s.length < szTT x
  | .mk n ks, p, q, h => by
    rw [allTT] at h
    rcases List.mem_cons.1 h with rfl | h
    · exact ⟨[], .mk n ks, by simp, rfl, by rw [sz_mk]; simp⟩
    · obtain ⟨k, s, y, z, rfl, hk, hz, hs, hl⟩ := allTTs_mem ks 0 p q h
      refine ⟨(k : Int) :: s, y, by simp, ?_, ?_⟩
      · simp only [atTT]
        rw [if_pos (by omega), Int.toNat_natCast]
        simp only [TT.kids]
        rw [show ks[k]? = some z by simpa using hz]
        exact hs
      · rw [sz_mk, List.length_cons]; omega
theorem allTTs_mem : ∀ (xs : List TT) (i : Nat) (p q : List Int), q ∈ allTTs xs i p → ∃ (k : Nat) (s : List Int) (y z : TT), q = p ++ ((k : Int) :: s) ∧ i ≤ k ∧ xs[k - i]? = some z ∧ atTT z s = some y ∧ s.length < szs xs
  | [], _, _, _, h => by simp [allTTs] at h
  | x :: xs, i, p, q, h => by
    rw [allTTs] at h
    rcases List.mem_append.1 h with h | h
    · obtain ⟨s, y, rfl, hs, hl⟩ := allTT_mem x _ q h
      exact ⟨i, s, y, x, by simp, Nat.le_refl _, by simp, hs, by rw [sz_cons]; omega⟩
    · obtain ⟨k, s, y, z, rfl, hk, hz, hs, hl⟩ := allTTs_mem xs (i + 1) p q h
      refine ⟨k, s, y, z, rfl, by omega, ?_, hs, by rw [sz_cons]; omega⟩
      rw [show k - i = (k - (i + 1)) + 1 by omega, List.getElem?_cons_succ]; exact hz
end
theorem cmpL_app (p : List Int) (s t : List Int) : cmpL (p ++ s) (p ++ t) = cmpL s t := by
  induction p with
  | nil => rfl
  | cons x p ih => rw [List.cons_append, List.cons_append, cmpL, if_pos rfl, ih]
mutual
/-- They stand in their row. -/
theorem allTT_sorted : ∀ (x : TT) (p : List Int), (allTT x p).Pairwise fun a b => cmpL a b = -1
  | .mk n ks, p => by
    rw [allTT, List.pairwise_cons]
    refine ⟨fun q h => ?_, allTTs_sorted ks 0 p⟩
    obtain ⟨k, s, y, z, rfl, hk, hz, hs, hl⟩ := allTTs_mem ks 0 p q h
    have h := cmpL_app p [] ((k : Int) :: s)
    rw [List.append_nil] at h
    rw [h]; rfl
theorem allTTs_sorted : ∀ (xs : List TT) (i : Nat) (p : List Int), (allTTs xs i p).Pairwise fun a b => cmpL a b = -1
  | [], _, _ => by simp [allTTs]
  | x :: xs, i, p => by
    rw [allTTs, List.pairwise_append]
    refine ⟨allTT_sorted x _, allTTs_sorted xs (i + 1) p, fun a ha b hb => ?_⟩
    obtain ⟨s, y, rfl, hs, hl⟩ := allTT_mem x _ a ha
    obtain ⟨k, s', y', z, rfl, hk, hz, hs', hl'⟩ := allTTs_mem xs (i + 1) p b hb
    rw [List.append_assoc, cmpL_app, List.singleton_append, cmpL, if_neg (by omega)]
    exact if_pos (by omega)
end
end Go.Proofs.YtmjkgnknfgoadaaGreatDoor
