/- Plain: what stands at a node, clean, is put together of its kids'. -/
import Derived.Test.YtmjkgnknfgoadaaGreatDoorDk
import Derived.Test.YtmjkgnknfgoadaaGreatDoorDa
namespace Go.Proofs.YtmjkgnknfgoadaaGreatDoor
set_option linter.unusedSimpArgs false
set_option linter.unusedVariables false

def shiftN (off : Nat) (n : Nd) : Nd := { n with kids := n.kids.map (· + (off : Int)) }
def catN : Nat → List (List Nd) → List Nd
  | _, [] => []
  | off, t :: ts => t.map (shiftN off) ++ catN (off + t.length) ts
def endsN : Nat → List (List Nd) → List Int
  | _, [] => []
  | off, t :: ts => (((off + t.length : Nat) : Int) - 1) :: endsN (off + t.length) ts
def bareN (n : Nd) : Nd := { n with kids := [] }
theorem taken_length (l : List Nd) (i : Nat) : (takenL l i).length = (postN l i).length := by simp [takenL]
theorem idx_mid {pre q suf : List Nat} {z : Nat} (h : z ∉ pre) (hz : z ∈ q) : (pre ++ q ++ suf).idxOf z = pre.length + q.idxOf z := by
  rw [List.append_assoc, List.idxOf_append, if_neg h, List.idxOf_append, if_pos hz]; omega
theorem post_last {l : List Nd} (h : Ahead l) {k : Nat} (hn : (postN l k).Nodup) : (postN l k).idxOf k + 1 = (postN l k).length := by
  rw [postN_eq h] at hn ⊢
  have hk : k ∉ (kidsAt l k).flatMap (postN l) := fun hk => by
    rw [List.nodup_append] at hn
    exact hn.2.2 k hk k (by simp) rfl
  rw [List.idxOf_append, if_neg hk]
  simp
theorem post_kid {l : List Nd} (h : Ahead l) {k p z : Nat} (hp : p ∈ postN l k) (hz : z ∈ kidsAt l p) : z ∈ postN l k := by
  obtain ⟨a, b, e⟩ := List.append_of_mem hp
  have := kid_ahead h k a p b e z hz
  rw [e]; exact List.mem_append_left _ this
theorem kidsAt_nd (l : List Nd) (p : Nat) : kidsAt l p = (ndAt l p).kids.map Int.toNat := by
  unfold kidsAt ndAt
  cases l[p]? <;> simp
theorem split_kids {l : List Nd} (h : Ahead l) (P : List Nat) (hP : P.Nodup) : ∀ (ks pre suf : List Nat), P = pre ++ ks.flatMap (postN l) ++ suf →
    (ks.flatMap (postN l)).map (fun p => placed P (ndAt l p)) = catN pre.length (ks.map (takenL l)) ∧ (ks.map fun k => (P.idxOf k : Int)) = endsN pre.length (ks.map (takenL l))
  | [], pre, suf, _ => ⟨rfl, rfl⟩
  | k :: ks, pre, suf, e => by
    simp only [List.flatMap_cons] at e
    have e1 : P = pre ++ postN l k ++ (ks.flatMap (postN l) ++ suf) := by rw [e]; simp
    have e2 : P = (pre ++ postN l k) ++ ks.flatMap (postN l) ++ suf := by rw [e]; simp
    obtain ⟨h1, h2⟩ := split_kids h P hP ks (pre ++ postN l k) suf e2
    have hnd : (pre ++ postN l k).Nodup := by
      rw [e1, List.nodup_append] at hP; exact hP.1
    have hnk : (postN l k).Nodup := (List.nodup_append.1 hnd).2.1
    have hpre : ∀ z ∈ postN l k, z ∉ pre := fun z hz hz' => (List.nodup_append.1 hnd).2.2 z hz' z hz rfl
    have hidx : ∀ z ∈ postN l k, P.idxOf z = pre.length + (postN l k).idxOf z := fun z hz => by
      rw [e1]; exact idx_mid (hpre z hz) hz
    rw [List.length_append] at h1 h2
    constructor
    · simp only [List.flatMap_cons, List.map_append, List.map_cons, catN, taken_length, h1]
      congr 1
      rw [takenL, List.map_map]
      refine List.map_congr_left fun p hp => ?_
      simp only [Function.comp_apply, placed, shiftN, List.map_map]
      congr 1
      refine List.map_congr_left fun z hz => ?_
      have hz' : z.toNat ∈ kidsAt l p := by rw [kidsAt_nd]; exact List.mem_map_of_mem hz
      have := hidx z.toNat (post_kid h hp hz')
      simp only [Function.comp_apply, this]; omega
    · simp only [List.map_cons, endsN, taken_length, h2]
      congr 1
      have hk : k ∈ postN l k := by rw [postN_eq h]; simp
      have h3 := hidx k hk
      have h4 := post_last h hnk
      omega
theorem taken_split {l : List Nd} (h : Ahead l) {i : Nat} (hn : (postN l i).Nodup) :
    takenL l i = catN 0 ((kidsAt l i).map (takenL l)) ++ [{ ndAt l i with kids := endsN 0 ((kidsAt l i).map (takenL l)) }] := by
  have e := postN_eq h i
  obtain ⟨h1, h2⟩ := split_kids h (postN l i) hn (kidsAt l i) [] [i] (by simpa using e)
  simp only [List.length_nil] at h1 h2
  have h3 : (ndAt l i).kids.map (fun k => ((postN l i).idxOf k.toNat : Int)) = endsN 0 ((kidsAt l i).map (takenL l)) := by
    rw [← h2, kidsAt_nd, List.map_map]; rfl
  refine (congrArg (List.map fun p => placed (postN l i) (ndAt l p)) e).trans ?_
  rw [List.map_append, h1, ← h3]
  rfl
theorem shift_inj {off : Nat} {a b : Nd} (h : shiftN off a = shiftN off b) : a = b := by
  obtain ⟨k, s0, s1, s2, s3, t, mn, mx, ka⟩ := a
  obtain ⟨k', s0', s1', s2', s3', t', mn', mx', kb⟩ := b
  simp only [shiftN, Nd.mk.injEq] at h ⊢
  obtain ⟨h0, h1, h2, h3, h4, h5, h6, h7, h8⟩ := h
  refine ⟨h0, h1, h2, h3, h4, h5, h6, h7, ?_⟩
  exact (List.map_inj_right (fun x y hxy => by omega)).1 h8
theorem cat_inj : ∀ (off : Nat) (T U : List (List Nd)), endsN off T = endsN off U → catN off T = catN off U → T = U
  | _, [], [], _, _ => rfl
  | _, [], _ :: _, h, _ => by simp [endsN] at h
  | _, _ :: _, [], h, _ => by simp [endsN] at h
  | off, t :: T, u :: U, h, k => by
    simp only [endsN, List.cons.injEq] at h
    have hl : t.length = u.length := by have := h.1; omega
    simp only [catN] at k
    obtain ⟨k1, k2⟩ := List.append_inj k (by simp [hl])
    rw [hl] at h k2
    have h2 : t = u := (List.map_inj_right (fun x y hxy => shift_inj hxy)).1 k1
    rw [h2, cat_inj _ T U h.2 k2]
theorem taken_parts {l m : List Nd} (h : Ahead l) (k : Ahead m) {i j : Nat} (hn : (postN l i).Nodup) (hm : (postN m j).Nodup) (e : takenL l i = takenL m j) :
    bareN (ndAt l i) = bareN (ndAt m j) ∧ (kidsAt l i).map (takenL l) = (kidsAt m j).map (takenL m) := by
  rw [taken_split h hn, taken_split k hm] at e
  obtain ⟨e1, e2⟩ := List.append_inj' e rfl
  simp only [List.cons.injEq, and_true, Nd.mk.injEq] at e2
  obtain ⟨h0, h1, h2, h3, h4, h5, h6, h7, h8⟩ := e2
  refine ⟨?_, cat_inj 0 _ _ h8 e1⟩
  simp only [bareN, Nd.mk.injEq]
  exact ⟨h0, h1, h2, h3, h4, h5, h6, h7, trivial⟩
theorem taken_of_parts {l m : List Nd} (h : Ahead l) (k : Ahead m) {i j : Nat} (hn : (postN l i).Nodup) (hm : (postN m j).Nodup) (e1 : bareN (ndAt l i) = bareN (ndAt m j)) (e2 : (kidsAt l i).map (takenL l) = (kidsAt m j).map (takenL m)) :
    takenL l i = takenL m j := by
  rw [taken_split h hn, taken_split k hm, e2]
  congr 2
  simp only [bareN, Nd.mk.injEq] at e1 ⊢
  obtain ⟨h0, h1, h2, h3, h4, h5, h6, h7, _⟩ := e1
  exact ⟨h0, h1, h2, h3, h4, h5, h6, h7, trivial⟩
theorem map_pair {α β γ δ : Type} (f : α → γ) (g : β → γ) (F : α → δ) (G : β → δ) : ∀ (l : List α) (m : List β), l.map f = m.map g → (∀ a ∈ l, ∀ b ∈ m, f a = g b → F a = G b) → l.map F = m.map G
  | [], [], _, _ => rfl
  | [], _ :: _, h, _ => by simp at h
  | _ :: _, [], h, _ => by simp at h
  | a :: l, b :: m, h, k => by
    simp only [List.map_cons, List.cons.injEq] at h ⊢
    exact ⟨k a List.mem_cons_self b List.mem_cons_self h.1, map_pair f g F G l m h.2 fun x hx y hy => k x (List.mem_cons_of_mem _ hx) y (List.mem_cons_of_mem _ hy)⟩
/-- Of a node: none of its kids is to be opened. -/
def shutN (l : List Nd) (n : Nd) : Bool :=
  if n.kind = 4 ∨ n.kind = 5 then n.kids.all fun k => decide ((ndAt l k.toNat).kind ≠ n.kind ∧ ¬ ((ndAt l k.toNat).kind = 0 ∧ n.kind = 4)) else true
def normT (t : Tr) : Bool := rightT t && t.nodes.all (shutN t.nodes)
end Go.Proofs.YtmjkgnknfgoadaaGreatDoor
