/- Plain: what path.up appends. -/
import Derived.Test.YtfncfmiccomgcaaDoorAl
namespace Go.Proofs.YtfncfmiccomgcaaDoor
set_option linter.unusedSimpArgs false
set_option linter.unusedVariables false

theorem goDown_last {l : List Nd} {k : Nat} {p : List Int} {A : List (Nat × Nat)} {a : Nat × Nat} {c : Nat} (h : goDown l k p = some (A ++ [a], c)) : ∃ q z, p = q ++ [z] ∧ goDown l k q = some (A, a.1) ∧ (kidsAt l a.1)[a.2]? = some c := by
  rcases List.eq_nil_or_concat p with rfl | ⟨q, z, rfl⟩
  · simp [goDown] at h
  · rw [List.concat_eq_append] at *
    rw [goDown_append] at h
    obtain ⟨r, hr, h⟩ := Option.bind_eq_some_iff.1 h
    obtain ⟨s, hs, h⟩ := Option.map_eq_some_iff.1 h
    simp only [goDown] at hs
    split at hs
    · obtain ⟨c', hc, hs⟩ := Option.bind_eq_some_iff.1 hs
      simp only [Option.map_some, Option.some.injEq] at hs
      subst hs
      simp only [Prod.mk.injEq] at h
      obtain ⟨h1, h2⟩ := h
      obtain ⟨h3, h4⟩ := List.append_inj' h1 rfl
      simp only [List.cons.injEq, and_true] at h4
      subst h3 h4 h2
      exact ⟨q, z, rfl, hr, hc⟩
    · cases hs
theorem put_snoc {l : List Nd} (hA : Ahead l) {k : Nat} {q : List Int} {z : Int} {A : List (Nat × Nat)} {a : Nat × Nat} {c : Nat} {y : TT} (h : goDown l k (q ++ [z]) = some (A ++ [a], c)) (hq : goDown l k q = some (A, a.1)) :
    putTT (den l k) (q ++ [z]) y = putTT (den l k) q (.mk (bareN (ndAt l a.1)) (((kidsAt l a.1).map (den l)).set a.2 y)) := by
  rw [← plug_put hA _ _ _ _ h, ← plug_put hA _ _ _ _ hq]
  exact plug_snoc l a y A
structure UInv (T : List Nd) (ks : List Nat) (kid : Nat) (N0 : List Nd) (rt : Nat) (y : TT) (i : Nat) (N : List Nd) (P : Nat → Nat) : Prop where
  le : i ≤ ks.length
  pre : N0 <+: N
  rep : ∀ q (h : q < ks.length), q < i → Rep N (if q = kid then y else den T ks[q]) (P q)
  there : kid < i → P kid = rt
  ne : ∀ q, q < i → q ≠ kid → P q ≠ rt
  inj : ∀ q q', q < q' → q' < i → P q ≠ P q'
  grove : Grove N (fun p => p = rt ∨ ∃ q, q < i ∧ p = P q)
  len : N.length + ((ks.drop i).flatMap (postN T)).length + (if kid < i then (postN T (ks[kid]?.getD 0)).length else 0) = N0.length + (ks.flatMap (postN T)).length
theorem UInv.start {T : List Nd} {ks : List Nat} {kid : Nat} {N0 : List Nd} {rt : Nat} {y : TT} (h : Grove N0 (fun p => p = rt)) (P : Nat → Nat) : UInv T ks kid N0 rt y 0 N0 P :=
  ⟨Nat.zero_le _, List.prefix_refl _, fun q _ h => by omega, fun h => by omega, fun q h => by omega, fun q q' _ h => by omega, h.congr fun p => ⟨.inl, fun h => h.elim id fun ⟨q, h, _⟩ => by omega⟩, by simp⟩
theorem UInv.here {T : List Nd} {ks : List Nat} {kid : Nat} {N0 N : List Nd} {rt : Nat} {y : TT} {P : Nat → Nat} (h : UInv T ks kid N0 rt y kid N P) (hk : kid < ks.length) (hy : Rep N0 y rt) :
    UInv T ks kid N0 rt y (kid + 1) N (fun q => if q = kid then rt else P q) := by
  have hyN : Rep N y rt := by obtain ⟨s, rfl⟩ := h.pre; exact hy.append
  refine ⟨hk, h.pre, fun q hq hqi => ?_, fun _ => by simp, fun q hq hne => ?_, fun q q' hqq hq' => ?_, h.grove.congr fun p => ?_, ?_⟩
  · by_cases e : q = kid
    · subst e; simpa using hyN
    · have := h.rep q hq (by omega)
      simp only [if_neg e] at this ⊢; exact this
  · simp only [if_neg hne]; exact h.ne q (by omega) hne
  · by_cases e : q' = kid
    · subst e
      simp only [if_neg (show q ≠ q' by omega), if_true]
      exact h.ne q (by omega) (by omega)
    · simp only [if_neg e, if_neg (show q ≠ kid by omega)]
      exact h.inj q q' hqq (by omega)
  · constructor
    · rintro (h1 | ⟨q, hq, rfl⟩)
      · exact .inl h1
      · exact .inr ⟨q, by omega, by rw [if_neg (by omega)]⟩
    · rintro (h1 | ⟨q, hq, rfl⟩)
      · exact .inl h1
      · by_cases e : q = kid
        · subst e; exact .inl (by simp)
        · exact .inr ⟨q, by omega, by rw [if_neg e]⟩
  · have h1 := h.len
    rw [if_neg (Nat.lt_irrefl _), List.drop_eq_getElem_cons hk, List.flatMap_cons, List.length_append] at h1
    rw [if_pos (Nat.lt_succ_self _), List.getElem?_eq_getElem hk, Option.getD_some]
    omega
theorem UInv.graft {T : List Nd} {ks : List Nat} {kid i : Nat} {N0 N N' : List Nd} {rt : Nat} {y : TT} {P : Nat → Nat} (h : UInv T ks kid N0 rt y i N P) (hi : i < ks.length) (hne : i ≠ kid) (hg : Grafted N T ks[i] N') :
    UInv T ks kid N0 rt y (i + 1) N' (fun q => if q = i then N'.length - 1 else P q) := by
  obtain ⟨hp, hl, hr, hG⟩ := hg
  have hpos := postN_ne T ks[i]
  have hlt : ∀ q, q < i → P q < N.length := fun q hq => h.grove.lt _ (.inr ⟨q, hq, rfl⟩)
  have hrt : rt < N.length := h.grove.lt _ (.inl rfl)
  refine ⟨hi, h.pre.trans hp, fun q hq hqi => ?_, fun hk => ?_, fun q hq hqk => ?_, fun q q' hqq hq' => ?_, (hG _ h.grove).congr fun p => ?_, ?_⟩
  · by_cases e : q = i
    · subst e; simp only [if_true, if_neg hne]; exact hr
    · have := h.rep q hq (by omega)
      simp only [if_neg e]
      obtain ⟨s, rfl⟩ := hp
      exact this.append
  · simp only [if_neg (Ne.symm hne)]
    exact h.there (by omega)
  · by_cases e : q = i
    · subst e; simp only [if_true]; omega
    · simp only [if_neg e]; exact h.ne q (by omega) hqk
  · by_cases e : q' = i
    · subst e
      simp only [if_neg (show q ≠ q' by omega), if_true]
      have := hlt q (by omega); omega
    · simp only [if_neg e, if_neg (show q ≠ i by omega)]
      exact h.inj q q' hqq (by omega)
  · constructor
    · rintro ((h1 | ⟨q, hq, rfl⟩) | rfl)
      · exact .inl h1
      · exact .inr ⟨q, by omega, by rw [if_neg (by omega)]⟩
      · exact .inr ⟨i, by omega, by simp⟩
    · rintro (h1 | ⟨q, hq, rfl⟩)
      · exact .inl (.inl h1)
      · by_cases e : q = i
        · subst e; exact .inr (by simp)
        · exact .inl (.inr ⟨q, by omega, by rw [if_neg e]⟩)
  · have h1 := h.len
    rw [List.drop_eq_getElem_cons hi, List.flatMap_cons, List.length_append] at h1
    have e : (kid < i + 1) = (kid < i) := by apply propext; omega
    simp only [e]
    omega
/-- The kids that are told at the end. -/
def upKids (n : Nat) (P : Nat → Nat) : List Int := (List.range n).map fun q => (P q : Int)
theorem UInv.done {T : List Nd} {node kid : Nat} {N0 N : List Nd} {rt : Nat} {y : TT} {P : Nat → Nat} (h : UInv T (kidsAt T node) kid N0 rt y (kidsAt T node).length N P) (hA : Ahead T) (hk : kid < (kidsAt T node).length)
    (hf : fitN (ndAt T node) (ndAt T node).kids.length = true) : Grove (N ++ [{ ndAt T node with kids := upKids (ndAt T node).kids.length P }]) (fun p => p = N.length) ∧ N0 <+: N ∧
      Rep (N ++ [{ ndAt T node with kids := upKids (ndAt T node).kids.length P }]) (.mk (bareN (ndAt T node)) (((kidsAt T node).map (den T)).set kid y)) N.length ∧ N.length + 1 + (postN T ((kidsAt T node)[kid]?.getD 0)).length = N0.length + (postN T node).length := by
  have hkl := kidsAt_len T node
  refine ⟨(h.grove.push (n := { ndAt T node with kids := upKids (ndAt T node).kids.length P }) (by rw [fitN_kids]; simpa [upKids] using hf) (fun k hk' => ?_) ?_).congr fun p => ?_, h.pre, rep_iff.2 ⟨{ ndAt T node with kids := upKids (ndAt T node).kids.length P }, by simp, rfl, by simp [upKids, hkl], fun j h1 h2 => ?_⟩, ?_⟩
  · obtain ⟨q, hq, rfl⟩ := List.mem_map.1 hk'
    rw [List.mem_range] at hq
    exact ⟨by omega, .inr ⟨q, by omega, by simp⟩⟩
  · unfold upKids
    refine List.pairwise_map.2 ?_
    refine List.Pairwise.imp_of_mem (R := fun a b => a < b) (fun {a b} ha hb hab e => ?_) List.pairwise_lt_range
    rw [List.mem_range] at ha hb
    exact h.inj a b hab (by omega) (by omega)
  · constructor
    · rintro (h1 | ⟨h1, h2⟩)
      · exact h1
      · exfalso
        rcases h1 with rfl | ⟨q, hq, rfl⟩
        · exact h2 (List.mem_map.2 ⟨kid, List.mem_range.2 (by omega), by rw [h.there hk]⟩)
        · exact h2 (List.mem_map.2 ⟨q, List.mem_range.2 (by omega), rfl⟩)
    · exact .inl
  · simp only [upKids, List.length_map, List.length_range] at h1
    simp only [upKids, List.getElem_map, List.getElem_range, Int.toNat_natCast]
    refine ⟨by omega, ?_⟩
    have hr := (h.rep j (by omega) (by omega)).append (m := [{ ndAt T node with kids := upKids (ndAt T node).kids.length P }])
    by_cases e : j = kid
    · subst e
      rw [if_pos rfl] at hr
      rw [List.getElem_set_self]; exact hr
    · rw [if_neg e] at hr
      rw [List.getElem_set_ne (Ne.symm e), List.getElem_map]; exact hr
  · have h1 := h.len
    rw [List.drop_length, if_pos hk] at h1
    rw [postN_eq hA node, List.length_append]
    simp only [List.flatMap_nil, List.length_nil, List.length_singleton] at h1 ⊢
    omega
end Go.Proofs.YtfncfmiccomgcaaDoor
