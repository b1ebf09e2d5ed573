/- Arguments that are grammars or trees, opened. -/
import Derived.Test.YtmjkgnknfgoadaaGreatDoorDw
import Derived.Deep.Slices
import Derived.ProofKit
import Derived.OpenShut
import Derived.ShutString
import Derived.SizedLaws
import Derived.Lib.SmallJoins
namespace Go.Proofs.YtmjkgnknfgoadaaGreatDoor
open Go.RowKit Go.Joins Go.ChangeShapes Go.WideShapes Go.Deep
set_option linter.unusedSimpArgs false
set_option linter.unusedVariables false
set_option maxRecDepth 100000

theorem list_choose {α : Type} {n : Nat} {P : Nat → α → Prop} (h : ∀ i, i < n → ∃ a, P i a) : ∃ l : List α, l.length = n ∧ ∀ (i : Nat) (hi : i < l.length), P i l[i] := by
  refine ⟨List.ofFn fun i : Fin n => Classical.choose (h i.1 i.2), by simp, fun i hi => ?_⟩
  rw [List.getElem_ofFn]
  exact Classical.choose_spec (h i (by simpa using hi))
theorem mem_weightsAll {H : Type} {P : Program} {e : TypeId} : ∀ {ds : List (DataW H)} {d : DataW H}, d ∈ ds → ∀ n ∈ d.weights P e, n ∈ DataW.weightsAll P e ds
  | c :: r, d, hd, n, hn => by
    simp only [DataW.weightsAll, List.mem_append]
    rcases List.mem_cons.1 hd with rfl | hd
    · exact .inl hn
    · exact .inr (mem_weightsAll hd n hn)

section
variable {H : Type} {enc : TypeId × Value → H} {W : World}
/-- What opens as an element of a row. -/
def Opens {α : Type} (enc : TypeId × Value → H) (W : World) (L : Lay α) (e : TypeId) : Prop :=
  ∀ n cs (y : DataW H × List MemPlace), DataW.trod enc Tryz.prog W 0 (fun _ => true) true n e cs = some y → (∀ k ∈ y.1.weights Tryz.prog e, k ≤ reachBytes) → ∃ x, cs = L.cells x ∧ L.inn W (· < W.heap.size) x

theorem open_row {α : Type} {L : Lay α} {t e : TypeId} (ht : Tryz.prog.underlying t = some (.slice e)) (hc : Tryz.prog.cellsOf e = L.size) (hb : 1 ≤ Tryz.prog.bytesOf e) (h0 : 0 < L.size) (hel : Opens enc W L e)
    {fuel : Nat} {cs : List Value} {y : DataW H × List MemPlace} (h : DataW.trod enc Tryz.prog W 0 (fun _ => true) true fuel t cs = some y) (hw : ∀ k ∈ y.1.weights Tryz.prog t, k ≤ reachBytes) :
    ∃ A c l, cs = [.slice A l.length c] ∧ L.row W (· < W.heap.size) A l ∧ l.length ≤ reachBytes ∧ l.length ≤ c ∧ c ≤ maxLen := by
  rcases open_slice ht h with ⟨e2, _⟩ | ⟨a, len, cap, m, n', D, Pl, e2, _, hlc, hcm, hm, hx, hi⟩
  · exact ⟨none, 0, [], e2, Lay.row.nil _ _ _, by simp, by simp, by simp⟩
  · subst hx
    have hwl : len * Tryz.prog.bytesOf e ≤ reachBytes := by
      have := hw ((((List.range len).map D).length + ((List.range (m - len)).map fun j => D (len + j)).length) * Tryz.prog.bytesOf e) (by rw [DataW.weights, ht]; exact List.mem_cons_self)
      simp only [List.length_map, List.length_range] at this
      exact Nat.le_trans (Nat.mul_le_mul_right _ (by omega)) this
    have hlr : len ≤ reachBytes := Nat.le_trans (Nat.le_mul_of_pos_right len hb) hwl
    obtain ⟨l, hll, hl⟩ := list_choose (n := len) (P := fun i (x : α) => (∀ j, j < L.size → W.cell? ((a.add (i * L.size)).add j) = (L.cells x)[j]?) ∧ L.inn W (· < W.heap.size) x) (fun i hil => by
      obtain ⟨cs', hc', ht'⟩ := hi i (by simp only [if_true] at hm; omega)
      rw [hc] at hc'
      obtain ⟨_, hcl, hat⟩ := World.cells?_some hc'
      obtain ⟨x, rfl, hx⟩ := hel n' cs' (D i, Pl i) ht' (fun k hk => hw k (by
        have hmem : D i ∈ (List.range len).map D := List.mem_map.2 ⟨i, List.mem_range.2 hil, rfl⟩
        rw [DataW.weights, ht]
        exact List.mem_cons_of_mem _ (List.mem_append.2 (.inl (mem_weightsAll hmem k hk)))))
      exact ⟨x, hat, hx⟩)
    subst hll
    refine ⟨some a, cap, l, e2, ⟨RowIn.mono (RowAt.rowIn (fun j u hu => ⟨a, rfl, ?_⟩)) (fun _ _ h => h), fun x hx => ?_⟩, hlr, hlc, hcm⟩
    · have hj : j < l.length * L.size := by have := (List.getElem?_eq_some_iff.1 hu).1; rwa [L.all_length] at this
      have hk : j / L.size < l.length := Nat.div_lt_of_lt_mul (by rw [Nat.mul_comm]; exact hj)
      have hr : j % L.size < L.size := Nat.mod_lt _ h0
      have e1 := L.all_at l (j / L.size) (j % L.size) hk hr
      have e3 := (hl (j / L.size) hk).1 (j % L.size) hr
      have e4 : j / L.size * L.size + j % L.size = j := by rw [Nat.mul_comm]; exact Nat.div_add_mod j L.size
      rw [add_add, e4] at e3
      rw [e4] at e1
      rw [e3, ← e1, hu]
    · obtain ⟨i, hi2, rfl⟩ := List.mem_iff_getElem.1 hx
      exact (hl i hi2).2

theorem opens_int : Opens enc W intL 3 := fun n cs y h _ => by
  obtain ⟨z, rfl, _, _⟩ := DataW.trod_int Tryz.underlying3 h
  exact ⟨z, rfl, trivial⟩

set_option maxRecDepth 100000 in
theorem opens_node : Opens enc W ndL 71 := fun n cs y h hw => by
  have hrb := reachBytes_lt
  obtain ⟨xs, m, _, rfl, hcl, hlen, hg⟩ := DataW.trod_struct Tryz.underlying71 h
  rw [show Tryz.prog.cellsOf 71 = 9 by kernel_rfl] at hcl
  have k1 : Tryz.prog.cellsOf 5 = 1 := by kernel_rfl
  have k2 : Tryz.prog.cellsOf 69 = 4 := by kernel_rfl
  have k3 : Tryz.prog.cellsOf 9 = 1 := by kernel_rfl
  have k4 : Tryz.prog.cellsOf 3 = 1 := by kernel_rfl
  have k5 : Tryz.prog.cellsOf 54 = 1 := by kernel_rfl
  have k6 : Tryz.prog.cellsOf 67 = 1 := by kernel_rfl
  match cs, hcl, xs, hlen with
  | [c0, c1, c2, c3, c4, c5, c6, c7, c8], _, [y0, y1, y2, y3, y4, y5], _ =>
    have g0 : DataW.trod enc Tryz.prog W 0 (fun _ => true) true m 5 [c0] = some y0 := by simpa [k1] using hg 0 _ rfl
    have g1 : DataW.trod enc Tryz.prog W 0 (fun _ => true) true m 69 [c1, c2, c3, c4] = some y1 := by simpa [k2] using hg 1 _ rfl
    have g2 : DataW.trod enc Tryz.prog W 0 (fun _ => true) true m 9 [c5] = some y2 := by simpa [k3] using hg 2 _ rfl
    have g3 : DataW.trod enc Tryz.prog W 0 (fun _ => true) true m 3 [c6] = some y3 := by simpa [k4] using hg 3 _ rfl
    have g4 : DataW.trod enc Tryz.prog W 0 (fun _ => true) true m 3 [c7] = some y4 := by simpa [k4] using hg 4 _ rfl
    have g5 : DataW.trod enc Tryz.prog W 0 (fun _ => true) true m 54 [c8] = some y5 := by simpa [k5] using hg 5 _ rfl
    obtain ⟨kd, q0, _, b0⟩ := DataW.trod_int Tryz.underlying5 g0
    obtain ⟨tx, q2, e2, _⟩ := DataW.trod_string Tryz.underlying9 g2
    obtain ⟨mn, q3, _, _⟩ := DataW.trod_int Tryz.underlying3 g3
    obtain ⟨mx, q4, _, _⟩ := DataW.trod_int Tryz.underlying3 g4
    obtain ⟨zs, m', _, _, _, hzl, hz⟩ := DataW.trod_array Tryz.underlying69 g1
    simp only [k6] at hz
    have hz0 := hz 0 (by decide)
    have hz1 := hz 1 (by decide)
    have hz2 := hz 2 (by decide)
    have hz3 := hz 3 (by decide)
    match zs, hzl with
    | [z0, z1, z2, z3], _ =>
      have f0 : DataW.trod enc Tryz.prog W 0 (fun _ => true) true m' 67 [c1] = some z0 := by simpa using hz0
      have f1 : DataW.trod enc Tryz.prog W 0 (fun _ => true) true m' 67 [c2] = some z1 := by simpa using hz1
      have f2 : DataW.trod enc Tryz.prog W 0 (fun _ => true) true m' 67 [c3] = some z2 := by simpa using hz2
      have f3 : DataW.trod enc Tryz.prog W 0 (fun _ => true) true m' 67 [c4] = some z3 := by simpa using hz3
      obtain ⟨s0, p0, _, u0⟩ := DataW.trod_int Tryz.underlying67 f0
      obtain ⟨s1, p1, _, u1⟩ := DataW.trod_int Tryz.underlying67 f1
      obtain ⟨s2, p2, _, u2⟩ := DataW.trod_int Tryz.underlying67 f2
      obtain ⟨s3, p3, _, u3⟩ := DataW.trod_int Tryz.underlying67 f3
      obtain ⟨K, kc, kl, q5, hk, hkl, _, _⟩ := open_row (L := intL) Tryz.underlying54 (by kernel_rfl) (of_decide_eq_true (by kernel_rfl)) (by decide) opens_int g5 (fun k hk => hw k (by
        rw [DataW.weights, Tryz.underlying71]
        exact DataW.weights_mem_each (j := 5) rfl rfl k hk))
      have hts : tx.size ≤ reachBytes := by
        have := hw tx.data.toList.length (by
          rw [DataW.weights, Tryz.underlying71]
          exact DataW.weights_mem_each (j := 2) rfl rfl _ (by show _ ∈ y2.1.weights _ _; rw [e2]; exact List.mem_cons_self))
        rwa [sz_data] at this
      simp only [List.cons.injEq, and_true] at q0 q2 q3 q4 q5 p0 p1 p2 p3
      subst q0 q2 q3 q4 q5 p0 p1 p2 p3
      have h1 := bounds_u64 u0; have h2 := bounds_u64 u1; have h3 := bounds_u64 u2; have h4 := bounds_u64 u3
      exact ⟨⟨⟨kd, s0, s1, s2, s3, tx, mn, mx, kl⟩, K, kc⟩, rfl, ⟨bounds_u8 b0, by show tx.size ≤ _; omega, by show kl.length ≤ _; omega, ⟨h1.1, by show s0 < _; omega⟩, ⟨h2.1, by show s1 < _; omega⟩, ⟨h3.1, by show s2 < _; omega⟩, ⟨h4.1, by show s3 < _; omega⟩⟩, hk⟩

theorem open_tree_cells {n : Nat} {c0 c1 : Value} {y : DataW H × List MemPlace} (h : DataW.trod enc Tryz.prog W 0 (fun _ => true) true n 48 [c0, c1] = some y) (hw : ∀ k ∈ y.1.weights Tryz.prog 48, k ≤ reachBytes) :
    ∃ t : Lt, c0 = .slice t.A t.ls.length t.c ∧ c1 = .int .i64 t.root ∧ t.inn W (· < W.heap.size) := by
  have hrb := reachBytes_lt
  obtain ⟨xs, m, _, rfl, _, hlen, hg⟩ := DataW.trod_struct Tryz.underlying48 h
  have k1 : Tryz.prog.cellsOf 46 = 1 := by kernel_rfl
  have k2 : Tryz.prog.cellsOf 3 = 1 := by kernel_rfl
  match xs, hlen with
  | [y0, y1], _ =>
    have g0 : DataW.trod enc Tryz.prog W 0 (fun _ => true) true m 46 [c0] = some y0 := by simpa [k1] using hg 0 _ rfl
    have g1 : DataW.trod enc Tryz.prog W 0 (fun _ => true) true m 3 [c1] = some y1 := by simpa [k2] using hg 1 _ rfl
    obtain ⟨r, q1, _, _⟩ := DataW.trod_int Tryz.underlying3 g1
    obtain ⟨A, c, l, q0, hl, hll, _, _⟩ := open_row (L := ndL) Tryz.underlying46 (by kernel_rfl) (of_decide_eq_true (by kernel_rfl)) (by decide) opens_node g0 (fun k hk => hw k (by
      rw [DataW.weights, Tryz.underlying48]
      exact DataW.weights_mem_each (j := 0) rfl rfl k hk))
    simp only [List.cons.injEq, and_true] at q0 q1
    subst q0 q1
    exact ⟨⟨A, c, l, r⟩, rfl, rfl, by show l.length ≤ _; omega, hl⟩
theorem open_def_cells {n : Nat} {c0 c1 c2 : Value} {y : DataW H × List MemPlace} (h : DataW.trod enc Tryz.prog W 0 (fun _ => true) true n 50 [c0, c1, c2] = some y) (hw : ∀ k ∈ y.1.weights Tryz.prog 50, k ≤ reachBytes) :
    ∃ d : Ld, [c0, c1, c2] = dfL.cells d ∧ dfL.inn W (· < W.heap.size) d := by
  have hrb := reachBytes_lt
  obtain ⟨xs, m, _, rfl, _, hlen, hg⟩ := DataW.trod_struct Tryz.underlying50 h
  have k1 : Tryz.prog.cellsOf 9 = 1 := by kernel_rfl
  have k2 : Tryz.prog.cellsOf 48 = 2 := by kernel_rfl
  match xs, hlen with
  | [y0, y1], _ =>
    have g0 : DataW.trod enc Tryz.prog W 0 (fun _ => true) true m 9 [c0] = some y0 := by simpa [k1] using hg 0 _ rfl
    have g1 : DataW.trod enc Tryz.prog W 0 (fun _ => true) true m 48 [c1, c2] = some y1 := by simpa [k2] using hg 1 _ rfl
    obtain ⟨s, q0, e0, _⟩ := DataW.trod_string Tryz.underlying9 g0
    obtain ⟨t, q1, q2, ht⟩ := open_tree_cells g1 (fun k hk => hw k (by
      rw [DataW.weights, Tryz.underlying50]
      exact DataW.weights_mem_each (j := 1) rfl rfl k hk))
    have hts : s.size ≤ reachBytes := by
      have := hw s.data.toList.length (by
        rw [DataW.weights, Tryz.underlying50]
        exact DataW.weights_mem_each (j := 0) rfl rfl _ (by show _ ∈ y0.1.weights _ _; rw [e0]; exact List.mem_cons_self))
      rwa [sz_data] at this
    simp only [List.cons.injEq, and_true] at q0
    subst q0 q1 q2
    exact ⟨⟨s, t⟩, rfl, by show s.size ≤ _; omega, ht⟩
theorem opens_def : Opens enc W dfL 50 := fun n cs y h hw => by
  obtain ⟨_, _, _, _, hcl, _, _⟩ := DataW.trod_struct Tryz.underlying50 h
  rw [show Tryz.prog.cellsOf 50 = 3 by kernel_rfl] at hcl
  match cs, hcl with
  | [c0, c1, c2], _ => exact open_def_cells h hw
theorem open_gram {base : Nat} {v : Value} {d : DataW H} {p : List MemPlace} (hok : Value.okWide Tryz.prog W .any base 24 v) (h : DataW.Trod enc Tryz.prog W 0 (fun _ => true) true 24 v d p) (hw : ∀ n ∈ d.weights Tryz.prog 24, n ≤ reachBytes) :
    ∃ A c ds, v = .agg #[.slice A ds.length c] ∧ dfL.row W (· < W.heap.size) A ds ∧ ds.length ≤ 281474976710656 ∧ ds.length ≤ c ∧ c ≤ 9223372036854775807 := by
  have hrb := reachBytes_lt
  obtain ⟨cs, rfl, hsz⟩ := okWide_struct Tryz.underlying24 hok
  rw [show Tryz.prog.cellsOf 24 = 1 by kernel_rfl] at hsz
  obtain ⟨c0, rfl⟩ : ∃ c0, cs = #[c0] := by
    obtain ⟨l⟩ := cs
    match l, hsz with
    | [c0], _ => exact ⟨c0, rfl⟩
  obtain ⟨fuel, hf⟩ := h
  obtain ⟨xs, m, _, hx, _, hlen, hg⟩ := DataW.trod_struct Tryz.underlying24 hf
  have k1 : Tryz.prog.cellsOf 22 = 1 := by kernel_rfl
  match xs, hlen with
  | [y0], _ =>
    have g0 : DataW.trod enc Tryz.prog W 0 (fun _ => true) true m 22 [c0] = some y0 := by simpa [k1, Value.cells] using hg 0 _ rfl
    obtain ⟨A, c, l, q0, hl, hll, hlc, hcm⟩ := open_row (L := dfL) Tryz.underlying22 (by kernel_rfl) (of_decide_eq_true (by kernel_rfl)) (by decide) opens_def g0 (fun k hk => hw k (by
      have hx1 : d = .agg [y0.1] := by have := congrArg Prod.fst hx; simpa using this
      rw [hx1, DataW.weights, Tryz.underlying24]
      exact DataW.weights_mem_each (j := 0) rfl rfl k hk))
    simp only [List.cons.injEq, and_true] at q0
    subst q0
    exact ⟨A, c, l, rfl, hl, by omega, hlc, by unfold maxLen at hcm; omega⟩
theorem open_tree {base : Nat} {v : Value} {d : DataW H} {p : List MemPlace} (hok : Value.okWide Tryz.prog W .any base 48 v) (h : DataW.Trod enc Tryz.prog W 0 (fun _ => true) true 48 v d p) (hw : ∀ n ∈ d.weights Tryz.prog 48, n ≤ reachBytes) :
    ∃ t : Lt, v = t.val ∧ t.inn W (· < W.heap.size) := by
  obtain ⟨cs, rfl, hsz⟩ := okWide_struct Tryz.underlying48 hok
  rw [show Tryz.prog.cellsOf 48 = 2 by kernel_rfl] at hsz
  obtain ⟨c0, c1, rfl⟩ : ∃ c0 c1, cs = #[c0, c1] := by
    obtain ⟨l⟩ := cs
    match l, hsz with
    | [c0, c1], _ => exact ⟨c0, c1, rfl⟩
  obtain ⟨fuel, hf⟩ := h
  obtain ⟨t, rfl, rfl, ht⟩ := open_tree_cells (y := (d, p)) (by simpa [Value.cells] using hf) hw
  exact ⟨t, rfl, ht⟩
end
end Go.Proofs.YtmjkgnknfgoadaaGreatDoor
