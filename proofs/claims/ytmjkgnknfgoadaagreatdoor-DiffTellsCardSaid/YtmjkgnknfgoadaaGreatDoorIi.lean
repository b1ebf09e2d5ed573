/- Arguments that are grammars or trees, opened. The tables of the printer, from a row's condition (six tables are laid). -/
import Derived.Test.YtmjkgnknfgoadaaGreatDoorDw
import Derived.Deep.Slices
import Derived.ProofKit
import Derived.OpenShut
import Derived.ShutString
import Derived.SizedLaws
import Derived.Lib.SmallJoins
import Derived.Test.YtmjkgnknfgoadaaGreatDoorGo
import Derived.LaidMore
import Derived.Stop.Joined
import Derived.Stop.LaidErr
import Derived.Deep.Strs
namespace Go.Proofs.YtmjkgnknfgoadaaGreatDoor
open Go.RowKit Go.Joins Go.ChangeShapes Go.WideShapes Go.Deep
set_option linter.unusedSimpArgs false
set_option linter.unusedVariables false
set_option maxRecDepth 100000
theorem list_choose {α : Type} {n : Nat} {P : Nat → α → Prop} (h : ∀ i, i < n → ∃ a, P i a) : ∃ l : List α, l.length = n ∧ ∀ (i : Nat) (hi : i < l.length), P i l[i] := by
  refine ⟨List.ofFn fun i : Fin n => Classical.choose (h i.1 i.2), by simp, fun i hi => ?_⟩
  rw [List.getElem_ofFn]
  exact Classical.choose_spec (h i (by simpa using hi))
theorem mem_weightsAll {H : Type} {P : Program} {e : TypeId} : ∀ {ds : List (DataW H)} {d : DataW H}, d ∈ ds → ∀ n ∈ d.weights P e, n ∈ DataW.weightsAll P e ds
  | c :: r, d, hd, n, hn => by
    simp only [DataW.weightsAll, List.mem_append]
    rcases List.mem_cons.1 hd with rfl | hd
    · exact .inl hn
    · exact .inr (mem_weightsAll hd n hn)
section
variable {H : Type} {enc : TypeId × Value → H} {W : World}
def Opens {α : Type} (enc : TypeId × Value → H) (W : World) (L : Lay α) (e : TypeId) : Prop :=
  ∀ n cs (y : DataW H × List MemPlace), DataW.trod enc Tryz.prog W 0 (fun _ => true) true n e cs = some y → (∀ k ∈ y.1.weights Tryz.prog e, k ≤ reachBytes) → ∃ x, cs = L.cells x ∧ L.inn W (· < W.heap.size) x
theorem open_row {α : Type} {L : Lay α} {t e : TypeId} (ht : Tryz.prog.underlying t = some (.slice e)) (hc : Tryz.prog.cellsOf e = L.size) (hb : 1 ≤ Tryz.prog.bytesOf e) (h0 : 0 < L.size) (hel : Opens enc W L e)
    {fuel : Nat} {cs : List Value} {y : DataW H × List MemPlace} (h : DataW.trod enc Tryz.prog W 0 (fun _ => true) true fuel t cs = some y) (hw : ∀ k ∈ y.1.weights Tryz.prog t, k ≤ reachBytes) :
    ∃ A c l, cs = [.slice A l.length c] ∧ L.row W (· < W.heap.size) A l ∧ l.length ≤ reachBytes ∧ l.length ≤ c ∧ c ≤ maxLen := by
  rcases open_slice ht h with ⟨e2, _⟩ | ⟨a, len, cap, m, n', D, Pl, e2, _, hlc, hcm, hm, hx, hi⟩
  · exact ⟨none, 0, [], e2, Lay.row.nil _ _ _, by simp, by simp, by simp⟩
  · subst hx
    have hwl : len * Tryz.prog.bytesOf e ≤ reachBytes := by
      have := hw ((((List.range len).map D).length + ((List.range (m - len)).map fun j => D (len + j)).length) * Tryz.prog.bytesOf e) (by rw [DataW.weights, ht]; exact List.mem_cons_self)
      simp only [List.length_map, List.length_range] at this
      exact Nat.le_trans (Nat.mul_le_mul_right _ (by omega)) this
    have hlr : len ≤ reachBytes := Nat.le_trans (Nat.le_mul_of_pos_right len hb) hwl
    obtain ⟨l, hll, hl⟩ := list_choose (n := len) (P := fun i (x : α) => (∀ j, j < L.size → W.cell? ((a.add (i * L.size)).add j) = (L.cells x)[j]?) ∧ L.inn W (· < W.heap.size) x) (fun i hil => by
      obtain ⟨cs', hc', ht'⟩ := hi i (by simp only [if_true] at hm; omega)
      rw [hc] at hc'
      obtain ⟨_, hcl, hat⟩ := World.cells?_some hc'
      obtain ⟨x, rfl, hx⟩ := hel n' cs' (D i, Pl i) ht' (fun k hk => hw k (by
        have hmem : D i ∈ (List.range len).map D := List.mem_map.2 ⟨i, List.mem_range.2 hil, rfl⟩
        rw [DataW.weights, ht]
        exact List.mem_cons_of_mem _ (List.mem_append.2 (.inl (mem_weightsAll hmem k hk)))))
      exact ⟨x, hat, hx⟩)
    subst hll
    refine ⟨some a, cap, l, e2, ⟨RowIn.mono (RowAt.rowIn (fun j u hu => ⟨a, rfl, ?_⟩)) (fun _ _ h => h), fun x hx => ?_⟩, hlr, hlc, hcm⟩
    · have hj : j < l.length * L.size := by have := (List.getElem?_eq_some_iff.1 hu).1; rwa [L.all_length] at this
      have hk : j / L.size < l.length := Nat.div_lt_of_lt_mul (by rw [Nat.mul_comm]; exact hj)
      have hr : j % L.size < L.size := Nat.mod_lt _ h0
      have e1 := L.all_at l (j / L.size) (j % L.size) hk hr
      have e3 := (hl (j / L.size) hk).1 (j % L.size) hr
      have e4 : j / L.size * L.size + j % L.size = j := by rw [Nat.mul_comm]; exact Nat.div_add_mod j L.size
      rw [add_add, e4] at e3
      rw [e4] at e1
      rw [e3, ← e1, hu]
    · obtain ⟨i, hi2, rfl⟩ := List.mem_iff_getElem.1 hx
      exact (hl i hi2).2
theorem opens_int : Opens enc W intL 3 := fun n cs y h _ => by
  obtain ⟨z, rfl, _, _⟩ := DataW.trod_int Tryz.underlying3 h
  exact ⟨z, rfl, trivial⟩
set_option maxRecDepth 100000 in
theorem opens_node : Opens enc W ndL 71 := fun n cs y h hw => by
  have hrb := reachBytes_lt
  obtain ⟨xs, m, _, rfl, hcl, hlen, hg⟩ := DataW.trod_struct Tryz.underlying71 h
  rw [show Tryz.prog.cellsOf 71 = 9 by kernel_rfl] at hcl
  have k1 : Tryz.prog.cellsOf 5 = 1 := by kernel_rfl
  have k2 : Tryz.prog.cellsOf 69 = 4 := by kernel_rfl
  have k3 : Tryz.prog.cellsOf 9 = 1 := by kernel_rfl
  have k4 : Tryz.prog.cellsOf 3 = 1 := by kernel_rfl
  have k5 : Tryz.prog.cellsOf 54 = 1 := by kernel_rfl
  have k6 : Tryz.prog.cellsOf 67 = 1 := by kernel_rfl
  match cs, hcl, xs, hlen with
  | [c0, c1, c2, c3, c4, c5, c6, c7, c8], _, [y0, y1, y2, y3, y4, y5], _ =>
    have g0 : DataW.trod enc Tryz.prog W 0 (fun _ => true) true m 5 [c0] = some y0 := by simpa [k1] using hg 0 _ rfl
    have g1 : DataW.trod enc Tryz.prog W 0 (fun _ => true) true m 69 [c1, c2, c3, c4] = some y1 := by simpa [k2] using hg 1 _ rfl
    have g2 : DataW.trod enc Tryz.prog W 0 (fun _ => true) true m 9 [c5] = some y2 := by simpa [k3] using hg 2 _ rfl
    have g3 : DataW.trod enc Tryz.prog W 0 (fun _ => true) true m 3 [c6] = some y3 := by simpa [k4] using hg 3 _ rfl
    have g4 : DataW.trod enc Tryz.prog W 0 (fun _ => true) true m 3 [c7] = some y4 := by simpa [k4] using hg 4 _ rfl
    have g5 : DataW.trod enc Tryz.prog W 0 (fun _ => true) true m 54 [c8] = some y5 := by simpa [k5] using hg 5 _ rfl
    obtain ⟨kd, q0, _, b0⟩ := DataW.trod_int Tryz.underlying5 g0
    obtain ⟨tx, q2, e2, _⟩ := DataW.trod_string Tryz.underlying9 g2
    obtain ⟨mn, q3, _, _⟩ := DataW.trod_int Tryz.underlying3 g3
    obtain ⟨mx, q4, _, _⟩ := DataW.trod_int Tryz.underlying3 g4
    obtain ⟨zs, m', _, _, _, hzl, hz⟩ := DataW.trod_array Tryz.underlying69 g1
    simp only [k6] at hz
    have hz0 := hz 0 (by decide)
    have hz1 := hz 1 (by decide)
    have hz2 := hz 2 (by decide)
    have hz3 := hz 3 (by decide)
    match zs, hzl with
    | [z0, z1, z2, z3], _ =>
      have f0 : DataW.trod enc Tryz.prog W 0 (fun _ => true) true m' 67 [c1] = some z0 := by simpa using hz0
      have f1 : DataW.trod enc Tryz.prog W 0 (fun _ => true) true m' 67 [c2] = some z1 := by simpa using hz1
      have f2 : DataW.trod enc Tryz.prog W 0 (fun _ => true) true m' 67 [c3] = some z2 := by simpa using hz2
      have f3 : DataW.trod enc Tryz.prog W 0 (fun _ => true) true m' 67 [c4] = some z3 := by simpa using hz3
      obtain ⟨s0, p0, _, u0⟩ := DataW.trod_int Tryz.underlying67 f0
      obtain ⟨s1, p1, _, u1⟩ := DataW.trod_int Tryz.underlying67 f1
      obtain ⟨s2, p2, _, u2⟩ := DataW.trod_int Tryz.underlying67 f2
      obtain ⟨s3, p3, _, u3⟩ := DataW.trod_int Tryz.underlying67 f3
      obtain ⟨K, kc, kl, q5, hk, hkl, _, _⟩ := open_row (L := intL) Tryz.underlying54 (by kernel_rfl) (of_decide_eq_true (by kernel_rfl)) (by decide) opens_int g5 (fun k hk => hw k (by
        rw [DataW.weights, Tryz.underlying71]
        exact DataW.weights_mem_each (j := 5) rfl rfl k hk))
      have hts : tx.size ≤ reachBytes := by
        have := hw tx.data.toList.length (by
          rw [DataW.weights, Tryz.underlying71]
          exact DataW.weights_mem_each (j := 2) rfl rfl _ (by show _ ∈ y2.1.weights _ _; rw [e2]; exact List.mem_cons_self))
        rwa [sz_data] at this
      simp only [List.cons.injEq, and_true] at q0 q2 q3 q4 q5 p0 p1 p2 p3
      subst q0 q2 q3 q4 q5 p0 p1 p2 p3
      have h1 := bounds_u64 u0; have h2 := bounds_u64 u1; have h3 := bounds_u64 u2; have h4 := bounds_u64 u3
      exact ⟨⟨⟨kd, s0, s1, s2, s3, tx, mn, mx, kl⟩, K, kc⟩, rfl, ⟨bounds_u8 b0, by show tx.size ≤ _; omega, by show kl.length ≤ _; omega, ⟨h1.1, by show s0 < _; omega⟩, ⟨h2.1, by show s1 < _; omega⟩, ⟨h3.1, by show s2 < _; omega⟩, ⟨h4.1, by show s3 < _; omega⟩⟩, hk⟩
theorem open_tree_cells {n : Nat} {c0 c1 : Value} {y : DataW H × List MemPlace} (h : DataW.trod enc Tryz.prog W 0 (fun _ => true) true n 48 [c0, c1] = some y) (hw : ∀ k ∈ y.1.weights Tryz.prog 48, k ≤ reachBytes) :
    ∃ t : Lt, c0 = .slice t.A t.ls.length t.c ∧ c1 = .int .i64 t.root ∧ t.inn W (· < W.heap.size) := by
  have hrb := reachBytes_lt
  obtain ⟨xs, m, _, rfl, _, hlen, hg⟩ := DataW.trod_struct Tryz.underlying48 h
  have k1 : Tryz.prog.cellsOf 46 = 1 := by kernel_rfl
  have k2 : Tryz.prog.cellsOf 3 = 1 := by kernel_rfl
  match xs, hlen with
  | [y0, y1], _ =>
    have g0 : DataW.trod enc Tryz.prog W 0 (fun _ => true) true m 46 [c0] = some y0 := by simpa [k1] using hg 0 _ rfl
    have g1 : DataW.trod enc Tryz.prog W 0 (fun _ => true) true m 3 [c1] = some y1 := by simpa [k2] using hg 1 _ rfl
    obtain ⟨r, q1, _, _⟩ := DataW.trod_int Tryz.underlying3 g1
    obtain ⟨A, c, l, q0, hl, hll, _, _⟩ := open_row (L := ndL) Tryz.underlying46 (by kernel_rfl) (of_decide_eq_true (by kernel_rfl)) (by decide) opens_node g0 (fun k hk => hw k (by
      rw [DataW.weights, Tryz.underlying48]
      exact DataW.weights_mem_each (j := 0) rfl rfl k hk))
    simp only [List.cons.injEq, and_true] at q0 q1
    subst q0 q1
    exact ⟨⟨A, c, l, r⟩, rfl, rfl, by show l.length ≤ _; omega, hl⟩
theorem open_def_cells {n : Nat} {c0 c1 c2 : Value} {y : DataW H × List MemPlace} (h : DataW.trod enc Tryz.prog W 0 (fun _ => true) true n 50 [c0, c1, c2] = some y) (hw : ∀ k ∈ y.1.weights Tryz.prog 50, k ≤ reachBytes) :
    ∃ d : Ld, [c0, c1, c2] = dfL.cells d ∧ dfL.inn W (· < W.heap.size) d := by
  have hrb := reachBytes_lt
  obtain ⟨xs, m, _, rfl, _, hlen, hg⟩ := DataW.trod_struct Tryz.underlying50 h
  have k1 : Tryz.prog.cellsOf 9 = 1 := by kernel_rfl
  have k2 : Tryz.prog.cellsOf 48 = 2 := by kernel_rfl
  match xs, hlen with
  | [y0, y1], _ =>
    have g0 : DataW.trod enc Tryz.prog W 0 (fun _ => true) true m 9 [c0] = some y0 := by simpa [k1] using hg 0 _ rfl
    have g1 : DataW.trod enc Tryz.prog W 0 (fun _ => true) true m 48 [c1, c2] = some y1 := by simpa [k2] using hg 1 _ rfl
    obtain ⟨s, q0, e0, _⟩ := DataW.trod_string Tryz.underlying9 g0
    obtain ⟨t, q1, q2, ht⟩ := open_tree_cells g1 (fun k hk => hw k (by
      rw [DataW.weights, Tryz.underlying50]
      exact DataW.weights_mem_each (j := 1) rfl rfl k hk))
    have hts : s.size ≤ reachBytes := by
      have := hw s.data.toList.length (by
        rw [DataW.weights, Tryz.underlying50]
        exact DataW.weights_mem_each (j := 0) rfl rfl _ (by show _ ∈ y0.1.weights _ _; rw [e0]; exact List.mem_cons_self))
      rwa [sz_data] at this
    simp only [List.cons.injEq, and_true] at q0
    subst q0 q1 q2
    exact ⟨⟨s, t⟩, rfl, by show s.size ≤ _; omega, ht⟩
theorem opens_def : Opens enc W dfL 50 := fun n cs y h hw => by
  obtain ⟨_, _, _, _, hcl, _, _⟩ := DataW.trod_struct Tryz.underlying50 h
  rw [show Tryz.prog.cellsOf 50 = 3 by kernel_rfl] at hcl
  match cs, hcl with
  | [c0, c1, c2], _ => exact open_def_cells h hw
theorem open_gram {base : Nat} {v : Value} {d : DataW H} {p : List MemPlace} (hok : Value.okWide Tryz.prog W .any base 24 v) (h : DataW.Trod enc Tryz.prog W 0 (fun _ => true) true 24 v d p) (hw : ∀ n ∈ d.weights Tryz.prog 24, n ≤ reachBytes) :
    ∃ A c ds, v = .agg #[.slice A ds.length c] ∧ dfL.row W (· < W.heap.size) A ds ∧ ds.length ≤ 281474976710656 ∧ ds.length ≤ c ∧ c ≤ 9223372036854775807 := by
  have hrb := reachBytes_lt
  obtain ⟨cs, rfl, hsz⟩ := okWide_struct Tryz.underlying24 hok
  rw [show Tryz.prog.cellsOf 24 = 1 by kernel_rfl] at hsz
  obtain ⟨c0, rfl⟩ : ∃ c0, cs = #[c0] := by
    obtain ⟨l⟩ := cs
    match l, hsz with
    | [c0], _ => exact ⟨c0, rfl⟩
  obtain ⟨fuel, hf⟩ := h
  obtain ⟨xs, m, _, hx, _, hlen, hg⟩ := DataW.trod_struct Tryz.underlying24 hf
  have k1 : Tryz.prog.cellsOf 22 = 1 := by kernel_rfl
  match xs, hlen with
  | [y0], _ =>
    have g0 : DataW.trod enc Tryz.prog W 0 (fun _ => true) true m 22 [c0] = some y0 := by simpa [k1, Value.cells] using hg 0 _ rfl
    obtain ⟨A, c, l, q0, hl, hll, hlc, hcm⟩ := open_row (L := dfL) Tryz.underlying22 (by kernel_rfl) (of_decide_eq_true (by kernel_rfl)) (by decide) opens_def g0 (fun k hk => hw k (by
      have hx1 : d = .agg [y0.1] := by have := congrArg Prod.fst hx; simpa using this
      rw [hx1, DataW.weights, Tryz.underlying24]
      exact DataW.weights_mem_each (j := 0) rfl rfl k hk))
    simp only [List.cons.injEq, and_true] at q0
    subst q0
    exact ⟨A, c, l, rfl, hl, by omega, hlc, by unfold maxLen at hcm; omega⟩
end
end Go.Proofs.YtmjkgnknfgoadaaGreatDoor
namespace Go.Proofs.YtmjkgnknfgoadaaGreatDoor
open Go.RowKit Go.ChangeShapes Go.WideShapes
set_option linter.unusedSimpArgs false
set_option linter.unusedVariables false
set_option maxRecDepth 100000
theorem glt {w : World} {g : Nat} {v : Value} (h : w.cell? ⟨g, 0, none⟩ = some v) : g < w.heap.size := cellLt h
theorem counts_of_head {W : World} {rest : List (String × DataW Unit)} (h : laidMet Tryz.prog (("bonsai/tree.counts", Rows.laid_bonsai_tree_counts) :: rest) W) : CntTab W := by
  obtain ⟨ps, ⟨g', t', cs, fuel, p, q, hg', ht', hvar, hd, _, _⟩, _⟩ := h
  obtain rfl := Option.some.inj ((show Tryz.prog.globalNamed "bonsai/tree.counts" = some 1 by kernel_rfl).symm.trans hg')
  obtain rfl := Option.some.inj ((show (Tryz.prog.globals[(1 : Nat)]?).map (·.type) = some 192 by kernel_rfl).symm.trans ht')
  obtain ⟨xs, m, _, hx, hcl, hxl, hel⟩ := DataW.trod_array Tryz.underlying192 hd
  have k1 : Tryz.prog.cellsOf 191 = 2 := by kernel_rfl
  rw [show Tryz.prog.cellsOf 192 = 20 by kernel_rfl] at hcl
  simp only [k1] at hel
  have hx1 : xs.map (·.1) = [Lib.tabData .i64 [0, 0], Lib.tabData .i64 [0, 0], Lib.tabData .i64 [0, 0], Lib.tabData .i64 [0, 0], Lib.tabData .i64 [2, -1], Lib.tabData .i64 [2, -1], Lib.tabData .i64 [1, 1], Lib.tabData .i64 [1, 1], Lib.tabData .i64 [1, 1], Lib.tabData .i64 [1, 1]] := by
    have h1 := congrArg Prod.fst hx
    simp only [Rows.laid_bonsai_tree_counts, DataW.agg.injEq] at h1
    rw [← h1]; rfl
  have hch : ∀ (i : Nat) (a b : Int), i < 10 → (xs.map (·.1))[i]? = some (Lib.tabData .i64 [a, b]) → (cs.toList.drop (i * 2)).take 2 = [.int .i64 a, .int .i64 b] := fun i a b hi he => by
    have h1 := hel i hi
    rw [List.getElem?_map] at he
    obtain ⟨y, hy, e⟩ := Option.map_eq_some_iff.1 he
    rw [hy] at h1
    obtain ⟨y1, y2⟩ := y
    simp only at e
    subst e
    exact Lib.cells_of_tab (zs := [a, b]) Tryz.underlying191 Tryz.underlying3 (by kernel_rfl) k1 h1
  rw [hx1] at hch
  unfold CntTab
  rw [hvar]
  obtain ⟨l⟩ := cs
  simp only at hch hcl
  match l, hcl with
  | [a0, a1, a2, a3, a4, a5, a6, a7, a8, a9, a10, a11, a12, a13, a14, a15, a16, a17, a18, a19], _ =>
    have c0 := hch 0 0 0 (by decide) rfl
    have c1 := hch 1 0 0 (by decide) rfl
    have c2 := hch 2 0 0 (by decide) rfl
    have c3 := hch 3 0 0 (by decide) rfl
    have c4 := hch 4 2 (-1) (by decide) rfl
    have c5 := hch 5 2 (-1) (by decide) rfl
    have c6 := hch 6 1 1 (by decide) rfl
    have c7 := hch 7 1 1 (by decide) rfl
    have c8 := hch 8 1 1 (by decide) rfl
    have c9 := hch 9 1 1 (by decide) rfl
    simp only [Nat.zero_mul, List.drop_zero, List.take_succ_cons, List.take_zero, List.drop_succ_cons, List.cons.injEq, and_true, Nat.reduceMul] at c0 c1 c2 c3 c4 c5 c6 c7 c8 c9
    obtain ⟨rfl, rfl⟩ := c0; obtain ⟨rfl, rfl⟩ := c1; obtain ⟨rfl, rfl⟩ := c2; obtain ⟨rfl, rfl⟩ := c3; obtain ⟨rfl, rfl⟩ := c4
    obtain ⟨rfl, rfl⟩ := c5; obtain ⟨rfl, rfl⟩ := c6; obtain ⟨rfl, rfl⟩ := c7; obtain ⟨rfl, rfl⟩ := c8; obtain ⟨rfl, rfl⟩ := c9
    rfl
theorem drop_cells {cs : List Value} {i c : Nat} {l : List Value} (h : (cs.drop (i * c)).take c = l) (j : Nat) (hj : j < c) : cs[i * c + j]? = l[j]? := by
  rw [← h, List.getElem?_take, if_pos hj, List.getElem?_drop]
theorem cells_of_co {H : Type} {enc : TypeId × Value → H} {w : World} {base : Nat} {sp : Nat → Bool} {held : Bool} {fuel : Nat} {cs : List Value} {a b : Int} {s : List UInt8} {p : List MemPlace}
    (h : DataW.trod enc Tryz.prog w base sp held fuel 211 cs = some (.agg [.lit (.int .i64 a), .lit (.int .i64 b), .lit (.string s)], p)) : cs = [.int .i64 a, .int .i64 b, .string ⟨s.toArray⟩] := by
  obtain ⟨z0, z1, z2, n, hz, hl, e0, e1, e2⟩ := Go.Deep.trod_struct3 Tryz.underlying211 h
  simp only [show Tryz.prog.cellsOf 3 = 1 by kernel_rfl, show Tryz.prog.cellsOf 9 = 1 by kernel_rfl] at e0 e1 e2
  obtain ⟨n0, c0, g0, _⟩ := DataW.trod_int Tryz.underlying3 e0
  obtain ⟨n1, c1, g1, _⟩ := DataW.trod_int Tryz.underlying3 e1
  obtain ⟨n2, c2, g2, _⟩ := DataW.trod_string Tryz.underlying9 e2
  subst g0 g1 g2
  simp only [Prod.mk.injEq, DataW.agg.injEq, List.cons.injEq, DataW.lit.injEq, Lit.int.injEq, Lit.string.injEq, and_true, true_and] at hz
  obtain ⟨⟨rfl, rfl, rfl⟩, _⟩ := hz
  rw [show Tryz.prog.cellsOf 211 = 3 by kernel_rfl] at hl
  match cs, hl with
  | [x, y, z], _ =>
    simp at c0 c1 c2
    simp [c0, c1, c2]
theorem co_of_head {W : World} {rest : List (String × DataW Unit)} (h : laidMet Tryz.prog (("bonsai/print.counts", Rows.laid_bonsai_print_counts) :: rest) W) : CoTab W := by
  obtain ⟨ps, ⟨g', t', cs, fuel, p, q, hg', ht', hvar, hd, _, _⟩, _⟩ := h
  obtain rfl := Option.some.inj ((show Tryz.prog.globalNamed "bonsai/print.counts" = some 2 by kernel_rfl).symm.trans hg')
  obtain rfl := Option.some.inj ((show (Tryz.prog.globals[(2 : Nat)]?).map (·.type) = some 212 by kernel_rfl).symm.trans ht')
  obtain ⟨xs, m, _, hx, hcl, hxl, hel⟩ := DataW.trod_array Tryz.underlying212 hd
  have k1 : Tryz.prog.cellsOf 211 = 3 := by kernel_rfl
  simp only [k1] at hel
  have hx1 : xs.map (·.1) = [.agg [.lit (.int .i64 0), .lit (.int .i64 1), .lit (.string [63])], .agg [.lit (.int .i64 0), .lit (.int .i64 (-1)), .lit (.string [42])], .agg [.lit (.int .i64 1), .lit (.int .i64 (-1)), .lit (.string [43])]] := by
    have h1 := congrArg Prod.fst hx
    simp only [Rows.laid_bonsai_print_counts, DataW.agg.injEq] at h1
    rw [← h1]
  have hch : ∀ (i : Nat) (a b : Int) (s : List UInt8), i < 3 → (xs.map (·.1))[i]? = some (.agg [.lit (.int .i64 a), .lit (.int .i64 b), .lit (.string s)]) → (cs.toList.drop (i * 3)).take 3 = [.int .i64 a, .int .i64 b, .string ⟨s.toArray⟩] := fun i a b s hi he => by
    have h1 := hel i hi
    rw [List.getElem?_map] at he
    obtain ⟨y, hy, e⟩ := Option.map_eq_some_iff.1 he
    rw [hy] at h1
    obtain ⟨y1, y2⟩ := y
    simp only at e
    subst e
    exact cells_of_co h1
  rw [hx1] at hch
  have HC := fun j => World.var?_cell (P := Tryz.prog) (g := 2) (by kernel_rfl) hvar j
  have c0 := hch 0 0 1 [63] (by decide) rfl
  have c1 := hch 1 0 (-1) [42] (by decide) rfl
  have c2 := hch 2 1 (-1) [43] (by decide) rfl
  intro j u hu
  rw [HC j]
  have hj : j < 9 := by
    rcases Nat.lt_or_ge j 9 with h | h
    · exact h
    · rw [List.getElem?_eq_none (by simp; omega)] at hu
      simp at hu
  have hj' : j = 0 ∨ j = 1 ∨ j = 2 ∨ j = 3 ∨ j = 4 ∨ j = 5 ∨ j = 6 ∨ j = 7 ∨ j = 8 := by omega
  rw [← Array.getElem?_toList]
  rcases hj' with rfl | rfl | rfl | rfl | rfl | rfl | rfl | rfl | rfl
  · exact (drop_cells c0 0 (by decide)).trans hu
  · exact (drop_cells c0 1 (by decide)).trans hu
  · exact (drop_cells c0 2 (by decide)).trans hu
  · exact (drop_cells c1 0 (by decide)).trans hu
  · exact (drop_cells c1 1 (by decide)).trans hu
  · exact (drop_cells c1 2 (by decide)).trans hu
  · exact (drop_cells c2 0 (by decide)).trans hu
  · exact (drop_cells c2 1 (by decide)).trans hu
  · exact (drop_cells c2 2 (by decide)).trans hu
theorem cells_of_strs3 {H : Type} {enc : TypeId × Value → H} {w : World} {base : Nat} {sp : Nat → Bool} {held : Bool} {fuel : Nat} {cs : List Value} {x y z : List UInt8} {p : List MemPlace}
    (h : DataW.trod enc Tryz.prog w base sp held fuel 187 cs = some (.agg [.lit (.string x), .lit (.string y), .lit (.string z)], p)) : cs = [.string ⟨x.toArray⟩, .string ⟨y.toArray⟩, .string ⟨z.toArray⟩] := by
  obtain ⟨z0, z1, z2, n, hz, hl, e0, e1, e2⟩ := Go.Deep.trod_struct3 Tryz.underlying187 h
  simp only [show Tryz.prog.cellsOf 9 = 1 by kernel_rfl] at e0 e1 e2
  obtain ⟨n0, c0, g0, _⟩ := DataW.trod_string Tryz.underlying9 e0
  obtain ⟨n1, c1, g1, _⟩ := DataW.trod_string Tryz.underlying9 e1
  obtain ⟨n2, c2, g2, _⟩ := DataW.trod_string Tryz.underlying9 e2
  subst g0 g1 g2
  simp only [Prod.mk.injEq, DataW.agg.injEq, List.cons.injEq, DataW.lit.injEq, Lit.string.injEq, and_true, true_and] at hz
  obtain ⟨⟨rfl, rfl, rfl⟩, _⟩ := hz
  rw [show Tryz.prog.cellsOf 187 = 3 by kernel_rfl] at hl
  match cs, hl with
  | [x, y, z], _ =>
    simp at c0 c1 c2
    simp [c0, c1, c2]
theorem sg_of_head {W : World} {rest : List (String × DataW Unit)} (h : laidMet Tryz.prog (("bonsai/print.signs", Rows.laid_bonsai_print_signs) :: rest) W) : SgTab W := by
  obtain ⟨ps, ⟨g', t', cs, fuel, p, q, hg', ht', hvar, hd, _, _⟩, _⟩ := h
  obtain rfl := Option.some.inj ((show Tryz.prog.globalNamed "bonsai/print.signs" = some 0 by kernel_rfl).symm.trans hg')
  obtain rfl := Option.some.inj ((show (Tryz.prog.globals[(0 : Nat)]?).map (·.type) = some 188 by kernel_rfl).symm.trans ht')
  obtain ⟨xs, m, _, hx, hcl, hxl, hel⟩ := DataW.trod_array Tryz.underlying188 hd
  have k1 : Tryz.prog.cellsOf 187 = 3 := by kernel_rfl
  simp only [k1] at hel
  have hx1 : xs.map (·.1) = (List.range 10).map fun i => .agg [.lit (.string (sgL.getD (i * 3) [])), .lit (.string (sgL.getD (i * 3 + 1) [])), .lit (.string (sgL.getD (i * 3 + 2) []))] := by
    have h1 := congrArg Prod.fst hx
    simp only [Rows.laid_bonsai_print_signs, DataW.agg.injEq] at h1
    rw [← h1]; rfl
  have hch : ∀ (i : Nat), i < 10 → (cs.toList.drop (i * 3)).take 3 = [.string ⟨(sgL.getD (i * 3) []).toArray⟩, .string ⟨(sgL.getD (i * 3 + 1) []).toArray⟩, .string ⟨(sgL.getD (i * 3 + 2) []).toArray⟩] := fun i hi => by
    have h1 := hel i hi
    obtain ⟨y, hy⟩ : ∃ y, xs[i]? = some y := ⟨_, List.getElem?_eq_getElem (by omega)⟩
    have h2 : (xs.map (·.1))[i]? = some y.1 := by simp [hy]
    rw [hx1, List.getElem?_map, List.getElem?_range hi] at h2
    rw [hy] at h1
    obtain ⟨y1, y2⟩ := y
    simp only [Option.map_some, Option.some.injEq] at h2
    subst h2
    exact cells_of_strs3 h1
  have HC := fun j => World.var?_cell (P := Tryz.prog) (g := 0) (by kernel_rfl) hvar j
  intro j l hl
  rw [HC j]
  have hj : j < 30 := by
    rcases Nat.lt_or_ge j 30 with h | h
    · exact h
    · rw [List.getElem?_eq_none (by simp [sgL]; omega)] at hl
      simp at hl
  rw [← Array.getElem?_toList]
  have h1 := drop_cells (hch (j / 3) (by omega)) (j % 3) (by omega)
  rw [show j / 3 * 3 + j % 3 = j by omega] at h1
  rw [h1]
  have h3 : j % 3 = 0 ∨ j % 3 = 1 ∨ j % 3 = 2 := by omega
  rcases h3 with e | e | e
  · rw [e]; simp [show j / 3 * 3 = j by omega, hl]
  · rw [e]; simp [show j / 3 * 3 + 1 = j by omega, hl]
  · rw [e]; simp [show j / 3 * 3 + 2 = j by omega, hl]
theorem db_of_head {W : World} {rest : List (String × DataW Unit)} (h : laidMet Tryz.prog (("math/bits.deBruijn64tab", Rows.laid_math_bits_deBruijn64tab) :: rest) W) : DbTab W := by
  have ht : Lib.TabIs Tryz.prog W "math/bits.deBruijn64tab" .u8 (Lib.deBruijn64tab.map fun n : Nat => (n : Int)) := Lib.tabIs_of_head (g := 3) (t := 227) (e := 5) (n := 64) (by kernel_rfl) (by kernel_rfl) Tryz.underlying227 Tryz.underlying5 (by kernel_rfl) (by kernel_rfl) h
  intro j hj
  have hl : Lib.deBruijn64tab.length = 64 := by decide
  rw [ht.cell (by kernel_rfl) j (by simp [hl, hj])]
  simp [hl, hj]
theorem tab_of_head {W : World} {rest : List (String × DataW Unit)} (h : laidMet Tryz.prog (("internal/strconv.uint64pow10", Rows.laid_internal_strconv_uint64pow10) :: rest) W) : Tab W :=
  Lib.tabIs_of_head (g := 5) (t := 235) (e := 67) (n := 20) (by kernel_rfl) (by kernel_rfl) Tryz.underlying235 Tryz.underlying67 (by kernel_rfl) (by kernel_rfl) h
def laid6 : List (String × DataW Unit) := [("math/bits.deBruijn32tab", Rows.laid_math_bits_deBruijn32tab), ("math/bits.deBruijn64tab", Rows.laid_math_bits_deBruijn64tab), ("internal/strconv.uint64pow10", Rows.laid_internal_strconv_uint64pow10), ("bonsai/tree.counts", Rows.laid_bonsai_tree_counts), ("bonsai/print.counts", Rows.laid_bonsai_print_counts), ("bonsai/print.signs", Rows.laid_bonsai_print_signs)]
theorem ptabs_of_laid {W : World} (h : laidMetH Tryz.prog laid6 W) : PTabs W := by
  rw [MakeChecks.laidMetH_plain _ _ _ (by kernel_rfl)] at h
  have hs := sg_of_head h.tail.tail.tail.tail.tail
  have hc := co_of_head h.tail.tail.tail.tail
  have hn := counts_of_head h.tail.tail.tail
  have ht := tab_of_head h.tail.tail
  have hd := db_of_head h.tail
  have hp : 5 < W.heap.size := by
    have := World.var?_cell (P := Tryz.prog) (g := 5) (by kernel_rfl) ht 0
    exact glt (v := .int .u64 1) (by simpa [Lib.pow10Tab] using this)
  exact ⟨hn, hs, hd, hc, ht, hp⟩
end Go.Proofs.YtmjkgnknfgoadaaGreatDoor
