/- An argument that is an outcome, opened. -/
import Derived.Test.YtogmkekbdfckpaaDoorSb
import Derived.Deep.Slices
import Derived.ProofKit
import Derived.OpenShut
import Derived.ShutString
import Derived.SizedLaws
import Derived.Lib.SmallJoins
namespace Go.Proofs.YtogmkekbdfckpaaDoor
open Go.RowKit Go.Joins Go.ChangeShapes Go.WideShapes Go.Deep
set_option linter.unusedSimpArgs false
set_option linter.unusedVariables false

theorem list_choose {α : Type} {n : Nat} {P : Nat → α → Prop} (h : ∀ i, i < n → ∃ a, P i a) : ∃ l : List α, l.length = n ∧ ∀ (i : Nat) (hi : i < l.length), P i l[i] := by
  refine ⟨List.ofFn fun i : Fin n => Classical.choose (h i.1 i.2), by simp, fun i hi => ?_⟩
  rw [List.getElem_ofFn]
  exact Classical.choose_spec (h i (by simpa using hi))
theorem rowAt_caps {w : World} {a : Addr} {l : List Cap} (h : ∀ (i : Nat) (hi : i < l.length), w.cell? (a.add (i * 3)) = some (.string l[i].name) ∧ w.cell? (a.add (i * 3 + 1)) = some (.int .i64 l[i].frm) ∧ w.cell? (a.add (i * 3 + 2)) = some (.int .i64 l[i].to)) : RowAt w (some a) (cellsOf l) := fun j u hu => by
  refine ⟨a, rfl, ?_⟩
  have hj : j < l.length * 3 := by have := (List.getElem?_eq_some_iff.1 hu).1; rwa [cellsOf_length] at this
  have hk : j / 3 < l.length := by omega
  obtain ⟨e1, e2, e3⟩ := cellsOf_at l (j / 3) hk
  obtain ⟨h1, h2, h3⟩ := h (j / 3) hk
  have hm := Nat.div_add_mod j 3
  have : j % 3 = 0 ∨ j % 3 = 1 ∨ j % 3 = 2 := by omega
  rcases this with hr | hr | hr
  · have e : j = j / 3 * 3 := by omega
    rw [e] at hu ⊢; rw [e1] at hu; rw [h1]; exact hu
  · have e : j = j / 3 * 3 + 1 := by omega
    rw [e] at hu ⊢; rw [e2] at hu; rw [h2]; exact hu
  · have e : j = j / 3 * 3 + 2 := by omega
    rw [e] at hu ⊢; rw [show j / 3 * 3 + 2 = j / 3 * 3 + 1 + 1 from rfl, e3] at hu; rw [h3]; exact hu
theorem mem_weightsAll {H : Type} {P : Program} {e : TypeId} : ∀ {ds : List (DataW H)} {d : DataW H}, d ∈ ds → ∀ n ∈ d.weights P e, n ∈ DataW.weightsAll P e ds
  | c :: r, d, hd, n, hn => by
    simp only [DataW.weightsAll, List.mem_append]
    rcases List.mem_cons.1 hd with rfl | hd
    · exact .inl hn
    · exact .inr (mem_weightsAll hd n hn)
theorem add_zero'' (a : Addr) : a.add 0 = a := by simp [Addr.add]

theorem struct3 {H : Type} {enc : TypeId × Value → H} {P : Program} {w : World} {base : Nat} {spare : Nat → Bool} {held : Bool} {t : TypeId} {f0 f1 f2 : Field} {fuel : Nat} {cs : List Value} {x : DataW H × List MemPlace}
    (hs : P.underlying t = some (.struct #[f0, f1, f2])) (hone : oneCellFields P #[f0, f1, f2] = true) (hC : P.cellsOf t = 3) (h : DataW.trod enc P w base spare held fuel t cs = some x) :
    ∃ (c0 c1 c2 : Value) (y0 y1 y2 : DataW H × List MemPlace) (n : Nat), cs = [c0, c1, c2] ∧ x.1 = .agg [y0.1, y1.1, y2.1] ∧ DataW.trod enc P w base spare held n f0.type [c0] = some y0 ∧ DataW.trod enc P w base spare held n f1.type [c1] = some y1 ∧ DataW.trod enc P w base spare held n f2.type [c2] = some y2 := by
  obtain ⟨xs, n, _, hx, hcl, hlen, hg⟩ := DataW.trod_struct hs h
  obtain ⟨o0, k0⟩ := hone_of hone 0 f0 rfl
  obtain ⟨o1, k1⟩ := hone_of hone 1 f1 rfl
  obtain ⟨o2, k2⟩ := hone_of hone 2 f2 rfl
  rw [hC] at hcl
  match cs, hcl, xs, hlen with
  | [c0, c1, c2], _, [y0, y1, y2], _ =>
    exact ⟨c0, c1, c2, y0, y1, y2, n, rfl, by rw [hx]; rfl, by simpa [o0, k0] using hg 0 f0 rfl, by simpa [o1, k1] using hg 1 f1 rfl, by simpa [o2, k2] using hg 2 f2 rfl⟩

set_option maxRecDepth 100000 in
theorem open_outc {H : Type} {enc : TypeId × Value → H} {W : World} {base : Nat} {v : Value} {d : DataW H} {p : List MemPlace}
    (hok : Value.okWide Tryd.prog W .any base 24 v) (h : DataW.Trod enc Tryd.prog W 0 (fun _ => true) true 24 v d p) (hw : ∀ n ∈ d.weights Tryd.prog 24, n ≤ reachBytes) :
    ∃ (o : Outc) (A : Option Addr) (c : Nat), v = outV A c o ∧ RowAt W A (cellsOf o.caps) ∧ (∀ c ∈ o.caps, c.name.size ≤ 281474976710656) ∧ o.caps.length ≤ 281474976710656 := by
  have hrb := reachBytes_lt
  obtain ⟨v0, v1, v2, y0, y1, y2, n, rfl, rfl, rfl, h0, h1, h2⟩ := open_agg3 Tryd.underlying24 (by kernel_rfl) (by kernel_rfl) hok h
  obtain ⟨b, e0, _⟩ := DataW.trod_bool Tryd.underlying4 h0
  obtain ⟨t, e1, _, _⟩ := DataW.trod_int Tryd.underlying3 h1
  simp only [List.cons.injEq, and_true] at e0 e1
  subst e0 e1
  rcases open_slice Tryd.underlying22 h2 with ⟨e2, _⟩ | ⟨a, len, cap, m, n', D, Pl, e2, _, hlc, hcm, hm, hx, hi⟩
  · simp only [List.cons.injEq, and_true] at e2
    subst e2
    exact ⟨⟨b, t, []⟩, none, 0, rfl, fun j u hu => by simp [cellsOf] at hu, by simp, by simp⟩
  · simp only [List.cons.injEq, and_true] at e2
    subst e2
    have hC : Tryd.prog.cellsOf 33 = 3 := by kernel_rfl
    have hB : Tryd.prog.bytesOf 33 = 32 := by kernel_rfl
    have hws : ∀ k ∈ y2.1.weights Tryd.prog 22, k ≤ reachBytes := fun k hk => hw k (by
      rw [DataW.weights, Tryd.underlying24]
      exact DataW.weights_mem_each (j := 2) rfl rfl k hk)
    subst hx
    have hwl : ((List.range len).map D).length * 32 ≤ reachBytes := by
      have := hws ((((List.range len).map D).length + ((List.range (m - len)).map fun j => D (len + j)).length) * Tryd.prog.bytesOf 33) (by rw [DataW.weights, Tryd.underlying22]; exact List.mem_cons_self)
      rw [hB] at this
      omega
    simp only [List.length_map, List.length_range] at hwl
    obtain ⟨l, hll, hl⟩ := list_choose (n := len) (P := fun i (c : Cap) => (W.cell? (a.add (i * 3)) = some (.string c.name) ∧ W.cell? (a.add (i * 3 + 1)) = some (.int .i64 c.frm) ∧ W.cell? (a.add (i * 3 + 2)) = some (.int .i64 c.to)) ∧ c.name.size ≤ reachBytes) (fun i hil => by
      obtain ⟨cs', hc, ht⟩ := hi i (by simp only [if_true] at hm; omega)
      rw [hC] at hc
      obtain ⟨_, hcl, hat⟩ := World.cells?_some hc
      obtain ⟨c0, c1, c2, x0, x1, x2, n2, rfl, hy, g0, g1, g2⟩ := struct3 Tryd.underlying33 (by kernel_rfl) hC ht
      obtain ⟨s, q0, q1, _⟩ := DataW.trod_string Tryd.underlying9 g0
      obtain ⟨f, q2, _, _⟩ := DataW.trod_int Tryd.underlying3 g1
      obtain ⟨t', q3, _, _⟩ := DataW.trod_int Tryd.underlying3 g2
      simp only [List.cons.injEq, and_true] at q0 q2 q3
      subst q0 q2 q3
      refine ⟨⟨s, f, t'⟩, ⟨?_, ?_, ?_⟩, ?_⟩
      · have := hat 0 (by omega); rw [add_zero''] at this; exact this
      · have := hat 1 (by omega); rw [add_add] at this; exact this
      · have := hat 2 (by omega); rw [add_add] at this; exact this
      · have hmem : D i ∈ (List.range len).map D := List.mem_map.2 ⟨i, List.mem_range.2 hil, rfl⟩
        have hlen : s.data.toList.length ∈ (D i).weights Tryd.prog 33 := by
          rw [show D i = _ from hy, DataW.weights, Tryd.underlying33]
          exact DataW.weights_mem_each (j := 0) rfl rfl _ (by rw [q1]; exact List.mem_cons_self)
        have := hws _ (by rw [DataW.weights, Tryd.underlying22]; exact List.mem_cons_of_mem _ (List.mem_append.2 (.inl (mem_weightsAll hmem _ hlen))))
        rwa [sz_data] at this)
    have hll2 := hll
    subst hll
    refine ⟨⟨b, t, l⟩, some a, cap, rfl, rowAt_caps fun i hi => (hl i hi).1, fun c hc => ?_, by show l.length ≤ _; omega⟩
    obtain ⟨i, hi, rfl⟩ := List.mem_iff_getElem.1 hc
    have := (hl i hi).2
    show l[i].name.size ≤ _
    omega
end Go.Proofs.YtogmkekbdfckpaaDoor
