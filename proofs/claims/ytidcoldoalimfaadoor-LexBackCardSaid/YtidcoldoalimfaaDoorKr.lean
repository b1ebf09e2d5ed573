/- An argument that is a row of words, opened. -/
import Derived.Test.YtidcoldoalimfaaDoorKq
import Derived.Deep.Slices
import Derived.WideShapes
import Derived.Below
import Derived.ProofKit
import Derived.OpenShut
import Derived.ShutString
import Derived.SizedLaws
import Derived.Lib.SmallJoins
namespace Go.Proofs.YtidcoldoalimfaaDoor
open Go.RowKit Go.Joins Go.ChangeShapes Go.WideShapes Go.Deep
set_option linter.unusedSimpArgs false
set_option linter.unusedVariables false
set_option maxRecDepth 100000

theorem list_chooseZ {α : Type} {n : Nat} {P : Nat → α → Prop} (h : ∀ i, i < n → ∃ a, P i a) : ∃ l : List α, l.length = n ∧ ∀ (i : Nat) (hi : i < l.length), P i l[i] := by
  refine ⟨List.ofFn fun i : Fin n => Classical.choose (h i.1 i.2), by simp, fun i hi => ?_⟩
  rw [List.getElem_ofFn]
  exact Classical.choose_spec (h i (by simpa using hi))
theorem mem_weightsAllZ {H : Type} {P : Program} {e : TypeId} : ∀ {ds : List (DataW H)} {d : DataW H}, d ∈ ds → ∀ n ∈ d.weights P e, n ∈ DataW.weightsAll P e ds
  | c :: r, d, hd, n, hn => by
    simp only [DataW.weightsAll, List.mem_append]
    rcases List.mem_cons.1 hd with rfl | hd
    · exact .inl hn
    · exact .inr (mem_weightsAllZ hd n hn)
/-- A word with its places. -/
structure Wz where
  x : Wd
  fr : Int
  ti : Int
def Wz.cells (z : Wz) : List Value := [.int .u8 (z.x.kind : Int), .int .i64 z.fr, .int .i64 z.ti, .string ⟨z.x.text.toArray⟩, .int .u64 (z.x.s0 : Int), .int .u64 (z.x.s1 : Int), .int .u64 (z.x.s2 : Int), .int .u64 (z.x.s3 : Int), .int .i64 z.x.low, .int .i64 z.x.high]
section
variable {H : Type} {enc : TypeId × Value → H} {W : World}
theorem opens_word {n : Nat} {cs : List Value} {y : DataW H × List MemPlace} (h : DataW.trod enc Tryd.prog W 0 (fun _ => true) true n 32 cs = some y) (hw : ∀ k ∈ y.1.weights Tryd.prog 32, k ≤ reachBytes) :
    ∃ z : Wz, cs = z.cells ∧ small z.x ∧ z.x.text.length ≤ reachBytes := by
  obtain ⟨xs, m, _, rfl, hcl, hlen, hg⟩ := DataW.trod_struct Tryd.underlying32 h
  rw [show Tryd.prog.cellsOf 32 = 10 by kernel_rfl] at hcl
  have k1 : Tryd.prog.cellsOf 5 = 1 := by kernel_rfl
  have k2 : Tryd.prog.cellsOf 30 = 4 := by kernel_rfl
  have k3 : Tryd.prog.cellsOf 9 = 1 := by kernel_rfl
  have k4 : Tryd.prog.cellsOf 3 = 1 := by kernel_rfl
  have k6 : Tryd.prog.cellsOf 28 = 1 := by kernel_rfl
  match cs, hcl, xs, hlen with
  | [c0, c1, c2, c3, c4, c5, c6, c7, c8, c9], _, [y0, y1, y2, y3, y4, y5, y6], _ =>
    have g0 : DataW.trod enc Tryd.prog W 0 (fun _ => true) true m 5 [c0] = some y0 := by simpa [k1] using hg 0 _ rfl
    have g1 : DataW.trod enc Tryd.prog W 0 (fun _ => true) true m 3 [c1] = some y1 := by simpa [k4] using hg 1 _ rfl
    have g2 : DataW.trod enc Tryd.prog W 0 (fun _ => true) true m 3 [c2] = some y2 := by simpa [k4] using hg 2 _ rfl
    have g3 : DataW.trod enc Tryd.prog W 0 (fun _ => true) true m 9 [c3] = some y3 := by simpa [k3] using hg 3 _ rfl
    have g4 : DataW.trod enc Tryd.prog W 0 (fun _ => true) true m 30 [c4, c5, c6, c7] = some y4 := by simpa [k2] using hg 4 _ rfl
    have g5 : DataW.trod enc Tryd.prog W 0 (fun _ => true) true m 3 [c8] = some y5 := by simpa [k4] using hg 5 _ rfl
    have g6 : DataW.trod enc Tryd.prog W 0 (fun _ => true) true m 3 [c9] = some y6 := by simpa [k4] using hg 6 _ rfl
    obtain ⟨kd, q0, _, b0⟩ := DataW.trod_int Tryd.underlying5 g0
    obtain ⟨fr, q1, _, _⟩ := DataW.trod_int Tryd.underlying3 g1
    obtain ⟨ti, q2, _, _⟩ := DataW.trod_int Tryd.underlying3 g2
    obtain ⟨tx, q3, e3, _⟩ := DataW.trod_string Tryd.underlying9 g3
    obtain ⟨lo, q5, _, _⟩ := DataW.trod_int Tryd.underlying3 g5
    obtain ⟨hi, q6, _, _⟩ := DataW.trod_int Tryd.underlying3 g6
    obtain ⟨zs, m', _, _, _, hzl, hz⟩ := DataW.trod_array Tryd.underlying30 g4
    simp only [k6] at hz
    have hz0 := hz 0 (by decide)
    have hz1 := hz 1 (by decide)
    have hz2 := hz 2 (by decide)
    have hz3 := hz 3 (by decide)
    match zs, hzl with
    | [z0, z1, z2, z3], _ =>
      have f0 : DataW.trod enc Tryd.prog W 0 (fun _ => true) true m' 28 [c4] = some z0 := by simpa using hz0
      have f1 : DataW.trod enc Tryd.prog W 0 (fun _ => true) true m' 28 [c5] = some z1 := by simpa using hz1
      have f2 : DataW.trod enc Tryd.prog W 0 (fun _ => true) true m' 28 [c6] = some z2 := by simpa using hz2
      have f3 : DataW.trod enc Tryd.prog W 0 (fun _ => true) true m' 28 [c7] = some z3 := by simpa using hz3
      obtain ⟨s0, p0, _, u0⟩ := DataW.trod_int Tryd.underlying28 f0
      obtain ⟨s1, p1, _, u1⟩ := DataW.trod_int Tryd.underlying28 f1
      obtain ⟨s2, p2, _, u2⟩ := DataW.trod_int Tryd.underlying28 f2
      obtain ⟨s3, p3, _, u3⟩ := DataW.trod_int Tryd.underlying28 f3
      have hts : tx.data.toList.length ≤ reachBytes := hw tx.data.toList.length (by
          rw [DataW.weights, Tryd.underlying32]
          exact DataW.weights_mem_each (j := 3) rfl rfl _ (by show _ ∈ y3.1.weights _ _; rw [e3]; exact List.mem_cons_self))
      simp only [List.cons.injEq, and_true] at q0 q1 q2 q3 q5 q6 p0 p1 p2 p3
      subst q0 q1 q2 q3 q5 q6 p0 p1 p2 p3
      have h0 := bounds_u8 b0
      have h1 := bounds_u64 u0; have h2 := bounds_u64 u1; have h3 := bounds_u64 u2; have h4 := bounds_u64 u3
      refine ⟨⟨⟨kd.toNat, 0, 0, tx.data.toList, s0.toNat, s1.toNat, s2.toNat, s3.toNat, lo, hi⟩, fr, ti⟩, ?_, ⟨by show s0.toNat < _; omega, by show s1.toNat < _; omega, by show s2.toNat < _; omega, by show s3.toNat < _; omega⟩, hts⟩
      unfold Wz.cells
      simp only
      rw [Int.toNat_of_nonneg h0.1, Int.toNat_of_nonneg h1.1, Int.toNat_of_nonneg h2.1, Int.toNat_of_nonneg h3.1, Int.toNat_of_nonneg h4.1]
/-- A row of words with places. -/
theorem open_words {base : Nat} {v : Value} {d : DataW H} {p : List MemPlace} (hok : Value.okWide Tryd.prog W .any base 24 v) (h : DataW.Trod enc Tryd.prog W 0 (fun _ => true) true 24 v d p) (hw : ∀ n ∈ d.weights Tryd.prog 24, n ≤ reachBytes) :
    ∃ A c ls f t, v = .slice A ls.length c ∧ WRowZ W A ls f t ∧ (∀ x ∈ ls, small x ∧ x.text.length ≤ reachBytes) ∧ ls.length ≤ reachBytes := by
  obtain ⟨a0, len, cap, rfl⟩ := okWide_slice Tryd.underlying24 hok
  obtain ⟨fuel, hf⟩ := h
  have hf' : DataW.trod enc Tryd.prog W 0 (fun _ => true) true fuel 24 [.slice a0 len cap] = some (d, p) := by simpa [Value.cells] using hf
  have hc : Tryd.prog.cellsOf 32 = 10 := by kernel_rfl
  have hbt : 1 ≤ Tryd.prog.bytesOf 32 := of_decide_eq_true (by kernel_rfl)
  rcases open_slice Tryd.underlying24 hf' with ⟨e2, _⟩ | ⟨a, len', cap', m, n', D, Pl, e2, _, hlc, hcm, hm, hx, hi⟩
  · simp only [List.cons.injEq, and_true, Value.slice.injEq] at e2
    obtain ⟨rfl, rfl, rfl⟩ := e2
    exact ⟨none, 0, [], fun _ => 0, fun _ => 0, rfl, fun k hk => by simp at hk, fun x hx => by simp at hx, by simp⟩
  · simp only [List.cons.injEq, and_true, Value.slice.injEq] at e2
    obtain ⟨rfl, rfl, rfl⟩ := e2
    obtain rfl : d = .slice ((List.range len).map D) ((List.range (m - len)).map fun j => D (len + j)) := congrArg Prod.fst hx
    have hwl : len * Tryd.prog.bytesOf 32 ≤ reachBytes := by
      have := hw ((((List.range len).map D).length + ((List.range (m - len)).map fun j => D (len + j)).length) * Tryd.prog.bytesOf 32) (by rw [DataW.weights, Tryd.underlying24]; exact List.mem_cons_self)
      simp only [List.length_map, List.length_range] at this
      exact Nat.le_trans (Nat.mul_le_mul_right _ (by omega)) this
    have hlr : len ≤ reachBytes := Nat.le_trans (Nat.le_mul_of_pos_right len hbt) hwl
    obtain ⟨l, hll, hl⟩ := list_chooseZ (n := len) (P := fun i (z : Wz) => (∀ j, j < 10 → W.cell? ((a.add (i * 10)).add j) = z.cells[j]?) ∧ small z.x ∧ z.x.text.length ≤ reachBytes) (fun i hil => by
      obtain ⟨cs', hc', ht'⟩ := hi i (by simp only [if_true] at hm; omega)
      rw [hc] at hc'
      obtain ⟨_, hcl, hat⟩ := World.cells?_some hc'
      obtain ⟨z, rfl, hz⟩ := opens_word ht' (fun k hk => hw k (by
        have hmem : D i ∈ (List.range len).map D := List.mem_map.2 ⟨i, List.mem_range.2 hil, rfl⟩
        rw [DataW.weights, Tryd.underlying24]
        exact List.mem_cons_of_mem _ (List.mem_append.2 (.inl (mem_weightsAllZ hmem k hk)))))
      exact ⟨z, hat, hz⟩)
    subst hll
    obtain ⟨b, o, sp⟩ := a
    refine ⟨some ⟨b, o, sp⟩, cap, l.map Wz.x, fun k => (l[k]?.map Wz.fr).getD 0, fun k => (l[k]?.map Wz.ti).getD 0, by rw [List.length_map], fun k hk => ?_, fun x hx => ?_, by rw [List.length_map]; omega⟩
    · rw [List.length_map] at hk
      have hcell := (hl k hk).1
      have h00 := (hl 0 (by omega)).1 0 (by decide)
      have hsp : sp = none := by
        cases sp with
        | none => rfl
        | some s =>
          simp only [World.cell?, Addr.add, Wz.cells, Nat.zero_mul, if_true] at h00
          split at h00
          · simp at h00
          · cases h00
      subst hsp
      have ha : ∀ j, ((⟨b, o, none⟩ : Addr).add (k * 10)).add j = ⟨b, o + k * 10 + j, none⟩ := fun j => by unfold Addr.add; split <;> split <;> simp_all
      have hg : ∀ j, j < 10 → W.cell? ⟨b, o + k * 10 + j, none⟩ = l[k].cells[j]? := fun j hj => by rw [← ha]; exact hcell j hj
      have e : l[k]? = some l[k] := List.getElem?_eq_getElem hk
      simp only [e, Option.map_some, Option.getD_some, List.getElem_map]
      have h0 := hg 0 (by decide)
      exact ⟨b, o, rfl, cellLt h0, h0, hg 1 (by decide), hg 2 (by decide), hg 3 (by decide), hg 4 (by decide), hg 5 (by decide), hg 6 (by decide), hg 7 (by decide), hg 8 (by decide), hg 9 (by decide)⟩
    · obtain ⟨z, hz, rfl⟩ := List.mem_map.1 hx
      obtain ⟨i, hi2, rfl⟩ := List.mem_iff_getElem.1 hz
      exact (hl i hi2).2
end
end Go.Proofs.YtidcoldoalimfaaDoor
