/- An argument that is a row of bytes, opened. -/
import Derived.Test.YtidcoldoalimfaaQm
import Derived.Deep.Slices
import Derived.WideShapes
import Derived.Below
import Derived.ProofKit
import Derived.OpenShut
import Derived.ShutString
namespace Go.Proofs.Ytidcoldoalimfaa
open Go.RowKit Go.ChangeShapes Go.WideShapes Go.Deep
set_option linter.unusedSimpArgs false
set_option linter.unusedVariables false
set_option maxRecDepth 100000

/-- The bytes l lie at A. -/
def BytesAt (w : World) (A : Option Addr) (l : List UInt8) : Prop := ∀ k (hk : k < l.length), ∃ b o, A = some ⟨b, o, none⟩ ∧ b < w.heap.size ∧ w.cell? ⟨b, o + k, none⟩ = some (.int .u8 (l[k].toNat : Int))
theorem BytesAt.below {w w' : World} {A : Option Addr} {l : List UInt8} (h : BytesAt w A l) (hb : Below w.heap.size w w') : BytesAt w' A l := fun k hk => by
  obtain ⟨b, o, e, hl, hc⟩ := h k hk
  exact ⟨b, o, e, Nat.lt_of_lt_of_le hl hb.size, (hb.cell hl).trans hc⟩
theorem bytes_of {w : World} {A : Option Addr} {l : List UInt8} (h : RowAt w A (l.map fun b => .int .u8 (b.toNat : Int))) : BytesAt w A l := fun k hk => by
  have h0 : 0 < l.length := by omega
  obtain ⟨ad, e, hc0⟩ := h 0 (.int .u8 (l[0].toNat : Int)) (by simp [List.getElem?_eq_getElem h0])
  obtain ⟨b, o, sp⟩ := ad
  have hsp : sp = none := by
    cases sp with
    | none => rfl
    | some s =>
      simp only [World.cell?, Addr.add] at hc0
      split at hc0
      · simp at hc0
      · cases hc0
  subst hsp
  obtain ⟨ad, e', hc⟩ := h k (.int .u8 (l[k].toNat : Int)) (by simp [List.getElem?_eq_getElem hk])
  rw [e] at e'; cases e'
  have ha : (⟨b, o, none⟩ : Addr).add k = ⟨b, o + k, none⟩ := by unfold Addr.add; split <;> simp_all
  rw [ha] at hc
  exact ⟨b, o, e, cellLt hc, hc⟩
theorem open_bytes {H : Type} {enc : TypeId × Value → H} {W : World} {base : Nat} {t : TypeId} {v : Value} {d : DataW H} {p : List MemPlace} (hu : Try.prog.underlying t = some (.slice 5))
    (hok : Value.okWide Try.prog W .any base t v) (h : DataW.Trod enc Try.prog W 0 (fun _ => true) true t v d p) : ∃ A c l, v = .slice A l.length c ∧ BytesAt W A l ∧ l.length ≤ maxLen := by
  obtain ⟨a0, len, cap, rfl⟩ := okWide_slice hu hok
  obtain ⟨fuel, hf⟩ := h
  rcases open_slice1 hu (by kernel_rfl) hf with ⟨hcs, hx⟩ | ⟨a, len', cap', m, n, V, D, Pl, hcs, _, hl, hm, hmm, hx, hcell⟩
  · simp [Value.cells] at hcs
    obtain ⟨rfl, rfl, rfl⟩ := hcs
    exact ⟨none, 0, [], rfl, fun k hk => by simp at hk, by simp⟩
  · simp [Value.cells] at hcs
    obtain ⟨rfl, rfl, rfl⟩ := hcs
    simp only [if_true] at hmm
    have hb : ∀ i, i < len → ∃ x : UInt8, V i = .int .u8 (x.toNat : Int) := fun i hi => by
      obtain ⟨_, ht⟩ := hcell i (by omega)
      obtain ⟨k, e, _, hw⟩ := DataW.trod_int Try.underlying5 ht
      have hbd := bounds_u8 hw
      simp only [List.cons.injEq, and_true] at e
      refine ⟨UInt8.ofNat k.toNat, ?_⟩
      rw [e]
      congr 1
      have : (UInt8.ofNat k.toNat).toNat = k.toNat := by rw [UInt8.toNat_ofNat']; omega
      rw [this]; omega
    have hl2 : ((List.range len).map fun i => UInt8.ofNat (match V i with | .int _ k => k.toNat | _ => 0)).length = len := by simp
    refine ⟨some a, cap, (List.range len).map fun i => UInt8.ofNat (match V i with | .int _ k => k.toNat | _ => 0), by rw [hl2], bytes_of fun j u hu => ?_, by rw [hl2]; omega⟩
    have hj : j < len := by have := (List.getElem?_eq_some_iff.1 hu).1; simpa using this
    refine ⟨a, rfl, ?_⟩
    rw [(hcell j (by omega)).1]
    obtain ⟨x, hx⟩ := hb j hj
    rw [← hu]
    simp [hj, hx]
end Go.Proofs.Ytidcoldoalimfaa
