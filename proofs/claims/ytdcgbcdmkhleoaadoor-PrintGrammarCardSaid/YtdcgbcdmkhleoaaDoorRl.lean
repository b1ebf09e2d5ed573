/- The contract of bonsailaw08.long: long, or else small. -/
import Derived.Test.YtdcgbcdmkhleoaaDoorIm
namespace Go.Proofs.YtdcgbcdmkhleoaaDoor
open Go.RowKit
set_option linter.unusedSimpArgs false
set_option linter.unusedVariables false

def Small8 (t : Lt) : Prop := t.ls.length ≤ 3000 ∧ ∀ l ∈ t.ls, l.nd.kids.length ≤ 3000
def LongPost (ks : List Lt) (w : World) (e : Ending) (w' : World) : Prop := ∃ r, e = .returned (.bool r) ∧ (r = false → ∀ t ∈ ks, Small8 t) ∧ Below w.heap.size w w'
def LongOut (w : World) (ks : List Lt) (i n : Value) (wr : World) : Prop := ∃ p nn : Nat, p ≤ ks.length ∧ i = .int .i64 p ∧ n = .int .i64 nn ∧ nn ≤ 9000 ∧ Hid (nn < 3000 → ∀ t ∈ ks.take p, Small8 t) ∧ Hid (Below w.heap.size w wr)
def LongIn (w : World) (ks : List Lt) (p : Nat) (ls : List Ln) (i n : Value) (wr : World) : Prop := ∃ q nn : Nat, q ≤ ls.length ∧ i = .int .i64 q ∧ n = .int .i64 nn ∧ nn ≤ 9000 ∧ Hid (nn < 3000 → q ≤ nn ∧ (∀ t ∈ ks.take p, Small8 t) ∧ ∀ l ∈ ls.take q, l.nd.kids.length ≤ 3000) ∧ Hid (Below w.heap.size w wr)

set_option maxRecDepth 100000 in
set_option maxHeartbeats 12800000 in
theorem long_any (ks : List Lt) (L : Option Addr) (lc : Nat) (S : Nat → Prop) (w : World) (hL : ttL.row w S L ks) (hl : ks.length ≤ 100000) :
    Calls Tryd.prog 8 #[.slice L ks.length lc] w (LongPost ks w) := by
  have HL := Lib.hid hL; clear hL
  go_enter Tryd.func8, Tryd.ntmps8
  go_wp2_with fail
  go_loopw [4, 3] (fun i n wr => LongOut w ks i n wr) (fun i _ _ => ks.length - (intOf i).toNat)
  case atStart => exact ⟨0, 0, Nat.zero_le _, rfl, rfl, by omega, Lib.hid (by simp), Lib.hid (Below.refl _ _)⟩
  case round =>
    obtain ⟨p, nn, hp, rfl, rfl, hn, HS, HB⟩ := hrel
    by_cases hgo : p < ks.length ∧ nn < 3000
    · obtain ⟨hp1, hn1⟩ := hgo
      have i1 : (p : Int) < (ks.length : Int) := by omega
      have i2 : (0 : Int) ≤ (p : Int) := by omega
      have i3 : (nn : Int) < 3000 := by omega
      obtain ⟨b, o, hLL, _, _, x0, x1⟩ := ttRow (HL.out.below HB.out) p hp1
      subst hLL
      have HXX := Lib.hid (show ∀ w', Below w.heap.size w w' → w'.cell? ⟨b, o + p * 2, none⟩ = some (.slice ks[p].A ks[p].ls.length ks[p].c) from fun w' h => by
        obtain ⟨b', o', e, _, _, h0, _⟩ := ttRow (HL.out.below h) p hp1
        cases e; exact h0)
      have HIN := Lib.hid (show ∀ w', Below w.heap.size w w' → Lt.inn w' S ks[p] from fun w' hb => (HL.out.below hb).sub p hp1)
      have HTK := Lib.hid (show ks.take (p + 1) = ks.take p ++ [ks[p]] from List.take_succ_eq_append_getElem hp1)
      generalize ks[p] = t at *
      obtain ⟨A, c, ls, root⟩ := t
      simp only at HXX x0 x1
      clear x0 x1
      go_wp2_with fail
      go_loopw [5, 3] (fun i n wx => LongIn w ks p ls i n wx) (fun i _ _ => ls.length - (intOf i).toNat)
      case atStart => exact ⟨0, nn + 1, Nat.zero_le _, rfl, by go_num, by omega, Lib.hid (fun h => ⟨Nat.zero_le _, HS.out (by omega), by simp⟩), HB⟩
      case round =>
        clear HS HB hn i3 hn1
        obtain ⟨q, n2, hq, rfl, rfl, hn2, HS2, HB⟩ := hrel
        have x0 := HXX.out wr HB.out
        by_cases hgo2 : q < ls.length ∧ n2 < 3000
        · obtain ⟨hq1, hn3⟩ := hgo2
          have j1 : (q : Int) < (ls.length : Int) := by omega
          have j2 : (0 : Int) ≤ (q : Int) := by omega
          have j3 : (n2 : Int) < 3000 := by omega
          have HSN := Lib.hid (HIN.out wr HB.out).2
          have hll : ls.length ≤ 281474976710656 := (HIN.out wr HB.out).1
          obtain ⟨nb, no, hnb, _, _, v0, v1, v2, v3, v4, v5, v6, v7, v8⟩ := ndRow HSN.out q hq1
          have hts := (HSN.out.sub q hq1).1.2.1
          have hkl := (HSN.out.sub q hq1).1.2.2.1
          have HTN := Lib.hid (show ls.take (q + 1) = ls.take q ++ [ls[q]] from List.take_succ_eq_append_getElem hq1)
          generalize ls[q] = nd at *
          simp only at hnb
          rw [hnb] at x0
          have hw0 : IntKind.i64.wrap ((n2 : Int) + 1) = (n2 : Int) + 1 := IntWalk.i64_in _ (by omega)
          have hw1 : IntKind.i64.wrap ((n2 : Int) + 1 + min 3000 (nd.nd.kids.length : Int)) = (n2 : Int) + 1 + min 3000 (nd.nd.kids.length : Int) := IntWalk.i64_in _ (by omega)
          obtain ⟨n3, hn3'⟩ : ∃ n3 : Nat, (n3 : Int) = (n2 : Int) + 1 + min 3000 (nd.nd.kids.length : Int) + min 3000 (nd.nd.text.size : Int) / 20 := ⟨n2 + 1 + min 3000 nd.nd.kids.length + min 3000 nd.nd.text.size / 20, by omega⟩
          have hb3 : n3 ≤ 9000 := by omega
          have HFX := Lib.hid (show n3 < 3000 → n2 < 3000 ∧ n2 + 1 ≤ n3 ∧ nd.nd.kids.length ≤ 3000 from fun h => by omega)
          have HN3 := Lib.hid hn3'
          clear hn3'
          as_aux_lemma =>
            go_wp2_with fail
            go_quiet (fail)
            clear hw0 hw1
            rw [← HN3.out]
            go_wp2_with fail
            refine ⟨⟨q + 1, n3, by omega, by go_num, rfl, hb3, Lib.hid (fun h => ?_), Lib.hid (HB.out.trans ((drewN_below' (Below.refl _ _) _).mono HB.out.size))⟩, by simp only [intOf]; omega⟩
            have h3 := HFX.out h
            have h2 := HS2.out h3.1
            refine ⟨by omega, h2.2.1, fun l hl => ?_⟩
            rw [HTN.out] at hl
            rcases List.mem_append.1 hl with hl | hl
            · exact h2.2.2 l hl
            · simp only [List.mem_singleton] at hl; subst hl; exact h3.2.2
        · have HNX := Lib.hid (show n2 < 3000 → ∀ t ∈ ks.take (p + 1), Small8 t from fun h => by
            have h2 := HS2.out h
            have hqq : q = ls.length := by omega
            intro t ht
            rw [HTK.out] at ht
            rcases List.mem_append.1 ht with ht | ht
            · exact h2.2.1 t ht
            · simp only [List.mem_singleton] at ht; subst ht
              exact ⟨by show ls.length ≤ 3000; omega, fun l hl => h2.2.2 l (by rw [hqq, List.take_length]; exact hl)⟩)
          by_cases hq1 : q < ls.length
          · have j1 : (q : Int) < (ls.length : Int) := by omega
            have j3 : ¬ (n2 : Int) < 3000 := by omega
            as_aux_lemma =>
              go_wp2_with fail
              exact ⟨⟨p + 1, n2, by omega, by go_num, rfl, hn2, HNX, HB⟩, by simp only [intOf]; omega⟩
          · have j1 : ¬ (q : Int) < (ls.length : Int) := by omega
            as_aux_lemma =>
              go_wp2_with fail
              exact ⟨⟨p + 1, n2, by omega, by go_num, rfl, hn2, HNX, HB⟩, by simp only [intOf]; omega⟩
    · by_cases hp1 : p < ks.length
      · have i1 : (p : Int) < (ks.length : Int) := by omega
        have i3 : ¬ (nn : Int) < 3000 := by omega
        have i4 : (3000 : Int) ≤ (nn : Int) := by omega
        as_aux_lemma =>
          go_wp2_with fail
          go_ret
          exact ⟨true, rfl, (fun h => by cases h), HB.out⟩
      · have hpe : p = ks.length := by omega
        have HSE := Lib.hid (show nn < 3000 → ∀ t ∈ ks, Small8 t from fun h => by
          have h2 := HS.out h
          rw [hpe, List.take_length] at h2; exact h2)
        have i1 : ¬ (p : Int) < (ks.length : Int) := by omega
        clear HS hpe
        by_cases hn1 : nn < 3000
        · have i3 : (nn : Int) < 3000 := by omega
          have i4 : ¬ (3000 : Int) ≤ (nn : Int) := by omega
          as_aux_lemma =>
            go_wp2_with fail
            go_ret
            exact ⟨false, rfl, fun _ => HSE.out hn1, HB.out⟩
        · have i3 : ¬ (nn : Int) < 3000 := by omega
          have i4 : (3000 : Int) ≤ (nn : Int) := by omega
          as_aux_lemma =>
            go_wp2_with fail
            go_ret
            exact ⟨true, rfl, (fun h => by cases h), HB.out⟩
end Go.Proofs.YtdcgbcdmkhleoaaDoor
