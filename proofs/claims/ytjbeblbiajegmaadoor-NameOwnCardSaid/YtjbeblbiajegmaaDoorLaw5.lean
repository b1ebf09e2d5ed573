/- The walks of the statements NameFree, NameOwn. -/
import Derived.Test.YtjbeblbiajegmaaDoorLaw1
import Derived.Test.YtjbeblbiajegmaaDoorApp
import Derived.ProofKit
import Derived.SizedLaws
namespace Go.Proofs.YtjbeblbiajegmaaDoor
open Go.RowKit

theorem infoStr : (Tryd.prog.info? 9).map (fun i => (i.zero, i.size, i.bytes)) = some (some (.string ⟨#[]⟩), 1, 16) := by kernel_rfl

theorem StrsAt.row {w : World} {a : Option Addr} {n c : Nat} {ss : List ByteArray} (h : StrsAt w (.slice a n c) ss) : n = ss.length ∧ RowAt w a (ss.map Value.string) := by
  obtain ⟨a', c', e, hc⟩ := h
  injection e with e1 e2 e3
  subst e1; subst e2
  refine ⟨rfl, fun j u hu => ?_⟩
  obtain ⟨s, hs, rfl⟩ : ∃ s, ss[j]? = some s ∧ Value.string s = u := by simpa using hu
  have hj := (List.getElem?_eq_some_iff.1 hs).1
  obtain ⟨b, o, rfl, hb⟩ := hc j hj
  refine ⟨_, rfl, ?_⟩
  have : (⟨b, o, none⟩ : Addr).add j = ⟨b, o + j, none⟩ := by unfold Addr.add; split <;> simp_all
  rw [this, hb]
  rw [List.getElem?_eq_getElem hj] at hs; cases hs; rfl
theorem StrsAt.of_row {w : World} {a : Option Addr} {c : Nat} {ss : List ByteArray} (h : RowAt w a (ss.map Value.string)) : StrsAt w (.slice a ss.length c) ss := by
  refine ⟨a, c, rfl, fun i hi => ?_⟩
  obtain ⟨ad, rfl, hc⟩ := h i (.string ss[i]) (by simp [List.getElem?_eq_getElem hi])
  obtain ⟨b, o, sp⟩ := ad
  have hsp : sp = none := by
    obtain ⟨ad, e0, hc0⟩ := h 0 (.string ss[0]) (by simp [List.getElem?_eq_getElem (show 0 < ss.length by omega)])
    cases e0
    cases sp with
    | none => rfl
    | some s =>
      simp only [World.cell?, Addr.add] at hc0
      split at hc0
      · simp at hc0
      · cases hc0
  subst hsp
  refine ⟨b, o, rfl, ?_⟩
  have : (⟨b, o, none⟩ : Addr).add i = ⟨b, o + i, none⟩ := by unfold Addr.add; split <;> simp_all
  rw [← this]; exact hc
theorem one_strs (ss : List ByteArray) : ∀ u ∈ ss.map Value.string, u.oneCell' = true := by
  intro u hu; obtain ⟨s, _, rfl⟩ := List.mem_map.1 hu; rfl
theorem ownsRow_slice {w : World} {base n : Nat} {e : TypeId} {size : Nat} {v : Value} {xs : List Value} (h : w.ownsRow base e size v n xs) : ∃ A c, v = .slice A n c := by
  rcases h.2 with ⟨rfl, rfl⟩ | ⟨g, cap, cur, rfl, _⟩
  · exact ⟨_, _, rfl⟩
  · exact ⟨_, _, rfl⟩

theorem strs_at {w : World} {A : Option Addr} {n c : Nat} {ss : List ByteArray} (h : StrsAt w (.slice A n c) ss) {k : Nat} (hk : k < ss.length) : ∃ b o, A = some ⟨b, o, none⟩ ∧ w.cell? ⟨b, o + k, none⟩ = some (.string ss[k]) := by
  obtain ⟨a', c', e, hc⟩ := h
  injection e with e1 e2 e3
  subst e1
  exact hc k hk

set_option maxRecDepth 100000 in
set_option maxHeartbeats 2000000 in
theorem nameFree_walk (stem : ByteArray) (v : Value) (ss : List ByteArray) (w : World) (ht : Tab w) (hg : 1 < w.heap.size) (hs : stem.size ≤ maxLen) (hv : StrsAt w v ss) (hlen : ss.length ≤ maxLen) (hsz : ∀ s ∈ ss, s.size ≤ maxLen) :
    Calls Tryd.prog 3 #[.string stem, v] w fun e w' => e = .returned (.bool true) ∧ Below w.heap.size w w' := by
  unfold maxLen at hs hlen
  have hvs := Lib.hid hv
  have hvr : ∀ {a n c}, v = .slice a n c → RowAt w a (ss.map Value.string) := fun e => by subst e; exact (StrsAt.row hv).2
  obtain ⟨a, cap, rfl, hcells⟩ := hv
  clear hcells
  replace hvr := hvr rfl
  have HSZ := Lib.hid hsz; clear hsz
  by_cases hsz : stem.size ≤ 200 ∧ ss.length ≤ 300
  · obtain ⟨hz1, hz2⟩ := hsz
    obtain ⟨i0, hi, hz0, hzs, hzb⟩ := info_parts infoStr
    go_enter Tryd.func3, Tryd.ntmps3
    go_wp2_with (first | (at_builtin; refine wpList_append_row _ rfl (.tmp 16) (.tmp 17) _ rfl w.heap.size 9 i0 (.string ⟨#[]⟩) 1 16 Tryd.underlying22 hi hz0 hzs hzb rfl (by decide) (.slice (some ⟨w.heap.size, 0, none⟩) 0 0) 0 [] rfl (World.ownsRow_made w #[] 0 (Nat.le_refl _) (by decide) rfl) a ss.length cap (ss.map Value.string) rfl (by simp) (hvr.below ((Below.refl _ w).alloc (Nat.le_refl _) _)) (one_strs ss) (by unfold maxLen; omega) (by omega) (by simp) ?_; intro v1 w1 hown1 hgrow1))
    rw [Nat.zero_add, List.nil_append] at hown1
    obtain ⟨A1, c1, rfl⟩ := ownsRow_slice hown1
    have hB1 : Below w.heap.size w w1 := ((Below.refl _ w).alloc (Nat.le_refl _) _).grown hgrow1 (by simp) (fun k e => by cases e; exact Nat.le_refl _)
    have hst1 := Lib.hid (StrsAt.of_row (c := c1) (RowAt.own hown1))
    clear hown1 hgrow1 hvr
    go_wp2_with fail
    refine (free_any stem (by omega) _ ss _ (tab_below hB1 hg ht) (Nat.lt_of_lt_of_le hg hB1.size) hst1.out (by omega) HSZ.out).mono ?_
    rintro e w2 ⟨t, rfl, hfr, hB2⟩
    have HF := Lib.hid hfr; clear hfr
    have hB3 := hB1.trans (hB2.mono hB1.size)
    have hst2 := Lib.hid (hst1.out.below hB2); clear hst1 hB2 hB1
    go_wp2_with fail
    refine (rfree_any stem (by omega) _ ss _ (hvs.out.below hB3) (by omega)).mono ?_
    rintro e w3 ⟨u, rfl, hfr, hB4⟩
    obtain rfl : u = t := str_ext (FreeIs.unique hfr HF.out)
    clear hfr HF
    have hB5 := hB3.trans (hB4.mono hB3.size)
    have hst3 := Lib.hid (hst2.out.below hB4); clear hst2 hB3 hB4
    have hst4 := Lib.hid (hvs.out.below hB5)
    have huu : (u.toList == u.toList) = true := by simp
    go_wp2_with fail
    go_loopw [6] (fun i wr => ∃ (k n : Nat), k ≤ ss.length ∧ i = .int .i64 k ∧ wr = w3.drewN n) (fun i _ => ss.length - (intOf i).toNat)
    case atStart => exact ⟨0, 0, by omega, rfl, rfl⟩
    case round =>
      obtain ⟨k, n, hk, rfl, rfl⟩ := hrel
      by_cases hlt : k < ss.length
      · obtain ⟨b1, o1, e1, hc1⟩ := strs_at hst3.out hlt
        obtain ⟨b2, o2, e2, hc2⟩ := strs_at hst4.out hlt
        subst e1; subst e2
        generalize ss[k] = s at hc1 hc2
        have hss : (s.toList == s.toList) = true := by simp
        have hi1 : (k : Int) < (ss.length : Int) := by omega
        go_wp2_with fail
        go_quiet (fail)
        go_wp2_with fail
        exact ⟨⟨k + 1, _, by omega, by go_num, rfl⟩, by simp [intOf]; omega⟩
      · have hBn : Below w.heap.size w (w3.drewN n) := hB5.trans ⟨rfl, rfl, rfl, Nat.le_refl _, fun _ _ => rfl⟩
        go_wp2_with fail
        refine (works_any _ (tab_below hBn hg ht) (Nat.lt_of_lt_of_le hg hBn.size)).mono ?_
        rintro e w9 ⟨rfl, hB9⟩
        go_wp2_with fail
        go_ret
        exact ⟨rfl, hBn.trans (hB9.mono hBn.size)⟩
  · have hsz2 : (200 < stem.size) ∨ (¬ 200 < stem.size ∧ 300 < ss.length) := by omega
    clear hsz
    rcases hsz2 with hz1 | ⟨hz1, hz2⟩
    all_goals
      go_enter Tryd.func3, Tryd.ntmps3
      go_wp2_with fail
      refine (works_any _ ht hg).mono ?_
      rintro e w1 ⟨rfl, hB⟩
      go_wp2_with fail
      go_ret
      exact ⟨rfl, hB⟩

open Go.ChangeShapes Go.WideShapes Go.ChangeAt in
theorem open_strs {H : Type} {enc : TypeId × Value → H} {W : World} {base : Nat} {t : TypeId} {v : Value} {d : DataW H} {p : List MemPlace} {ts : List TypeId} {ds : List (DataW H)} (hu : Tryd.prog.underlying t = some (.slice 9))
    (hok : Value.okWide Tryd.prog W .any base t v) (h : DataW.Trod enc Tryd.prog W 0 (fun _ => true) true t v d p) (hsz : (DataW.weightsEach Tryd.prog ts ds).all (· ≤ reachBytes) = true) {j : Nat} (ht : ts[j]? = some t) (hd : ds[j]? = some d) :
    ∃ ss : List ByteArray, StrsAt W v ss ∧ ss.length ≤ 140737488355328 ∧ ∀ s ∈ ss, s.size ≤ maxLen := by
  obtain ⟨a0, len, cap, rfl⟩ := okWide_slice hu hok
  obtain ⟨fuel, hf⟩ := h
  rcases open_strings hu Tryd.underlying9 (by kernel_rfl) hf with ⟨hcs, hx⟩ | ⟨a, len', cap', ss, hcs, _, hl, hm, hz, hx, hcell, hws⟩
  · simp [Value.cells] at hcs
    obtain ⟨rfl, rfl, rfl⟩ := hcs
    exact ⟨[], ⟨none, 0, rfl, fun i hi => by simp at hi⟩, by simp, by simp⟩
  · simp [Value.cells] at hcs
    obtain ⟨rfl, rfl, rfl⟩ := hcs
    simp only [if_true] at hz
    have hlen : (ss.take len).length = len := by simp; omega
    have hr : RowAt W (some a) ((ss.take len).map Value.string) := fun j u hu => by
      have hj : j < len := by have := (List.getElem?_eq_some_iff.1 hu).1; simp at this; omega
      refine ⟨a, rfl, ?_⟩
      rw [hcell j (by omega)]
      rw [← hu, List.getElem?_map, List.getElem?_take, if_pos hj, List.getElem?_eq_getElem (by omega)]
      simp [List.getD, List.getElem?_eq_getElem (show j < ss.length by omega)]
    refine ⟨ss.take len, ?_, ?_, fun s hs => hws s (List.mem_of_mem_take hs)⟩
    · have := StrsAt.of_row (c := cap) hr; rwa [hlen] at this
    · obtain ⟨rfl, _⟩ := Prod.mk.inj hx
      have := sized_slice hsz ht hd hu
      rw [show Tryd.prog.bytesOf 9 = 16 by kernel_rfl] at this
      have hb := reachBytes_lt
      rw [hlen]
      simp only [List.length_map, strs, List.length_take, List.length_drop] at this
      omega
end Go.Proofs.YtjbeblbiajegmaaDoor
