/- The walk of the statement NameOwn. -/
import Derived.Test.YtjbeblbiajegmaaDoorLaw5
import Derived.Test.YtjbeblbiajegmaaDoorLaw2
import Derived.Test.YtjbeblbiajegmaaDoorPb
namespace Go.Proofs.YtjbeblbiajegmaaDoor
open Go.RowKit

theorem FreeIs.name {stem : List UInt8} {used : List (List UInt8)} {t : List UInt8} (h : FreeIs stem used t) (hn : t ≠ []) : mayL t = true ∧ t ∉ used ∧ stem <+: t := by
  obtain ⟨k, _, h | h⟩ := h
  · obtain ⟨h1, h2, rfl⟩ := h
    refine ⟨h1, h2, ?_⟩
    unfold cand; split
    · exact List.prefix_rfl
    · exact List.prefix_append _ _
  · exact absurd h.2 hn
theorem alnum_digits (m : Nat) : (Lib.decDigits m).all alnum = true := by
  have := dd_allDig m
  rw [allDig, List.all_eq_true] at this
  rw [List.all_eq_true]
  intro c hc; rw [alnum, this c hc, Bool.or_true]
theorem cand_name (stem : List UInt8) (i : Nat) (h : mayL stem = true) (hl : (cand stem i).length ≤ 32) : mayL (cand stem i) = true := by
  simp only [mayL, decide_eq_true_eq] at h ⊢
  obtain ⟨h1, _, h3⟩ := h
  refine ⟨?_, hl, ?_⟩
  · unfold cand; split
    · exact h1
    · simp [h1]
  · unfold cand; split
    · exact h3
    · cases stem with
      | nil => exact absurd rfl h1
      | cons c r =>
        by_cases hc : isLetter c.toNat
        · simp only [takeL, hc, if_true] at h3
          have h4 : r.takeWhile alnum = r := by injection h3
          simp only [List.cons_append, takeL, hc, if_true]
          congr 1
          have e : ∀ i : Nat, Lib.itoa ((i : Int) + 1) = Lib.decDigits (i + 1) := fun i => by rw [← itoa_nat]; congr 1
          rw [e]
          have hr : (r ++ Lib.decDigits (i + 1)).all alnum = true := by
            rw [List.all_append, alnum_digits, Bool.and_true]
            rw [← h4]
            exact List.all_eq_true.2 fun x hx => by
              have : ∀ (l : List UInt8), x ∈ l.takeWhile alnum → alnum x = true := by
                intro l
                induction l with
                | nil => simp
                | cons a l ih =>
                  by_cases ha : alnum a
                  · rw [List.takeWhile_cons_of_pos ha]; intro hm
                    rcases List.mem_cons.1 hm with rfl | hm
                    · exact ha
                    · exact ih hm
                  · rw [List.takeWhile_cons_of_neg ha]; simp
              exact this _ hx
          have : ∀ (l : List UInt8), l.all alnum = true → l.takeWhile alnum = l := by
            intro l
            induction l with
            | nil => intro _; rfl
            | cons a l ih => intro h; rw [List.all_cons, Bool.and_eq_true] at h; rw [List.takeWhile_cons_of_pos h.1, ih h.2]
          exact this _ hr
        · simp only [takeL, hc] at h3; cases h3
/-- Where none is told: the stem is no name, or long, or all that are names are used. -/
theorem FreeIs.none_ {stem : List UInt8} {used : List (List UInt8)} (h : FreeIs stem used []) : mayL stem = false ∨ 28 < stem.length ∨ 3 < used.length := by
  obtain ⟨k, hk, h | h⟩ := h
  · have := h.1; rw [← h.2.2] at this; simp [mayL] at this
  · by_cases hm : mayL stem = true
    · by_cases hl : stem.length ≤ 28
      · right; right
        have hle := cand_le stem used k (fun i hi => (hk i hi).2)
        by_cases hk4 : k ≤ 3
        · exfalso
          have hlen : (cand stem k).length ≤ 32 := by
            have : ∀ k, k ≤ 3 → (cand stem k).length ≤ stem.length + 1 := by
              intro k hk
              obtain rfl | rfl | rfl | rfl : k = 0 ∨ k = 1 ∨ k = 2 ∨ k = 3 := by omega
              · simp [cand]
              · simp [cand, show Lib.itoa 2 = [50] by decide +kernel]
              · simp [cand, show Lib.itoa 3 = [51] by decide +kernel]
              · simp [cand, show Lib.itoa 4 = [52] by decide +kernel]
            have := this k hk4; omega
          have := cand_name stem k hm hlen
          rw [h.1] at this; cases this
        · omega
      · right; left; omega
    · left; simpa using hm

theorem row_new (w : World) (x : Value) (t : TypeId) : RowAt (w.alloc (.cells #[x] t)) (some ⟨w.heap.size, 0, none⟩) [x] := fun j u hu => by
  have hj : j = 0 := by have := (List.getElem?_eq_some_iff.1 hu).1; simp at this; omega
  subst hj
  simp at hu; subst hu
  exact ⟨_, rfl, (cell_new_l w x t).1⟩
theorem strs_snoc {w : World} {base : Nat} {e : TypeId} {v : Value} {ss : List ByteArray} {t : ByteArray} (h : w.ownsRow base e 1 v (ss.length + 1) (ss.map Value.string ++ [.string t])) : StrsAt w v (ss ++ [t]) := by
  obtain ⟨A, c, rfl⟩ := ownsRow_slice h
  have hr := RowAt.own h
  have : ss.map Value.string ++ [.string t] = (ss ++ [t]).map Value.string := by simp
  rw [this] at hr
  have := StrsAt.of_row (c := c) hr
  simpa using this

set_option maxRecDepth 100000 in
set_option maxHeartbeats 2000000 in
theorem nameOwn_walk (stem : ByteArray) (v : Value) (ss : List ByteArray) (w : World) (ht : Tab w) (hg : 1 < w.heap.size) (hs : stem.size ≤ maxLen) (hv : StrsAt w v ss) (hlen : ss.length ≤ maxLen) (hsz : ∀ s ∈ ss, s.size ≤ maxLen) :
    Calls Tryd.prog 6 #[.string stem, v] w fun e w' => e = .returned (.bool true) ∧ Below w.heap.size w w' := by
  unfold maxLen at hs hlen
  have hvs := Lib.hid hv
  have hvr : ∀ {a n c}, v = .slice a n c → RowAt w a (ss.map Value.string) := fun e => by subst e; exact (StrsAt.row hv).2
  obtain ⟨a, cap, rfl, hcells⟩ := hv
  clear hcells
  replace hvr := hvr rfl
  have HVR := Lib.hid hvr; clear hvr
  have HSZ := Lib.hid hsz; clear hsz
  by_cases hsz : stem.size ≤ 200 ∧ ss.length ≤ 300
  · obtain ⟨hz1, hz2⟩ := hsz
    obtain ⟨i0, hi, hz0, hzs, hzb⟩ := info_parts infoStr
    go_enter Tryd.func6, Tryd.ntmps6
    go_wp2_with fail
    refine (works_any _ ht hg).mono ?_
    rintro e w1 ⟨rfl, hB1⟩
    go_wp2_with fail
    refine (free_any stem (by omega) _ ss _ (tab_below hB1 hg ht) (Nat.lt_of_lt_of_le hg hB1.size) (hvs.out.below hB1) (by omega) HSZ.out).mono ?_
    rintro e w2 ⟨t, rfl, hfr, hB2⟩
    have hB3 := hB1.trans (hB2.mono hB1.size)
    clear hB1 hB2
    have hvs2 := Lib.hid (hvs.out.below hB3)
    have hvr2 := Lib.hid (HVR.out.below hB3)
    clear hvs HVR
    have HF := Lib.hid hfr; clear hfr
    by_cases h0 : 0 < t.size
    · have ⟨e1, e2⟩ := bytes_ne t h0
      obtain ⟨hmt, hnu, hpre⟩ := HF.out.name (by rw [bytes_pos t h0]; simp)
      have HNU := Lib.hid hnu; clear hnu
      have hle : stem.size ≤ t.size := by rw [← sz_data, ← sz_data]; exact hpre.length_le
      have hext := extract_take t stem hpre
      clear hpre
      have hts : t.size ≤ 32 := by have := (of_decide_eq_true (show decide _ = true from hmt)).2.1; rw [sz_data] at this; exact this
      go_wp2_with fail
      go_loop [6, 7] (fun h i => ∃ (k : Nat), k ≤ ss.length ∧ h = .bool false ∧ i = .int .i64 k) (fun _ i => ss.length - (intOf i).toNat)
      case atStart => exact ⟨0, by omega, rfl, rfl⟩
      case round =>
        obtain ⟨k, hk, rfl, rfl⟩ := hrel
        by_cases hlt : k < ss.length
        · obtain ⟨b1, o1, e3, hc1⟩ := strs_at hvs2.out hlt
          subst e3
          have hne : (ss[k].toList == t.toList) = false := by
            rw [beq_eq_false_iff_ne, Lib.toList_data, Lib.toList_data]
            intro e; exact HNU.out (by rw [← e]; exact List.mem_map_of_mem (List.getElem_mem hlt))
          generalize ss[k] = s at hc1 hne
          go_wp2_with fail
          exact ⟨⟨k + 1, by omega, rfl, by go_num⟩, by simp [intOf]; omega⟩
        · go_wp2_with (first
            | (at_builtin; refine wpList_append_row _ rfl (.tmp 56) (.tmp 57) _ rfl w.heap.size 9 i0 (.string ⟨#[]⟩) 1 16 Tryd.underlying22 hi hz0 hzs hzb rfl (by decide) (.slice (some ⟨w2.heap.size, 0, none⟩) 0 0) 0 [] rfl (World.ownsRow_made w2 #[] 0 hB3.size (by decide) rfl) a ss.length cap (ss.map Value.string) rfl (by simp) (hvr2.out.below ((Below.refl _ w2).alloc (Nat.le_refl _) _)) (one_strs ss) (by unfold maxLen; omega) (by omega) (by have := hB3.size; simp; omega) ?_; intro v1 w3 hown1 hgrow1; rw [Nat.zero_add, List.nil_append] at hown1; have hB4 : Below w.heap.size w w3 := (hB3.alloc hB3.size _).grown hgrow1 (by have := hB3.size; simp; omega) (fun k e => by cases e; exact hB3.size))
            | (at_builtin; refine wpList_append_row _ rfl (.tmp 58) (.tmp 60) _ rfl w.heap.size 9 i0 (.string ⟨#[]⟩) 1 16 Tryd.underlying22 hi hz0 hzs hzb rfl (by decide) v1 ss.length (ss.map Value.string) rfl (hown1.alloc _) (some ⟨w3.heap.size, 0, none⟩) 1 1 [.string t] rfl rfl (row_new _ _ _) (by simp [Value.oneCell']) (by unfold maxLen; omega) (by omega) (by have := hB4.size; simp; omega) ?_; intro v2 w4 hown2 hgrow2; have hB5 : Below w.heap.size w w4 := (hB4.alloc hB4.size _).grown hgrow2 (by have := hB4.size; simp; omega) (fun k e => (hown1.lt k e).1)))
          have hst2 := Lib.hid (strs_snoc hown2)
          clear hown2 hown1 hgrow2 hgrow1 hB4
          refine (free_any stem (by omega) _ (ss ++ [t]) _ (tab_below hB5 hg ht) (Nat.lt_of_lt_of_le hg hB5.size) hst2.out (by simp; omega) (fun s hs => (List.mem_append.1 hs).elim (HSZ.out s) (fun e => by simp at e; subst e; unfold maxLen; omega))).mono ?_
          rintro e w6 ⟨u, rfl, hfr, hB6⟩
          have hne : (u.toList == t.toList) = false := by
            rw [beq_eq_false_iff_ne, Lib.toList_data, Lib.toList_data]
            intro e
            have hun : u.data.toList ≠ [] := by rw [e, bytes_pos t h0]; simp
            exact (hfr.name hun).2.1 (by rw [e]; simp [toks])
          clear hfr
          have hB7 := hB5.trans (hB6.mono hB5.size)
          have hle2 : decide (t.size < stem.size) = false := by simp; omega
          have hle3 : decide (stem.size ≤ t.size) = true := by simp; omega
          go_wp2_with fail
          refine (may_any t _ (by omega)).mono ?_
          rintro e w8 ⟨rfl, hB8⟩
          go_wp2_with fail
          go_ret
          exact ⟨rfl, hB7.trans (hB8.mono hB7.size)⟩
    · have ⟨e1, e2, e3⟩ := bytes_none t h0
      have hcs := (show FreeIs stem.data.toList (toks ss) [] by rw [← e3]; exact HF.out).none_
      rw [sz_data, List.length_map] at hcs
      have hcs2 : (mayL stem.data.toList = false) ∨ (mayL stem.data.toList = true ∧ (28 : Int) < (stem.size : Int)) ∨ (mayL stem.data.toList = true ∧ ¬ (28 : Int) < (stem.size : Int) ∧ (3 : Int) < (ss.length : Int)) := by
        cases hm : mayL stem.data.toList
        · exact .inl rfl
        · by_cases h28 : 28 < stem.size
          · exact .inr (.inl ⟨rfl, by omega⟩)
          · refine .inr (.inr ⟨rfl, by omega, ?_⟩)
            rcases hcs with h | h | h
            · rw [hm] at h; cases h
            · omega
            · omega
      clear hcs
      rcases hcs2 with hm | ⟨hm, h28⟩ | ⟨hm, h28, h3⟩
      all_goals
        go_wp2_with fail
        refine (may_any _ _ (by omega)).mono ?_
        rintro e w4 ⟨rfl, hB4⟩
        go_wp2_with fail
        go_ret
        exact ⟨rfl, hB3.trans (hB4.mono hB3.size)⟩
  · have hsz2 : (200 < stem.size) ∨ (¬ 200 < stem.size ∧ 300 < ss.length) := by omega
    clear hsz
    rcases hsz2 with hz1 | ⟨hz1, hz2⟩
    all_goals
      go_enter Tryd.func6, Tryd.ntmps6
      go_wp2_with fail
      refine (works_any _ ht hg).mono ?_
      rintro e w1 ⟨rfl, hB⟩
      go_wp2_with fail
      refine (works_any _ (tab_below hB hg ht) (Nat.lt_of_lt_of_le hg hB.size)).mono ?_
      rintro e w2 ⟨rfl, hB2⟩
      go_wp2_with fail
      go_ret
      exact ⟨rfl, hB.trans (hB2.mono hB.size)⟩
end Go.Proofs.YtjbeblbiajegmaaDoor
