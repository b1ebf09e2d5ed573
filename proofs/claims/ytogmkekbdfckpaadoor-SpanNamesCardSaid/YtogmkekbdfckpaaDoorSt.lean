/- Plain laws of the statements SpanJoins, SpanMoved: no program in sight. -/
import Derived.Test.YtogmkekbdfckpaaDoorSa
namespace Go.Proofs.YtogmkekbdfckpaaDoor
open Go.RowKit
set_option linter.unusedSimpArgs false
set_option linter.unusedVariables false

theorem may_iff {o : Outc} {n : Int} (hk : o.ok = true) : mayO o n = true ↔ (0 ≤ n ∧ n ≤ 4096 ∧ 0 ≤ o.to ∧ o.to ≤ n ∧ o.caps.length ≤ 65536 ∧ (∀ c ∈ o.caps, mayL c.name.data.toList = true ∧ 0 ≤ c.frm ∧ c.frm ≤ c.to ∧ c.to ≤ o.to) ∧ o.caps.Pairwise Fits) := by
  simp only [mayO, hk, Bool.and_eq_true, decide_eq_true_eq, if_true, List.all_eq_true, capOk]
  constructor
  · rintro ⟨⟨a, b⟩, ⟨c, d⟩, e, f, g⟩; exact ⟨a, b, c, d, e, f, g⟩
  · rintro ⟨a, b, c, d, e, f, g⟩; exact ⟨⟨a, b⟩, ⟨c, d⟩, e, f, g⟩
theorem may_fail_iff {o : Outc} {n : Int} (hk : o.ok = false) : mayO o n = true ↔ (0 ≤ n ∧ n ≤ 4096 ∧ o = ⟨false, 0, []⟩) := by
  obtain ⟨ok, to, l⟩ := o
  simp only at hk; subst hk
  simp [mayO, Outc.mk.injEq, and_assoc]

theorem join_assoc (a b c : Outc) : joinO (joinO a b) c = joinO a (joinO b c) := by
  obtain ⟨ak, a1, a2⟩ := a; obtain ⟨bk, b1, b2⟩ := b; obtain ⟨ck, c1, c2⟩ := c
  cases ak <;> cases bk <;> cases ck <;> simp [joinO]
def firstO (o : Outc) : Int := (o.caps.head?.map Cap.frm).getD o.to
theorem first_le {o : Outc} (h : o.caps.Pairwise Fits) : ∀ c ∈ o.caps, firstO o ≤ c.frm := by
  obtain ⟨ok, to, l⟩ := o
  simp only [firstO] at *
  cases l with
  | nil => simp
  | cons d r =>
    intro c hc
    simp only [List.head?_cons, Option.map_some, Option.getD_some]
    rcases List.mem_cons.1 hc with rfl | hc
    · exact Int.le_refl _
    · exact (List.rel_of_pairwise_cons h hc).1
theorem join_may {a b : Outc} (ha : mayO a 4096 = true) (hb : mayO b 4096 = true) (hak : a.ok = true) (hbk : b.ok = true) (h1 : a.to ≤ firstO b) (h2 : a.to ≤ b.to) (hl : a.caps.length + b.caps.length ≤ 65536) : mayO (joinO a b) 4096 = true := by
  obtain ⟨_, _, a3, a4, _, a6, a7⟩ := (may_iff hak).1 ha
  obtain ⟨_, _, b3, b4, _, b6, b7⟩ := (may_iff hbk).1 hb
  have hfl := first_le b7
  rw [show joinO a b = ⟨true, b.to, a.caps ++ b.caps⟩ by simp [joinO, hak, hbk]]
  refine (may_iff rfl).2 ⟨by omega, by omega, b3, b4, by simpa using hl, ?_, ?_⟩
  · intro c hc
    rcases List.mem_append.1 hc with hc | hc
    · have := a6 c hc; exact ⟨this.1, this.2.1, this.2.2.1, by show c.to ≤ b.to; omega⟩
    · exact b6 c hc
  · refine List.pairwise_append.2 ⟨a7, b7, fun c hc d hd => ?_⟩
    have h3 := a6 c hc
    have h4 := hfl d hd
    exact ⟨by omega, fun ⟨h5, _⟩ => by omega⟩
theorem cap_may {a : Outc} {s : ByteArray} {frm : Int} (ha : mayO a 4096 = true) (hak : a.ok = true) (hl : a.caps.length ≤ 1000) :
    mayO (capO s frm a) 4096 = (mayL s.data.toList && decide (0 ≤ frm) && decide (frm ≤ a.to) && decide (frm ≤ firstO a)) := by
  obtain ⟨_, _, a3, a4, _, a6, a7⟩ := (may_iff hak).1 ha
  have hfl := first_le a7
  rw [show capO s frm a = ⟨true, a.to, ⟨s, frm, a.to⟩ :: a.caps⟩ by simp [capO, hak], Bool.eq_iff_iff, may_iff rfl]
  simp only [Bool.and_eq_true, decide_eq_true_eq]
  constructor
  · rintro ⟨_, _, _, _, _, h6, h7⟩
    have := h6 ⟨s, frm, a.to⟩ (by simp)
    refine ⟨⟨⟨this.1, this.2.1⟩, this.2.2.1⟩, ?_⟩
    obtain ⟨ok, to, l⟩ := a
    cases l with
    | nil => simpa [firstO] using this.2.2.1
    | cons d r => exact (List.rel_of_pairwise_cons h7 (List.mem_cons_self)).1
  · rintro ⟨⟨⟨h1, h2⟩, h3⟩, h4⟩
    refine ⟨by omega, by omega, a3, a4, by simp; omega, ?_, ?_⟩
    · intro c hc
      rcases List.mem_cons.1 hc with rfl | hc
      · exact ⟨h1, h2, h3, Int.le_refl _⟩
      · exact a6 c hc
    · refine List.pairwise_cons.2 ⟨fun c hc => ?_, a7⟩
      have h5 := a6 c hc
      have h6 := hfl c hc
      exact ⟨by show frm ≤ c.frm; omega, fun ⟨_, h8⟩ => by have h8 : a.to < c.to := h8; omega⟩

theorem may_own {o : Outc} (h : mayO o 4096 = true) (hk : o.ok = true) : mayO o o.to = true := by
  obtain ⟨_, _, a3, a4, a5, a6, a7⟩ := (may_iff hk).1 h
  exact (may_iff hk).2 ⟨a3, a4, a3, Int.le_refl _, a5, a6, a7⟩
theorem may_less {o : Outc} (hk : o.ok = true) : mayO o (o.to - 1) = false := by
  by_cases h : mayO o (o.to - 1) = true
  · have := (may_iff hk).1 h; omega
  · simpa using h
/-- What Shift moved. -/
structure Moved (o x : Outc) (by' : Int) : Prop where
  may : mayO o 4096 = true
  lo : -4096 ≤ by'
  hi : by' ≤ 4096
  xok : x.ok = true
  xto : x.to = o.to + by'
  xmay : mayO x 4096 = true
  back : shiftO x (-by') = (o, true)
theorem shift_yes {o : Outc} {by' : Int} (hk : o.ok = true) (h : (shiftO o by').2 = true) : Moved o (shiftO o by').1 by' := by
  unfold shiftO at h ⊢
  split at h <;> rename_i hm
  · split at h <;> rename_i hr
    · obtain ⟨_, _, a3, a4, a5, a6, a7⟩ := (may_iff hk).1 hm
      obtain ⟨r1, r2, r3, r4, r5⟩ := hr
      have hx : mayO ⟨true, o.to + by', o.caps.map (moveC by')⟩ 4096 = true := by
        refine (may_iff rfl).2 ⟨by omega, by omega, r3, r4, by simpa using a5, ?_, ?_⟩
        · intro c hc
          obtain ⟨d, hd, rfl⟩ := List.mem_map.1 hc
          have := a6 d hd
          have := r5 d hd
          simp only [moveC]
          refine ⟨by simp [*], by omega, by omega, by omega⟩
        · rw [List.pairwise_map]
          refine a7.imp ?_
          rintro a b ⟨h1, h2⟩
          exact ⟨by simp only [moveC]; omega, fun ⟨h3, h4⟩ => h2 ⟨by simp only [moveC] at h3; omega, by simp only [moveC] at h4; omega⟩⟩
      rw [if_pos hm, if_pos hk, if_pos ⟨r1, r2, r3, r4, r5⟩]
      refine ⟨hm, r1, r2, rfl, rfl, hx, ?_⟩
      unfold shiftO
      rw [if_pos hx, if_pos rfl, if_pos ⟨by omega, by omega, by show 0 ≤ o.to + by' + -by'; omega, by show o.to + by' + -by' ≤ 4096; omega, fun c hc => by
        obtain ⟨d, hd, rfl⟩ := List.mem_map.1 hc
        have := a6 d hd
        simp only [moveC]; omega⟩]
      obtain ⟨ok, to, l⟩ := o
      simp only at hk; subst hk
      simp only [Prod.mk.injEq, Outc.mk.injEq, true_and, and_true, List.map_map]
      refine ⟨by omega, ?_⟩
      rw [show (moveC (-by') ∘ moveC by') = id from funext fun c => by obtain ⟨n, f, t⟩ := c; simp only [Function.comp, moveC, id, Cap.mk.injEq, true_and]; omega]
      simp
    · simp at h
  · simp at h
theorem shift_no {o : Outc} {by' : Int} (h : (shiftO o by').2 = false) : (shiftO o by').1 = ⟨false, 0, []⟩ ∧ (mayO o 4096 = true → o.ok = true ∧ by' ≠ 0) := by
  unfold shiftO at h ⊢
  split at h <;> rename_i hm
  · split at h <;> rename_i hk
    · split at h <;> rename_i hr
      · simp at h
      · rw [if_pos hm, if_pos hk, if_neg hr]
        refine ⟨rfl, fun _ => ⟨hk, fun e => hr ?_⟩⟩
        obtain ⟨_, _, a3, a4, a5, a6, a7⟩ := (may_iff hk).1 hm
        subst e
        exact ⟨by omega, by omega, by omega, by omega, fun c hc => by have := a6 c hc; omega⟩
    · simp at h
  · rw [if_neg hm]; exact ⟨rfl, fun h => absurd h hm⟩
theorem shift_failed {o : Outc} {by' : Int} (hk : o.ok = false) (h : (shiftO o by').2 = true) : (shiftO o by').1 = o := by
  unfold shiftO at h ⊢
  split at h <;> rename_i hm
  · rw [if_pos hm, if_neg (by simp [hk])]
    have := (may_fail_iff hk).1 hm
    exact this.2.2.symm
  · simp at h
end Go.Proofs.YtogmkekbdfckpaaDoor
