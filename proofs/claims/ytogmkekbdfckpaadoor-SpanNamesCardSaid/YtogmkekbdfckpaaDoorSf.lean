/- The contract of package span: nested. -/
import Derived.Test.YtogmkekbdfckpaaDoorSe
namespace Go.Proofs.YtogmkekbdfckpaaDoor
open Go.RowKit

theorem OwnCaps.prefix' {w : World} {B g cap : Nat} {l m : List Cap} (h : OwnCaps w B (.slice (some ⟨g, 0, none⟩) (l ++ m).length cap) (l ++ m)) : OwnCaps w B (.slice (some ⟨g, 0, none⟩) l.length cap) l := by
  refine ⟨cellsOf_length l, ?_⟩
  rcases h.2 with ⟨hv, _⟩ | ⟨g', cap', cur, hv, hg, hh, hn, hm, hs, ht⟩
  · cases hv
  · injection hv with h1 h2 h3
    injection h1 with h1
    injection h1 with h1
    subst h1 h3
    refine .inr ⟨g, cap, cur, rfl, hg, hh, by simp at hn; omega, hm, hs, ?_⟩
    have e : cur.toList.take (l.length * 3) = (cur.toList.take ((l ++ m).length * 3)).take (l.length * 3) := by rw [List.take_take, Nat.min_eq_left (by simp; omega)]
    rw [e, ht, cellsOf_append, ← cellsOf_length l]; simp
theorem RowAt.last {w : World} {b : Nat} {l : List Cap} {a : Cap} (h : RowAt w (some ⟨b, 0, none⟩) (cellsOf (l ++ [a]))) :
    w.cell? ⟨b, l.length * 3, none⟩ = some (.string a.name) ∧ w.cell? ⟨b, l.length * 3 + 1, none⟩ = some (.int .i64 a.frm) ∧ w.cell? ⟨b, l.length * 3 + 2, none⟩ = some (.int .i64 a.to) := by
  obtain ⟨b', o', e, h1, h2, h3⟩ := h.caps l.length (by simp)
  injection e with e; injection e with e1 e2; subst e1 e2
  simp only [Nat.zero_add, List.getElem_concat_length] at h1 h2 h3
  exact ⟨h1, h2, h3⟩

theorem snoc_or {α : Type} (l : List α) : l = [] ∨ ∃ m a, l = m ++ [a] := by
  rcases List.eq_nil_or_concat l with h | ⟨m, a, h⟩
  · exact .inl h
  · exact .inr ⟨m, a, by simpa using h⟩

set_option maxRecDepth 100000 in
set_option maxHeartbeats 1600000 in
theorem nested_any (l : List Cap) (A : Option Addr) (c : Nat) (w : World) (hA : RowAt w A (cellsOf l)) (hl : l.length ≤ 65536) (h0 : ∀ c ∈ l, 0 ≤ c.frm ∧ c.frm ≤ c.to) :
    Calls Tryd.prog 38 #[.slice A l.length c] w fun e w' => e = .returned (.bool (decide (l.Pairwise Fits))) ∧ Below w.heap.size w w' := by
  obtain ⟨i0, hi, hz0, hz1, hz2⟩ := info_parts infoCap
  go_enter Tryd.func38, Tryd.ntmps38
  go_wp2_with (first
      | (at_make; refine wpList_make_own _ rfl _ _ 22 rfl w.heap.size 33 i0 _ 3 Tryd.underlying22 hi hz0 hz1 .i64 .i64 _ l.length rfl rfl (by simp) ?_ ?_ ?_ ?_))
  · rw [hz2]; omega
  · unfold maxLen; omega
  · exact Nat.le_refl _
  intro w1 hown1 hgrow1
  have hB1 : Below w.heap.size w w1 := (Below.refl _ w).grown hgrow1 (Nat.le_refl _) (fun k e => by cases e)
  go_wp2_with fail
  go_loopw [3, 4, 12] (fun op fr i wr => ∃ (k : Nat) (st : List Cap) (frm : Int), k ≤ l.length ∧ st.length ≤ k ∧ i = .int .i64 k ∧ fr = .int .i64 frm ∧ op = .slice (some ⟨w.heap.size, 0, none⟩) st.length l.length ∧ Seen (l.take k) st frm ∧ OwnCaps wr w.heap.size (.slice (some ⟨w.heap.size, 0, none⟩) st.length l.length) st ∧ Below w.heap.size w wr) (fun _ _ i _ => l.length - (intOf i).toNat)
  case atStart => exact ⟨0, [], 0, by omega, by simp, rfl, rfl, rfl, Seen.start, hown1, hB1⟩
  case round =>
    obtain ⟨k, st, frm, hk, hsk, rfl, rfl, rfl, hS, hown, hB⟩ := hrel
    have HS := Lib.hid hS; clear hS hown1 hB1 hgrow1
    by_cases hlt : k < l.length
    · obtain ⟨ab, ao, rfl, x1, x2, x3⟩ := (hA.below hB).caps k hlt
      by_cases hf : l[k].frm < frm
      · have HN := Lib.hid (HS.out.ahead (rest := l.drop (k + 1)) (h0 _ (List.getElem_mem hlt)).1 hf)
        go_wp2_with fail
        go_ret
        exact ⟨ret_bool (by have h := HN.out; rw [← List.drop_eq_getElem_cons hlt, List.take_append_drop] at h; simp [h]), hB.alloc hB.size _⟩
      · have HR := Lib.hid (HS.out.ready (show frm ≤ l[k].frm by omega)); clear HS
        have HC := Lib.hid (blk3 (heap_alloc_new wr (.cells #[.string l[k].name, .int .i64 l[k].frm, .int .i64 l[k].to] 33)))
        have HO := Lib.hid (show OwnCaps (wr.alloc (.cells #[.string l[k].name, .int .i64 l[k].frm, .int .i64 l[k].to] 33)) _ _ _ from World.ownsRow.alloc hown _); clear hown
        have HB := Lib.hid (hB.alloc hB.size (.cells #[.string l[k].name, .int .i64 l[k].frm, .int .i64 l[k].to] 33)); clear hB
        go_wp2_with fail
        generalize hwo : wr.alloc (.cells #[.string l[k].name, .int .i64 l[k].frm, .int .i64 l[k].to] 33) = wo at HC HO HB ⊢
        generalize hb : wr.heap.size = cb at HC ⊢
        clear hwo hb x1 x2 x3
        go_loopw [3] (fun op wx => ∃ (st' : List Cap) (n : Nat), st'.length ≤ k ∧ op = .slice (some ⟨w.heap.size, 0, none⟩) st'.length l.length ∧ Ready (l.take k) st' l[k].frm ∧ OwnCaps wo w.heap.size (.slice (some ⟨w.heap.size, 0, none⟩) st'.length l.length) st' ∧ wx = wo.drewN n) (fun op _ => match op with | .slice _ n _ => n | _ => 0)
        case atStart => exact ⟨st, 0, hsk, rfl, HR.out, HO.out, rfl⟩
        case round =>
          obtain ⟨st', n, hsk', rfl, hR', hown', rfl⟩ := hrel
          have HR' := Lib.hid hR'; clear hR' HR HO
          obtain ⟨c1, c2, c3, c4, c5, c6⟩ := HC.out
          rcases snoc_or st' with rfl | ⟨st2, a, rfl⟩
          · go_wp2_with fail
            go_quiet (fail)
            go_wp2_with fail
            go_quiet (fail)
            go_wp2_with (first
              | (at_builtin; refine wpList_append_fits _ rfl (.tmp 59) (.tmp 61) _ rfl w.heap.size 33 i0 3 Tryd.underlying22 hi hz1 w.heap.size ([] : List Cap).length l.length (cellsOf ([] : List Cap)) rfl (World.ownsRow.alloc hown' _) ⟨wo.heap.size, 0, none⟩ 1 1 (cellsOf [l[k]]) rfl rfl ?_ (cellsOf_one _) ?_ ?_))
            · intro j u hu
              obtain ⟨_, e, h⟩ := row_new3 (wo.drewN _) (.string l[k].name) (.int .i64 l[k].frm) (.int .i64 l[k].to) 33 j u hu
              cases e
              first
                | exact h
                | (rw [Addr.add_lit, Nat.zero_add] at h; exact h)
            · simp; omega
            intro w3 hown3 hgrow3
            have HB3 := Lib.hid (((Below.drewN' HB.out _).alloc HB.out.size _).grown hgrow3 (by simp; have := HB.out.size; omega) (fun k e => by cases e; exact Nat.le_refl _))
            have HO3 := Lib.hid (show OwnCaps w3 w.heap.size (.slice (some ⟨w.heap.size, 0, none⟩) (([] : List Cap) ++ [l[k]]).length l.length) (([] : List Cap) ++ [l[k]]) from by rw [← cellsOf_append] at hown3; simpa [OwnCaps] using hown3); clear hown3 hgrow3
            have HS3 := Lib.hid (show Seen (l.take (k + 1)) (([] : List Cap) ++ [l[k]]) l[k].frm from by rw [List.take_succ_eq_append_getElem hlt]; exact HR'.out.push (fun a ha => by cases ha))
            go_wp2_with fail
            exact ⟨⟨k + 1, ([] : List Cap) ++ [l[k]], l[k].frm, by omega, by simp only [List.length_append, List.length_cons, List.length_nil] at hsk' ⊢; omega, by go_num, rfl, by simp, HS3.out, HO3.out, HB3.out⟩, by simp [intOf]; omega⟩
          · obtain ⟨y1, y2, y3⟩ := (OwnCaps.row hown').last
            have h1 : ((st2 ++ [a]).length : Int) = (st2.length : Int) + 1 := by simp
            have hown2 : wo.ownsRow w.heap.size 33 3 (.slice (some ⟨w.heap.size, 0, none⟩) (st2.length + 1) l.length) (st2.length + 1) (cellsOf (st2 ++ [a])) := by simpa [OwnCaps] using hown'
            have hk2 : st2.length + 1 ≤ k := by simpa using hsk'
            go_wp2_with fail
            go_quiet (fail)
            by_cases hp : a.to ≤ l[k].frm
            · have hd : decide (a.to ≤ l[k].frm) = true := decide_eq_true hp
              have HP := Lib.hid (HR'.out.pop hp)
              have HO2 := Lib.hid (OwnCaps.prefix' hown'); clear hown'
              go_wp2_with fail
              exact ⟨⟨st2, _, by omega, rfl, HP.out, HO2.out, rfl⟩, by simp⟩
            · have hd : decide (a.to ≤ l[k].frm) = false := decide_eq_false hp
              go_wp2_with fail
              go_quiet (fail)
              by_cases hc : a.to < l[k].to
              · have hd2 : decide (a.to < l[k].to) = true := decide_eq_true hc
                have HN := Lib.hid (HR'.out.cross (rest := l.drop (k + 1)) (by omega) hc)
                go_wp2_with fail
                go_ret
                exact ⟨ret_bool (by have h := HN.out; rw [← List.drop_eq_getElem_cons hlt, List.take_append_drop] at h; simp [h]), Below.drewN' (Below.drewN' HB.out _) _⟩
              · have hd2 : decide (a.to < l[k].to) = false := decide_eq_false hc
                go_wp2_with (first
                  | (at_builtin; refine wpList_append_fits _ rfl (.tmp 59) (.tmp 61) _ rfl w.heap.size 33 i0 3 Tryd.underlying22 hi hz1 w.heap.size (st2.length + 1) l.length (cellsOf (st2 ++ [a])) rfl (World.ownsRow.alloc hown2 _) ⟨wo.heap.size, 0, none⟩ 1 1 (cellsOf [l[k]]) rfl rfl ?_ (cellsOf_one _) ?_ ?_))
                · intro j u hu
                  obtain ⟨_, e, h⟩ := row_new3 (wo.drewN _) (.string l[k].name) (.int .i64 l[k].frm) (.int .i64 l[k].to) 33 j u hu
                  cases e
                  first
                    | exact h
                    | (rw [Addr.add_lit, Nat.zero_add] at h; exact h)
                · have := hk2; omega
                intro w3 hown3 hgrow3
                have HB3 := Lib.hid (((Below.drewN' HB.out _).alloc HB.out.size _).grown hgrow3 (by simp; have := HB.out.size; omega) (fun k e => by cases e; exact Nat.le_refl _))
                have HO3 := Lib.hid (show OwnCaps w3 w.heap.size (.slice (some ⟨w.heap.size, 0, none⟩) ((st2 ++ [a]) ++ [l[k]]).length l.length) ((st2 ++ [a]) ++ [l[k]]) from by rw [← cellsOf_append] at hown3; simpa [OwnCaps] using hown3); clear hown3 hgrow3
                have HS3 := Lib.hid (show Seen (l.take (k + 1)) ((st2 ++ [a]) ++ [l[k]]) l[k].frm from by rw [List.take_succ_eq_append_getElem hlt]; exact HR'.out.push (fun b hb => by have := HR'.out.top b hb; omega))
                go_wp2_with fail
                exact ⟨⟨k + 1, (st2 ++ [a]) ++ [l[k]], l[k].frm, by omega, by simp only [List.length_append, List.length_cons, List.length_nil] at hsk' ⊢; omega, by go_num, rfl, by simp, HS3.out, HO3.out, HB3.out⟩, by simp [intOf]; omega⟩
    · have HE := Lib.hid HS.out.pw; 
      go_wp2_with fail
      go_ret
      exact ⟨ret_bool (by have h := HE.out; rw [List.take_of_length_le (by omega)] at h; simp [h]), hB⟩
end Go.Proofs.YtogmkekbdfckpaaDoor
