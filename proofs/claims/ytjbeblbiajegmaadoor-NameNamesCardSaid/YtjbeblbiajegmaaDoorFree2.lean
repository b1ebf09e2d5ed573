/- The contract of name.Free. -/
import Derived.Test.YtjbeblbiajegmaaDoorFree1
import Derived.RangeFuncWrites
import Derived.StringKeys
namespace Go.Proofs.YtjbeblbiajegmaaDoor
open Go.RowKit Go.Shelf Go.WideMaps

attribute [local go_sem] Oper.semAt_some

theorem grown_below {w w' : World} (h : Below w.heap.size w w') (row : Option Nat) : w.grownBy w' row := ⟨h.os, h.tape, h.output, h.size, fun k hk _ => h.block k hk⟩

theorem tries_stops (n : Nat) (hn : 1 ≤ n) (Bn n₀ : Nat) (stem : ByteArray) (hs : stem.size ≤ 140737488355328) (w : World) (hg : 1 < n₀) (hBn : Bn < n₀) (hn₀ : n₀ ≤ w.heap.size) (ht : Tab w)
    (hc : w.cell? ⟨Bn, 0, none⟩ = some (.string stem)) :
    SeqStopsK Fence.wide n Tryd.prog 32 #[.pointer (some ⟨Bn, 0, none⟩)] (fun x : Short => #[Value.string x.1]) (Below n₀)
      (fun xs => Tried stem.data.toList xs ∧ (mayL (cand stem.data.toList xs.length) = false ∨ 9223372036854775806 ≤ xs.length)) (fun pre => Tried stem.data.toList pre) N63 w := fun l J Jx W hW hJ _ hY h0 =>
  tries1_in n hn l Bn n₀ stem hs hg hBn J Jx (fun pre _ _ h hb => hJ pre _ _ none h (grown_below hb none) (fun r e => by cases e)) hY W (Nat.le_trans hn₀ hW.size)
    (tab_below (hW.mono hn₀) hg ht) ((hW.cell (p := ⟨Bn, 0, none⟩) (Nat.lt_of_lt_of_le hBn hn₀)).trans hc) h0

/-- A slice of texts, in memory. -/
def StrsAt (w : World) (v : Value) (ss : List ByteArray) : Prop :=
  ∃ a cap, v = .slice a ss.length cap ∧ ∀ i (h : i < ss.length), ∃ b o, a = some ⟨b, o, none⟩ ∧ w.cell? ⟨b, o + i, none⟩ = some (.string ss[i])

theorem cell_lt {w : World} {a : Addr} {v : Value} (h : w.cell? a = some v) : a.block < w.heap.size := by
  unfold World.cell? at h
  by_cases hl : a.block < w.heap.size
  · exact hl
  · rw [Array.getElem?_eq_none (by omega)] at h; cases h
theorem StrsAt.below {w w' : World} {v : Value} {ss : List ByteArray} (h : StrsAt w v ss) (hb : Below w.heap.size w w') : StrsAt w' v ss := by
  obtain ⟨a, cap, rfl, hc⟩ := h
  refine ⟨a, cap, rfl, fun i hi => ?_⟩
  obtain ⟨b, o, e, h⟩ := hc i hi
  exact ⟨b, o, e, (hb.cell (p := ⟨b, o + i, none⟩) (cell_lt h)).trans h⟩

abbrev toks (ss : List ByteArray) : List (List UInt8) := ss.map fun s => s.data.toList

theorem zeroE (w : World) : (zeroValue 3).run Tryd.prog w = .ok (.int .i64 0) w := by kernel_rfl

theorem makeMap_hint (n : Int) (w : World) : (Instr.makeMap 41 (some (.int .i64 n))).run Tryd.prog w = .ok (.map (some w.heap.size)) (w.alloc (.map #[] 0)) := by
  simp only [Instr.makeMap, Sem.run_bind, run_underlying Tryd.underlying41, Result.andThen]
  rfl

theorem takenD_step (ss : List ByteArray) (k : Nat) (h : k < ss.length) (s : ByteArray) (hs : s = ss[k]) (c : Int) (hat : (takenD (toks (ss.take k))).atKey (.string s.data.toList) (.lit (.int .i64 0)) = .lit (.int .i64 c)) :
    takenD (toks (ss.take (k + 1))) = (takenD (toks (ss.take k))).put (.string s.data.toList) (.lit (.int .i64 (wrap64 (c + 1)))) := by
  rw [List.take_succ_eq_append_getElem h, toks, List.map_append, List.map_singleton, ← hs, takenD_snoc, bumpS]
  unfold toks at hat; rw [hat]; rfl

theorem keepsOthers_below {w w' : World} (h : Below w.heap.size w w') : KeepsOthers w w' :=
  ⟨h.size, fun k _ hk _ => (h.block k (Array.getElem?_eq_some_iff.1 hk).1).trans hk⟩
theorem taken_not (ss : List ByteArray) (hl : ss.length ≤ 140737488355328) (k : List UInt8) (c : Int) (hat : (takenD (toks ss)).atKey (.string k) (.lit (.int .i64 0)) = .lit (.int .i64 c)) (h0 : c = 0) : k ∉ toks ss := by
  obtain ⟨c', h, _, _, hi⟩ := takenD_at (toks ss) (by simp; omega) k
  rw [hat] at h
  have : c = c' := by injection h with h; injection h
  exact hi.1 (by omega)
theorem taken_yes (ss : List ByteArray) (hl : ss.length ≤ 140737488355328) (k : List UInt8) (c : Int) (hat : (takenD (toks ss)).atKey (.string k) (.lit (.int .i64 0)) = .lit (.int .i64 c)) (h0 : ¬ c = 0) : k ∈ toks ss := by
  obtain ⟨c', h, _, _, hi⟩ := takenD_at (toks ss) (by simp; omega) k
  rw [hat] at h
  have : c = c' := by injection h with h; injection h
  exact Decidable.byContradiction fun hn => h0 (by have := hi.2 hn; omega)
theorem tried_le (stem : List UInt8) (ss : List (List UInt8)) (ys : List Short) (hT : Tried stem ys) (hp : ∀ x ∈ ys, x.1.data.toList ∈ ss) : ys.length ≤ ss.length := by
  have h1 : ((List.range ys.length).map (cand stem)).Nodup := by
    rw [List.nodup_iff_pairwise_ne, List.pairwise_map]
    exact (List.nodup_range (n := ys.length)).imp (fun h e => h (cand_inj stem e))
  have h2 : (List.range ys.length).map (cand stem) ⊆ ss := by
    intro a ha
    obtain ⟨i, hi, rfl⟩ := List.mem_map.1 ha
    have hi' := List.mem_range.1 hi
    rw [← (hT i hi').1]; exact hp _ (List.getElem_mem hi')
  simpa using h1.length_le_of_subset h2
theorem free_done (stem : List UInt8) (ss : List ByteArray) (hl : ss.length ≤ 140737488355328) (ys : List Short) (hT : Tried stem ys) (hp : ∀ x ∈ ys, x.1.data.toList ∈ toks ss) (hS : mayL (cand stem ys.length) = false ∨ 9223372036854775806 ≤ ys.length) :
    FreeIs stem (toks ss) [] := by
  refine ⟨ys.length, fun i hi => ⟨(hT i hi).2, by rw [← (hT i hi).1]; exact hp _ (List.getElem_mem hi)⟩, .inr ⟨?_, rfl⟩⟩
  rcases hS with h | h
  · exact h
  · have := tried_le stem (toks ss) ys hT hp; simp at this; omega
theorem free_stop (stem : List UInt8) (ss : List ByteArray) (pre : List Short) (x : Short) (hT : Tried stem (pre ++ [x])) (hp : ∀ y ∈ pre, y.1.data.toList ∈ toks ss) (hx : x.1.data.toList ∉ toks ss) :
    FreeIs stem (toks ss) x.1.data.toList := by
  have hk := hT pre.length (by simp)
  simp at hk
  refine ⟨pre.length, fun i hi => ?_, .inl ⟨hk.2, by rw [← hk.1]; exact hx, hk.1⟩⟩
  have hi' := hT i (by simp; omega)
  rw [List.getElem_append_left hi] at hi'
  exact ⟨hi'.2, by rw [← hi'.1]; exact hp _ (List.getElem_mem hi)⟩

set_option maxRecDepth 100000 in
set_option maxHeartbeats 2000000 in
theorem free_in (n : Nat) (hn : 3 ≤ n) (stem : ByteArray) (hs : stem.size ≤ 140737488355328) (v : Value) (ss : List ByteArray) (w : World) (ht : Tab w) (hg : 1 < w.heap.size) (hv : StrsAt w v ss)
    (hlen : ss.length ≤ 140737488355328) (hsz : ∀ s ∈ ss, s.size ≤ maxLen) :
    CallsIn Fence.wide n Tryd.prog 11 #[.string stem, v] w fun e w' => ∃ t : ByteArray, e = .returned (.string t) ∧ FreeIs stem.data.toList (toks ss) t.data.toList ∧ Below w.heap.size w w' := by
  have h1 : 1 ≤ n := by omega
  have hmm := makeMap_hint
  have hfn : ∀ k, Fence.wide.fn k := fun _ => trivial
  have h12 : 1 ≤ n - 1 - 1 := by omega
  obtain ⟨a, cap, rfl, hcells⟩ := hv
  refine callsIn_of_wp_marks Tryd.func11 rfl trivial ?_ rfl
  simp only [Tryd.ntmps11, List.size_toArray, List.length_cons, List.length_nil, Nat.reduceAdd, Nat.reduceSub, Array.replicate_succ, Array.replicate_zero, List.push_toArray, List.append_toArray, List.nil_append, List.cons_append]
  gi_wp2
  gi_loopw [14] (fun i wr => ∃ k : Nat, k ≤ ss.length ∧ i = .int .i64 k ∧ wr.ownsMap Tryd.prog 9 (plainElem (H := Unit) Tryd.prog 3) (w.heap.size + 1) k (takenD (toks (ss.take k))) ∧
      wr.cell? ⟨w.heap.size, 0, none⟩ = some (.string ⟨#[]⟩) ∧ wr.frozen? ⟨w.heap.size, 0, none⟩ = false ∧ wr.cell? ⟨w.heap.size + 1 + 1, 0, none⟩ = some (.map (some (w.heap.size + 1))) ∧ Below w.heap.size w wr) (fun i _ => ss.length - (intOf i).toNat)
  case atStart =>
    have hm := (World.ownsMap_made (w.alloc (.cells #[.string ⟨#[]⟩] 9)) Tryd.prog 9 (plainElem (H := Unit) Tryd.prog 3)).alloc (.cells #[.map (some (w.heap.size + 1))] 41)
    rw [World.size_alloc] at hm
    have c0 := cell_new_l w (.string ⟨#[]⟩) 9
    have c2 := (cell_new_l ((w.alloc (.cells #[.string ⟨#[]⟩] 9)).alloc (.map #[] 0)) (.map (some (w.heap.size + 1))) 41).1
    simp only [World.size_alloc] at c2
    exact ⟨0, Nat.zero_le _, rfl, hm, cell_alloc_l _ (cell_alloc_l _ c0.1), frozen_alloc_l _ (cell_alloc_l _ c0.1) (frozen_alloc_l _ c0.1 c0.2), c2, (((Below.refl _ w).alloc (Nat.le_refl _) _).alloc (by simp) _).alloc (by simp; omega) _⟩
  case round =>
    obtain ⟨k, hk, rfl, hown, hc0, hf0, hc2, hb⟩ := hrel
    by_cases hlt : k < ss.length
    · obtain ⟨b, o, rfl, hck⟩ := hcells k hlt
      obtain ⟨s, hs⟩ : ∃ s, s = ss[k] := ⟨_, rfl⟩
      have hck2 : wr.cell? ⟨b, o + k, none⟩ = some (.string s) := by rw [hs]; exact (hb.cell (p := ⟨b, o + k, none⟩) (cell_lt hck)).trans hck
      have hkey : keyOf Tryd.prog 9 (.string s) = some (.string s.data.toList) := keyOf_string_mk Tryd.underlying9 (by rw [hs]; exact hsz _ (List.getElem_mem hlt))
      have HS := Lib.hid hs; clear hs hck
      clear hcells
      gi_wp2_with (first
        | (gi_at_lookup; refine wpListIn_lookup_own_int _ rfl _ _ 41 rfl 9 3 .i64 (Maps.string_keyed Tryd.underlying9) Tryd.underlying41 Tryd.underlying3 (zeroE _) (w.heap.size + 1) k _ rfl hown _ _ rfl hkey ?_; intro c hat hwc)
        | (gi_at_mapUpdate; refine wpListIn_mapUpdate_own _ rfl _ _ _ 41 rfl 9 3 (Maps.string_keyed Tryd.underlying9) Tryd.underlying41 _ (w.heap.size + 1) k _ rfl hown (by unfold maxLen; omega) _ _ _ rfl rfl hkey _ [] (plainElem_int Tryd.underlying3 (wrap64_wf _)) ?_; intro w1 hown1 hgrow1))
      have HD := Lib.hid (takenD_step ss k hlt s HS.out c hat)
      obtain ⟨es, ck, hh, _⟩ := hown
      gi_wp2
      refine ⟨⟨k + 1, by omega, by go_num, by rw [HD.out]; exact hown1, cell_kept hc0 hgrow1 (fun r e => by cases e; exact ⟨_, hh, rfl⟩), (frozen_kept hc0 hgrow1 (fun r e => by cases e; exact ⟨_, hh, rfl⟩)).trans hf0, cell_kept hc2 hgrow1 (fun r e => by cases e; exact ⟨_, hh, rfl⟩), hb.grown hgrow1 hb.size (fun k e => by cases e; omega)⟩, by simp [intOf]; omega⟩
    · obtain rfl : k = ss.length := by omega
      gi_wp2_with (first | (gi_at_call 26; refine (tries_in _ _ trivial rfl _ _).mono ?_; rintro e w' ⟨rfl, rfl⟩))
      have bS := cell_new_l wr (.string stem) 9
      rw [List.take_length] at hown
      have HO := Lib.hid hlen; clear hlen
      refine wpIn_rangeFunc_ownG rfl h1 (gf := 32) (lb := #[.pointer (some ⟨wr.heap.size, 0, none⟩)]) rfl trivial (enters_of Tryd.func32 (by kernel_rfl) rfl)
        (tries_stops (n - 1) (by omega) wr.heap.size (wr.heap.size + 1) stem hs _ (by have := hb.size; omega) (by omega) (by simp) (tab_below ((hb.alloc hb.size _)) hg ht) bS.1) belowK_t (belowK_b (by simp)) (Below.refl _ _) (fun _ => rfl)
        (fun pre W => ((∀ x ∈ pre, x.1.data.toList ∈ toks ss) ∧ W.cell? ⟨w.heap.size, 0, none⟩ = some (.string ⟨#[]⟩) ∧ W.frozen? ⟨w.heap.size, 0, none⟩ = false ∧ W.cell? ⟨w.heap.size + 1 + 1, 0, none⟩ = some (.map (some (w.heap.size + 1))) ∧ W.ownsMap Tryd.prog 9 (plainElem (H := Unit) Tryd.prog 3) (w.heap.size + 1) ss.length (takenD (toks ss))) ∧ Below w.heap.size w W)
        (fun c pre W => (c = .ret ∧ (∃ pre' x, pre = pre' ++ [x] ∧ (∀ y ∈ pre', y.1.data.toList ∈ toks ss) ∧ x.1.data.toList ∉ toks ss ∧ W.cell? ⟨w.heap.size, 0, none⟩ = some (.string x.1))) ∧ Below w.heap.size w W)
        ?hI ?hIx ?h0
        (fun x => { tmps := #[.string stem, .slice a ss.length cap, undef, undef, .pointer (some ⟨w.heap.size, 0, none⟩), .pointer (some ⟨w.heap.size + 1 + 1, 0, none⟩), undef, u7, .string x.1, .slice a ss.length cap, .int .i64 ss.length, .map (some (w.heap.size + 1)), .slice a ss.length cap, .int .i64 ss.length, .int .i64 ss.length, .bool false, u16, u17, u18, u19, u20, u21, u22, .string stem, .func (.func 32) #[] #[.pointer (some ⟨wr.heap.size, 0, none⟩)], .string x.1, undef, undef, undef, undef, undef, undef], defers := [] }) ?assign ?body ?done ?stop
      case hI =>
        refine OwnFrom.and (fun s A B row hs hg hr => ⟨hs.1, cell_kept hs.2.1 hg (fun r e => (hr r e).2), (frozen_kept hs.2.1 hg (fun r e => (hr r e).2)).trans hs.2.2.1, cell_kept hs.2.2.2.1 hg (fun r e => (hr r e).2), hs.2.2.2.2.kept hg (fun e => ?_)⟩) (ownFrom_below (Nat.le_refl _) (by have := hb.size; simp; omega))
        have := (hr _ e.symm).1; have hsz := hb.size
        have h2 := cell_lt hc2
        simp at this h2; omega
      case hIx =>
        intro c
        refine OwnFrom.and (fun s A B row hs hg hr => ?_) (ownFrom_below (Nat.le_refl _) (by have := hb.size; simp; omega))
        obtain ⟨rfl, pre', x, rfl, h1, h2, h3⟩ := hs
        exact ⟨rfl, pre', x, rfl, h1, h2, cell_kept h3 hg (fun r e => (hr r e).2)⟩
      case h0 =>
        exact ⟨⟨by simp, cell_alloc_l _ hc0, frozen_alloc_l _ hc0 hf0, cell_alloc_l _ hc2, hown.alloc _⟩, hb.alloc hb.size _⟩
      case assign =>
        intro l x W K hK
        gi_wp2
        exact hK
      case body =>
        rintro l pre x W ⟨⟨hp, hW0, hWf, hW2, hWm⟩, hB⟩ _
        have hkey : keyOf Tryd.prog 9 (.string x.1) = some (.string x.1.data.toList) := keyOf_string_mk Tryd.underlying9 (by have := x.2; unfold maxLen; omega)
        gi_wp2_with (first
          | (gi_at_lookup; refine wpListIn_lookup_own_int _ rfl _ _ 41 rfl 9 3 .i64 (Maps.string_keyed Tryd.underlying9) Tryd.underlying41 Tryd.underlying3 (zeroE _) (w.heap.size + 1) ss.length _ rfl hWm _ _ rfl hkey ?_; intro c hat hwc))
        · have h0 : (c == 0) = true := by assumption
          refine (CallsIn.inRound l (callsIn_wide.2 (clone_any _ _ (by have := x.2; omega)))).mono ?_
          rintro e w' ⟨rfl, hb1⟩
          have hq0 : w'.cell? ⟨w.heap.size, 0, none⟩ = some (.string ⟨#[]⟩) := (hb1.cell (p := ⟨w.heap.size, 0, none⟩) (cell_lt hW0)).trans hW0
          have hqf : w'.frozen? ⟨w.heap.size, 0, none⟩ = false := (hb1.frozen (p := ⟨w.heap.size, 0, none⟩) (cell_lt hW0)).trans hWf
          gi_wp2
          exact ⟨((keepsOthers_below hb1).trans (KeepsOthers.setCell _ _ _)).from _, ⟨rfl, pre, x, rfl, hp, taken_not ss HO.out _ c hat (by simpa using h0), World.cell?_setCell_same' _ _ _ (by rw [hq0]; rfl)⟩, (hB.trans (hb1.mono hB.size)).setCell (p := ⟨w.heap.size, 0, none⟩) (Nat.le_refl _) _⟩
        · have h0 : (c == 0) = false := by assumption
          exact ⟨KeepsFrom.refl _ _, Below.refl _ _, ⟨fun y hy => (List.mem_append.1 hy).elim (hp y) (fun e => by simp at e; subst e; exact taken_yes ss HO.out _ c hat (by simpa using h0)), hW0, hWf, hW2, hWm⟩, hB⟩
      case done =>
        rintro D ys W hD ⟨hT, hS⟩ ⟨⟨hp, hW0, hWf, hW2, hWm⟩, hB⟩ hK
        gi_wp2
        have hK' := (KeepsOthers.setCell W ⟨w.heap.size, 0, none⟩ (.string ⟨#[]⟩)).same D _ hK rfl
        refine ⟨by simp, .inl ⟨_, _, rfl, run_takeDeferred hK', ?_⟩⟩
        have hc5 := cell_kept (World.cell?_setCell_same' W ⟨w.heap.size, 0, none⟩ (.string ⟨#[]⟩) (by rw [hW0]; rfl)) (grownBy_putObj' _ D (.deferred none)) (fun r e => by cases e; exact ⟨_, hK', rfl⟩)
        refine ⟨.string ⟨#[]⟩, ?_, _, rfl, free_done stem.data.toList ss HO.out ys hT hp hS, (hB.setCell (p := ⟨w.heap.size, 0, none⟩) (by simp) _).trans (belowK_b (w := w) (Nat.le_refl _) _ D _ _ (by have := hb.size; simp at hD; omega) hK' rfl rfl)⟩
        simp [results, Tryd.f11, go_sem, hc5]
      case stop =>
        rintro D c pre W hD hT ⟨⟨rfl, pre', x, rfl, hp, hx, hW0⟩, hB⟩ hK
        gi_wp2
        refine ⟨by simp, .inl ⟨_, _, rfl, run_takeDeferred hK, ?_⟩⟩
        have hc5 := cell_kept hW0 (grownBy_putObj' _ D (.deferred none)) (fun r e => by cases e; exact ⟨_, hK, rfl⟩)
        refine ⟨.string x.1, ?_, _, rfl, free_stop stem.data.toList ss pre' x hT hp hx, hB.trans (belowK_b (w := w) (Nat.le_refl _) W D _ _ (by have := hb.size; simp at hD; omega) hK rfl rfl)⟩
        simp [results, Tryd.f11, go_sem, hc5]

theorem free_any (stem : ByteArray) (hs : stem.size ≤ 140737488355328) (v : Value) (ss : List ByteArray) (w : World) (ht : Tab w) (hg : 1 < w.heap.size) (hv : StrsAt w v ss)
    (hlen : ss.length ≤ 140737488355328) (hsz : ∀ s ∈ ss, s.size ≤ maxLen) :
    Calls Tryd.prog 11 #[.string stem, v] w fun e w' => ∃ t : ByteArray, e = .returned (.string t) ∧ FreeIs stem.data.toList (toks ss) t.data.toList ∧ Below w.heap.size w w' :=
  (callsIn_wide (n := 3)).1 (free_in 3 (Nat.le_refl _) stem hs v ss w ht hg hv hlen hsz)
end Go.Proofs.YtjbeblbiajegmaaDoor
