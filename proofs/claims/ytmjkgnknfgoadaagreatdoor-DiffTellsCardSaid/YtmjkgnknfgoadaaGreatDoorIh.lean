/- The contracts of gram.nodes, and of the iterator that it hands back. -/
import Derived.Test.YtmjkgnknfgoadaaGreatDoorGh
import Derived.Test.YtmjkgnknfgoadaaGreatDoorDs
import Derived.Test.YtmjkgnknfgoadaaGreatDoorHg
import Derived.Test.YtmjkgnknfgoadaaGreatDoorId
import Derived.RangeFuncNested
import Derived.StringKeys
import Derived.Maps.OwnIn
import Derived.Maps.Views
namespace Go.Proofs.YtmjkgnknfgoadaaGreatDoor
open Go.RowKit Go.Shelf
set_option linter.unusedSimpArgs false
set_option linter.unusedVariables false
attribute [local go_sem] Oper.semAt_some
abbrev Told := { x : Nat × Ln // x.2.nd.wf }
def allN (ds : List Ld) : List (Nat × Ln) := ds.zipIdx.flatMap fun p => p.1.t.ls.map fun l => (p.2, l)
def tailN (ds : List Ld) (k : Nat) : List (Nat × Ln) := (ds.zipIdx.drop k).flatMap fun p => p.1.t.ls.map fun l => (p.2, l)
theorem tailN_zero (ds : List Ld) : tailN ds 0 = allN ds := by simp [tailN, allN]
theorem tailN_end (ds : List Ld) : tailN ds ds.length = [] := by unfold tailN; rw [List.drop_of_length_le (by simp)]; rfl
theorem tailN_step (ds : List Ld) (k : Nat) (hk : k < ds.length) : tailN ds k = (ds[k].t.ls.map fun l => (k, l)) ++ tailN ds (k + 1) := by
  unfold tailN
  rw [List.drop_eq_getElem_cons (by simpa using hk)]
  simp
theorem allN_mem (ds : List Ld) (x : Nat × Ln) : x ∈ allN ds ↔ ∃ h : x.1 < ds.length, x.2 ∈ ds[x.1].t.ls := by
  unfold allN
  simp only [List.mem_flatMap, List.mem_map]
  constructor
  · rintro ⟨p, hp, l, hl, rfl⟩
    obtain ⟨a, b⟩ := p
    have h2 := List.mem_zipIdx hp
    simp only at h2 hl ⊢
    refine ⟨by omega, ?_⟩
    have e : ds[b]'(by omega) = a := by have := h2.2.2; simp at this; exact this.symm
    rw [e]; exact hl
  · rintro ⟨h, hl⟩
    obtain ⟨i, l⟩ := x
    refine ⟨(ds[i], i), ?_, l, hl, rfl⟩
    rw [List.mem_iff_getElem]
    exact ⟨i, by simpa using h, by simp⟩
set_option maxHeartbeats 1000000 in
theorem nodes_in (F : Fence) (n : Nat) (hf : F.fn 61) (hro : F.round = none) (A : Option Addr) (m c : Nat) (w : World) :
    CallsIn F n Tryz.prog 61 #[.agg #[.slice A m c]] w fun e w' => e = .returned (.func (.func 107) #[] #[.pointer (some ⟨w.heap.size, 0, none⟩)]) ∧ w' = w.alloc (.cells #[.slice A m c] 24) := by
  refine callsIn_of_wp Tryz.func61 rfl hf ?_ hro
  simp only [Tryz.ntmps61, List.size_toArray, List.length_cons, List.length_nil, Nat.reduceAdd, Nat.reduceSub, Array.replicate_succ, Array.replicate_zero, List.push_toArray, List.append_toArray, List.nil_append, List.cons_append]
  gi_wp2
  go_ret
  exact ⟨rfl, rfl⟩
set_option maxRecDepth 100000 in
set_option maxHeartbeats 1600000 in
theorem nodes1_in (n : Nat) (hn : 1 ≤ n) (l Bn n₀ : Nat) (A : Option Addr) (c : Nat) (ds : List Ld) (J Jx : List Told → World → Prop)
    (hJ : ∀ pre W W', J pre W → Below W.heap.size W W' → J pre W')
    (hY : ∀ pre (x : Told) W, J pre W → pre.length < (allN ds).length → YieldAt Fence.wide (n - 1) Tryz.prog l #[.int .i64 (x.1.1 : Int), x.1.2.val] W fun e W' =>
      (e = .returned (.bool true) ∧ J (pre ++ [x]) W' ∧ Below n₀ W W') ∨ (e = .returned (.bool false) ∧ Jx (pre ++ [x]) W'))
    (W : World) (hn₀ : n₀ ≤ W.heap.size) (hT : dfL.row W (· < n₀) A ds) (hl : ds.length ≤ 4294967296) (hm : ∀ d ∈ ds, d.t.ls.length ≤ 4294967296) (hc : W.heap[Bn]? = some (.cells #[.slice A ds.length c] 24 (0, 0))) (hj0 : J [] W) :
    CallsIn Fence.wide n Tryz.prog 107 #[.func (.yield l) #[] #[], .pointer (some ⟨Bn, 0, none⟩)] W fun e W' => (∃ v, e = .returned v) ∧
      ((∃ xs : List Told, xs.map Subtype.val = allN ds ∧ J xs W') ∨ (∃ pre : List Told, (∃ r, pre.map Subtype.val ++ r = allN ds) ∧ Jx pre W')) := by
  refine callsIn_of_wp Tryz.func107 rfl trivial ?_ rfl
  simp only [Tryz.ntmps107, List.size_toArray, List.length_cons, List.length_nil, Nat.reduceAdd, Nat.reduceSub, Array.replicate_succ, Array.replicate_zero, List.push_toArray, List.append_toArray, List.nil_append, List.cons_append]
  have hfn : ∀ k, Fence.wide.fn k := fun _ => trivial
  have HT := Lib.hid hT; have HM := Lib.hid hm
  obtain ⟨b0, _⟩ := blk1 hc
  clear hT hm hc
  gi_wp2
  clear b0
  gi_loopw [10] (fun i wr => ∃ (pre : List Told) (k : Nat), k ≤ ds.length ∧ i = .int .i64 k ∧ Hid (pre.map Subtype.val ++ tailN ds k = allN ds) ∧ J pre wr ∧ Hid (Below n₀ W wr)) (fun i _ => ds.length - (intOf i).toNat)
  case atStart => exact ⟨[], 0, by omega, rfl, Lib.hid (tailN_zero ds), hj0, Lib.hid (Below.refl _ _)⟩
  case round =>
    obtain ⟨wo, rfl⟩ : ∃ wo : World, wo = wr := ⟨_, rfl⟩
    obtain ⟨pre, k, hk, rfl, HP, hj, HB⟩ := hrel
    by_cases hlt : k < ds.length
    · have HTK := Lib.hid (HT.out.agree (below_agree HB.out))
      obtain ⟨b, o, rfl, _, _, x0, x1, x2⟩ := dfRow HTK.out k hlt
      have i1 : (k : Int) < (ds.length : Int) := by omega
      have HIN := Lib.hid (show ∀ w', Below n₀ W w' → ds[k].t.inn w' (· < n₀) from fun w' hb => dfSub (HT.out.agree (below_agree hb)) k hlt)
      have HMK := Lib.hid (HM.out ds[k] (List.getElem_mem hlt))
      have HTS := Lib.hid (tailN_step ds k hlt)
      generalize ds[k] = d at *
      obtain ⟨nm, ⟨dA, dc, ls, root⟩⟩ := d
      simp only at x0 x1 x2 HIN HMK HTS
      have hml := HMK.out
      have hB0 := bx1 wo (.cells #[.string nm, .slice dA ls.length dc, .int .i64 root] 50)
      have hj1 := hJ _ _ _ hj hB0
      have HB1 := Lib.hid (show Below n₀ W (wo.alloc (.cells #[.string nm, .slice dA ls.length dc, .int .i64 root] 50)) from HB.out.alloc (Nat.le_trans hn₀ HB.out.size) _)
      have HP1 := Lib.hid (show pre.map Subtype.val ++ ((ls.drop 0).map (fun l => (k, l)) ++ tailN ds (k + 1)) = allN ds from by rw [List.drop_zero, ← HTS.out]; exact HP.out)
      clear hB0
      gi_wp2
      clear x0 x1 x2
      gi_loopw [19] (fun v w' => ∃ (p2 : List Told) (j : Nat), j ≤ ls.length ∧ v = .int .i64 j ∧ Hid (p2.map Subtype.val ++ ((ls.drop j).map (fun l => (k, l)) ++ tailN ds (k + 1)) = allN ds) ∧ J p2 w' ∧ Hid (Below n₀ W w')) (fun v _ => ls.length - (intOf v).toNat)
      case atStart => exact ⟨pre, 0, Nat.zero_le _, rfl, HP1, hj1, HB1⟩
      case round =>
        clear hj hj1 HB HB1 HP HP1
        rename World => wz
        obtain ⟨p2, j, hjl, rfl, HP, hj, HB⟩ := hrel
        by_cases hlj : j < ls.length
        · have HTI := Lib.hid ((HIN.out _ HB.out).2)
          obtain ⟨b', off', rfl, _, _, x0, x1, x2, x3, x4, x5, x6, x7, x8⟩ := ndRow HTI.out j hlj
          have HWF := Lib.hid (ndWf HTI.out j hlj)
          have HDR := Lib.hid (List.drop_eq_getElem_cons hlj)
          have j1 : (j : Int) < (ls.length : Int) := by omega
          have HLT := Lib.hid (show p2.length < (allN ds).length from by
            have h := congrArg List.length HP.out
            rw [HDR.out] at h
            simp only [List.length_append, List.length_map, List.length_cons] at h
            omega)
          generalize ls[j] = ln at *
          have hW1 := hJ _ _ _ hj (bx1 wz (.cells #[.int .u8 ln.nd.kind, .int .u64 ln.nd.s0, .int .u64 ln.nd.s1, .int .u64 ln.nd.s2, .int .u64 ln.nd.s3, .string ln.nd.text, .int .i64 ln.nd.mn, .int .i64 ln.nd.mx, .slice ln.A ln.nd.kids.length ln.c] 71))
          have hYb := hY p2 ⟨(k, ln), HWF.out⟩ _ hW1 HLT.out
          simp only at hYb
          obtain ⟨fn, tmps, assign, body, hy, hR⟩ := hYb
          have HBA := Lib.hid (show Below n₀ W (wz.alloc (.cells #[.int .u8 ln.nd.kind, .int .u64 ln.nd.s0, .int .u64 ln.nd.s1, .int .u64 ln.nd.s2, .int .u64 ln.nd.s3, .string ln.nd.text, .int .i64 ln.nd.mn, .int .i64 ln.nd.mx, .slice ln.A ln.nd.kids.length ln.c] 71)) from HB.out.alloc (Nat.le_trans hn₀ HB.out.size) _)
          clear hW1
          gi_wp2
          refine hR.mono ?_
          rintro e W3 (⟨rfl, hJ3, hk3⟩ | ⟨rfl, hJx3⟩)
          · gi_wp2
            refine ⟨⟨p2 ++ [⟨(k, ln), HWF.out⟩], j + 1, by omega, by go_num, Lib.hid ?_, hJ3, Lib.hid (HBA.out.trans hk3)⟩, by simp only [intOf]; omega⟩
            rw [← HP.out, HDR.out, List.map_append, List.map_cons, List.append_assoc]; rfl
          · gi_wp2
            refine bodyPost_ret (v := .tuple #[]) (by simp [results, Tryz.results107]) rfl ?_
            refine ⟨⟨_, rfl⟩, .inr ⟨_, ⟨(ls.drop (j + 1)).map (fun l => (k, l)) ++ tailN ds (k + 1), ?_⟩, hJx3⟩⟩
            rw [← HP.out, HDR.out, List.map_append, List.map_cons, List.append_assoc]; rfl
        · obtain rfl : j = ls.length := by omega
          have HPE := Lib.hid (show p2.map Subtype.val ++ tailN ds (k + 1) = allN ds from by have h := HP.out; rwa [List.drop_length, List.map_nil, List.nil_append] at h)
          gi_wp2
          exact ⟨⟨p2, k + 1, by omega, by go_num, HPE, hj, HB⟩, by simp only [intOf]; omega⟩
    · obtain rfl : k = ds.length := by omega
      gi_wp2
      go_end0
      have HPE := HP.out
      rw [tailN_end, List.append_nil] at HPE
      exact ⟨⟨_, rfl⟩, .inl ⟨pre, HPE, hj⟩⟩
end Go.Proofs.YtmjkgnknfgoadaaGreatDoor
/- The contract of gram.May. -/
namespace Go.Proofs.YtmjkgnknfgoadaaGreatDoor
open Go.RowKit Go.Shelf Go.WideMaps
set_option linter.unusedSimpArgs false
set_option linter.unusedVariables false
attribute [local go_sem] Oper.semAt_some
theorem may_slots (v0 v1 v2 v3 v4 v5 v6 v7 v8 v9 v10 v11 v12 v13 v14 v15 v16 v17 v18 v19 v20 v21 v22 v23 v24 v25 v26 v27 v28 v29 v30 v31 v32 v33 v34 v35 v36 v37 v38 v39 v40 v41 v42 v43 v44 v45 v46 v47 v48 v49 v50 v51 v52 v53 v54 v55 v56 v57 v58 v59 v60 v61 v62 v63 v64 v65 v66 v67 v68 v69 v70 v71 v72 v73 v74 v75 v76 v77 v78 : Value) : ∃ u : Nat → Value, ({ tmps := #[v0, v1, v2, v3, v4, v5, v6, v7, v8, v9, v10, v11, v12, v13, v14, v15, v16, v17, v18, v19, v20, v21, v22, v23, v24, v25, v26, v27, v28, v29, v30, v31, v32, v33, v34, v35, v36, v37, v38, v39, v40, v41, v42, v43, v44, v45, v46, v47, v48, v49, v50, v51, v52, v53, v54, v55, v56, v57, v58, v59, v60, v61, v62, v63, v64, v65, v66, v67, v68, v69, v70, v71, v72, v73, v74, v75, v76, v77, v78], defers := [] } : Act) = { tmps := #[u 0, u 1, v2, u 3, u 4, v5, u 6, u 7, u 8, u 9, u 10, v11, u 12, u 13, u 14, u 15, u 16, u 17, u 18, u 19, u 20, u 21, u 22, u 23, u 24, u 25, u 26, u 27, u 28, u 29, u 30, u 31, u 32, u 33, u 34, u 35, u 36, u 37, u 38, u 39, u 40, u 41, u 42, u 43, u 44, u 45, u 46, u 47, u 48, u 49, u 50, u 51, u 52, u 53, u 54, u 55, u 56, u 57, u 58, u 59, u 60, u 61, u 62, u 63, u 64, u 65, u 66, u 67, u 68, u 69, u 70, u 71, u 72, u 73, u 74, u 75, u 76, u 77, u 78], defers := [] } :=
  ⟨fun k => [v0, v1, v2, v3, v4, v5, v6, v7, v8, v9, v10, v11, v12, v13, v14, v15, v16, v17, v18, v19, v20, v21, v22, v23, v24, v25, v26, v27, v28, v29, v30, v31, v32, v33, v34, v35, v36, v37, v38, v39, v40, v41, v42, v43, v44, v45, v46, v47, v48, v49, v50, v51, v52, v53, v54, v55, v56, v57, v58, v59, v60, v61, v62, v63, v64, v65, v66, v67, v68, v69, v70, v71, v72, v73, v74, v75, v76, v77, v78].getD k undef, rfl⟩
theorem zeroI (w : World) : (zeroValue 3).run Tryz.prog w = .ok (.int .i64 0) w := by kernel_rfl
theorem makeMap_size (n : Int) (w : World) : (Instr.makeMap 96 (some (.int .i64 n))).run Tryz.prog w = .ok (.map (some w.heap.size)) (w.alloc (.map #[] 0)) := by
  simp only [Instr.makeMap, Sem.run_bind, run_underlying Tryz.underlying96, Result.andThen]
  rfl
theorem mayG_first {g : List Df} (hne : g ≠ []) (hok : ∀ d ∈ g, (mayL d.name.data.toList && normT d.body) = true) : ¬ (g = [] ∨ g.any (fun d => !(mayL d.name.data.toList && normT d.body)) = true) := by
  rintro (h | h)
  · exact hne h
  · obtain ⟨d, hd, h⟩ := List.any_eq_true.1 h
    rw [hok d hd] at h; cases h
theorem mayG_large {g : List Df} (hne : g ≠ []) (hok : ∀ d ∈ g, (mayL d.name.data.toList && normT d.body) = true) (hl : largeG g = true) : mayG g = 40 := by
  unfold mayG; rw [if_neg (mayG_first hne hok), if_pos hl]
theorem mayG_rest {g : List Df} (hne : g ≠ []) (hok : ∀ d ∈ g, (mayL d.name.data.toList && normT d.body) = true) (hl : largeG g = false) : mayG g = if twiceG g then 6 else if lostG g then 41 else 0 := by
  unfold mayG; rw [if_neg (mayG_first hne hok), if_neg (by simp [hl])]
def namesD (g : List Df) : List (List UInt8) := g.map fun d => d.name.data.toList
def Places (w : World) (b n : Nat) (ns : List (List UInt8)) : Prop :=
  ∃ D : DataW Unit, w.ownsMap Tryz.prog 9 (plainElem (H := Unit) Tryz.prog 3) b n D ∧ Maps.IsMap D ∧ ∀ s : List UInt8, Maps.has D (.string s) = decide (s ∈ ns)
theorem find_names (g : List Df) (s : ByteArray) : findG g s < 0 ↔ s.data.toList ∉ namesD g := by
  rw [findG_neg]
  unfold namesD
  constructor
  · intro h hm
    obtain ⟨d, hd, e⟩ := List.mem_map.1 hm
    exact h d hd (text_ext e)
  · intro h d hd e
    exact h (List.mem_map.2 ⟨d, hd, by rw [e]⟩)
theorem lost_no (ds : List Ld) (h : ∀ x ∈ allN ds, x.2.nd.kind = 3 → x.2.nd.text.data.toList ∈ namesD (ds.map Ld.df)) : lostG (ds.map Ld.df) = false := by
  unfold lostG
  rw [List.any_eq_false]
  intro d hd
  obtain ⟨z, hz, rfl⟩ := List.mem_map.1 hd
  obtain ⟨i, hi, rfl⟩ := List.mem_iff_getElem.1 hz
  rw [Bool.not_eq_true, List.any_eq_false]
  intro n hn
  obtain ⟨ln, hln, rfl⟩ := List.mem_map.1 (show n ∈ ds[i].t.ls.map Ln.nd from hn)
  have hm := (allN_mem ds (i, ln)).2 ⟨hi, hln⟩
  rw [Bool.not_eq_true, Bool.and_eq_false_iff]
  by_cases hk : ln.nd.kind = 3
  · right
    have h1 := h _ hm hk
    rw [decide_eq_false]
    rw [find_names]
    exact fun h2 => h2 h1
  · left; exact decide_eq_false hk
theorem lost_yes (ds : List Ld) (x : Nat × Ln) (hx : x ∈ allN ds) (hk : x.2.nd.kind = 3) (ht : x.2.nd.text.data.toList ∉ namesD (ds.map Ld.df)) : lostG (ds.map Ld.df) = true := by
  obtain ⟨h1, h2⟩ := (allN_mem ds x).1 hx
  unfold lostG
  refine List.any_eq_true.2 ⟨_, List.mem_map_of_mem (List.getElem_mem h1), List.any_eq_true.2 ⟨x.2.nd, List.mem_map_of_mem h2, ?_⟩⟩
  rw [decide_eq_true hk, decide_eq_true ((find_names _ _).2 ht)]; rfl
theorem grown_belowM {w w' : World} (h : Below w.heap.size w w') (row : Option Nat) : w.grownBy w' row := ⟨h.os, h.tape, h.output, h.size, fun k hk _ => h.block k hk⟩
theorem nodes_stops (n : Nat) (hn : 1 ≤ n) (Bn n₀ : Nat) (A : Option Addr) (c : Nat) (ds : List Ld) (w : World) (hn₀ : n₀ ≤ w.heap.size) (hT : dfL.row w (· < n₀) A ds) (hl : ds.length ≤ 4294967296) (hm : ∀ d ∈ ds, d.t.ls.length ≤ 4294967296)
    (hc : w.heap[Bn]? = some (.cells #[.slice A ds.length c] 24 (0, 0))) :
    SeqStopsK Fence.wide n Tryz.prog 107 #[.pointer (some ⟨Bn, 0, none⟩)] (fun x : Told => #[.int .i64 (x.1.1 : Int), x.1.2.val]) (Below n₀)
      (fun xs : List Told => xs.map Subtype.val = allN ds) (fun pre => ∃ r, pre.map Subtype.val ++ r = allN ds) (allN ds).length w := fun l J Jx W hW hJ _ hY hj0 =>
  nodes1_in n hn l Bn n₀ A c ds J Jx (fun pre _ _ h hb => hJ pre _ _ none h (grown_belowM hb none) (fun r e => by cases e)) hY W (Nat.le_trans hn₀ hW.size) (hT.below hW) hl hm (bx_kept hW hc) hj0
theorem keepsOthers_belowM {w w' : World} (h : Below w.heap.size w w') : KeepsOthers w w' :=
  ⟨h.size, fun k _ hk _ => (h.block k (Array.getElem?_eq_some_iff.1 hk).1).trans hk⟩
theorem Places.kept {w w' : World} {b n : Nat} {ns : List (List UInt8)} {row : Option Nat} (h : Places w b n ns) (hg : w.grownBy w' row) (hne : some b ≠ row) : Places w' b n ns := by
  obtain ⟨D, h1, h2, h3⟩ := h
  exact ⟨D, h1.kept hg hne, h2, h3⟩
set_option maxRecDepth 100000 in
set_option maxHeartbeats 3200000 in
theorem gmay_in (n : Nat) (hn : 3 ≤ n) (A : Option Addr) (c : Nat) (ds : List Ld) (S : Nat → Prop) (w : World) (hT : dfL.row w S A ds) (hl : ds.length ≤ 50000) (hm : ∀ d ∈ ds, d.t.ls.length ≤ 1000000) (hp : PTabs w) :
    CallsIn Fence.wide n Tryz.prog 14 #[.agg #[.slice A ds.length c]] w fun e w' => e = .returned (.int .i64 (mayG (ds.map Ld.df))) ∧ Below w.heap.size w w' := by
  have h1 : 1 ≤ n := by omega
  have hmm := makeMap_size
  have hfn : ∀ k, Fence.wide.fn k := fun _ => trivial
  have h12 : 1 ≤ n - 1 - 1 := by omega
  have HT := Lib.hid hT; have HM := Lib.hid hm; have HP := Lib.hid hp
  clear hT hm hp
  refine callsIn_of_wp_marks Tryz.func14 rfl trivial ?_ rfl
  simp only [Tryz.ntmps14, List.size_toArray, List.length_cons, List.length_nil, Nat.reduceAdd, Nat.reduceSub, Array.replicate_succ, Array.replicate_zero, List.push_toArray, List.append_toArray, List.nil_append, List.cons_append]
  have HB0 := Lib.hid (bx2 w (.cells #[.slice A ds.length c] 24) (.cells #[.int .i64 0] 30))
  have HK0 := Lib.hid (show ((w.alloc (.cells #[.slice A ds.length c] 24)).alloc (.cells #[.int .i64 0] 30)).heap[w.heap.size]? = some (.cells #[.slice A ds.length c] 24 (0, 0)) from bx_old (bx_new w _))
  have HK1 := Lib.hid (show ((w.alloc (.cells #[.slice A ds.length c] 24)).alloc (.cells #[.int .i64 0] 30)).heap[w.heap.size + 1]? = some (.cells #[.int .i64 0] 30 (0, 0)) from by
    have h := bx_new (w.alloc (.cells #[.slice A ds.length c] 24)) (.cells #[.int .i64 0] 30); simpa using h)
  by_cases hz : ds.length = 0
  · have HX := Lib.hid (show mayG (ds.map Ld.df) = 4 from by
      have : ds = [] := List.eq_nil_of_length_eq_zero hz
      subst this; rfl)
    have e0 : ((ds.length : Int) == 0) = true := by rw [beq_iff_eq]; omega
    have hcell : ((w.alloc (.cells #[.slice A ds.length c] 24)).alloc (.cells #[.int .i64 4] 30)).cell? ⟨w.heap.size + 1, 0, none⟩ = some (.int .i64 4) := by
      have h := (blk1 (bx_new (w.alloc (.cells #[.slice A ds.length c] 24)) (.cells #[.int .i64 4] 30))).1
      rw [World.size_alloc] at h
      exact h
    clear hz
    gi_wp2
    refine ⟨.int .i64 4, ?_, by rw [HX.out], bx2 w _ _⟩
    simp [results, Tryz.f14, go_sem, hcell]
  · have e0 : ((ds.length : Int) == 0) = false := by rw [beq_eq_false_iff_ne]; omega
    have HNE := Lib.hid (show ds.map Ld.df ≠ [] from fun h => hz (by have := congrArg List.length h; simpa using this))
    have hz1 : 0 < w.heap.size + 1 := by omega
    clear hz
    gi_wp2
    gi_loopw [21] (fun i wr => ∃ k : Nat, k ≤ ds.length ∧ i = .int .i64 k ∧ Hid (∀ d ∈ (ds.map Ld.df).take k, (mayL d.name.data.toList && normT d.body) = true) ∧ Hid (Below w.heap.size w wr) ∧ Hid (wr.heap[w.heap.size]? = some (.cells #[.slice A ds.length c] 24 (0, 0))) ∧ Hid (wr.heap[w.heap.size + 1]? = some (.cells #[.int .i64 0] 30 (0, 0)))) (fun i _ => ds.length - (intOf i).toNat)
    case atStart => exact ⟨0, by omega, rfl, Lib.hid (by simp), HB0, HK0, HK1⟩
    case round =>
      clear HB0 HK0 HK1
      obtain ⟨k, hk, rfl, HOK, HB, HKG, HKR⟩ := hrel
      by_cases hlt : k < ds.length
      · obtain ⟨b, o, rfl, _, _, x0, x1, x2⟩ := dfRow (HT.out.agree (below_all HB.out)) k hlt
        have i1 : (k : Int) < (ds.length : Int) := by omega
        have HNC := Lib.hid (show ∀ w', Below w.heap.size w w' → Calls Tryz.prog 59 #[.agg #[.slice ds[k].t.A ds[k].t.ls.length ds[k].t.c, .int .i64 ds[k].t.root]] w' fun e w'' => e = .returned (.bool (normT ds[k].t.tr)) ∧ Below w'.heap.size w' w'' from fun w' hb => normal_any ds[k].t.A ds[k].t.c ds[k].t.ls ds[k].t.root S w' (dfSub (HT.out.agree (below_all hb)) k hlt).2 (by have := HM.out ds[k] (List.getElem_mem hlt); omega) (HP.out.below hb).cn)
        have HNM := Lib.hid (show ∀ w', Calls Tryz.prog 58 #[.string ds[k].name] w' fun e w'' => e = .returned (.bool (mayL ds[k].name.data.toList)) ∧ Below w'.heap.size w' w'' from fun w' => may_any ds[k].name w' (HT.out.sub k hlt).1)
        have HBAD := Lib.hid (show (mayL ds[k].name.data.toList && normT ds[k].t.tr) = false → mayG (ds.map Ld.df) = 4 from fun h => by
          unfold mayG
          rw [if_pos (.inr (List.any_eq_true.2 ⟨ds[k].df, List.mem_map_of_mem (List.getElem_mem hlt), by
            show (!(mayL ds[k].name.data.toList && normT ds[k].t.tr)) = true
            rw [h]; rfl⟩))])
        have HNEXT := Lib.hid (show (mayL ds[k].name.data.toList && normT ds[k].t.tr) = true → ∀ d ∈ (ds.map Ld.df).take (k + 1), (mayL d.name.data.toList && normT d.body) = true from fun h d hd => by
          rw [List.take_succ_eq_append_getElem (by simpa using hlt)] at hd
          rcases List.mem_append.1 hd with hd | hd
          · exact HOK.out d hd
          · simp only [List.mem_singleton, List.getElem_map] at hd
            subst hd; exact h)
        have hrl := (Array.getElem?_eq_some_iff.1 HKR.out).1
        generalize mayL ds[k].name.data.toList = ml at *
        generalize normT ds[k].t.tr = nt at *
        generalize ds[k] = d at *
        cases ml
        · have HX := Lib.hid (HBAD.out rfl)
          gi_wp2_with (first
            | (gi_at_call 58; refine (callsIn_wide.2 (HNM.out _)).mono ?_; rintro e w1 ⟨rfl, hb⟩; have HB1 := Lib.hid (Below.step (Below.step HB.out (bx1 wr _)) hb); have HK2 := Lib.hid (bx_kept (Below.step (bx1 wr _) hb) HKR.out); clear hb; obtain ⟨r0, r1⟩ := blk1 HK2.out)
            | fail)
          refine ⟨.int .i64 4, ?_, by rw [HX.out], HB1.out.setCell (p := ⟨w.heap.size + 1, 0, none⟩) (Nat.le_succ _) _⟩
          have hcell := World.cell?_setCell_same' w1 ⟨w.heap.size + 1, 0, none⟩ (.int .i64 4) (by rw [r0]; rfl)
          simp [results, Tryz.f14, go_sem, hcell]
        · cases nt
          · have HX := Lib.hid (HBAD.out rfl)
            gi_wp2_with (first
              | (gi_at_call 58; refine (callsIn_wide.2 (HNM.out _)).mono ?_; rintro e w1 ⟨rfl, hb⟩; have HB1 := Lib.hid (Below.step (Below.step HB.out (bx1 wr _)) hb); have HK2 := Lib.hid (bx_kept (Below.step (bx1 wr _) hb) HKR.out); have HD2 := Lib.hid (bx_kept hb (bx_new wr _)); clear hb; obtain ⟨y0, y1, y2⟩ := blk3' HD2.out)
              | (gi_at_call 59; refine (callsIn_wide.2 (HNC.out _ HB1.out)).mono ?_; rintro e w2 ⟨rfl, hb⟩; have HB2 := Lib.hid (Below.step HB1.out hb); have HK3 := Lib.hid (bx_kept hb HK2.out); clear hb; obtain ⟨r0, r1⟩ := blk1 HK3.out)
              | fail)
            refine ⟨.int .i64 4, ?_, by rw [HX.out], HB2.out.setCell (p := ⟨w.heap.size + 1, 0, none⟩) (Nat.le_succ _) _⟩
            have hcell := World.cell?_setCell_same' w2 ⟨w.heap.size + 1, 0, none⟩ (.int .i64 4) (by rw [r0]; rfl)
            simp [results, Tryz.f14, go_sem, hcell]
          · have HX := Lib.hid (HNEXT.out rfl)
            gi_wp2_with (first
              | (gi_at_call 58; refine (callsIn_wide.2 (HNM.out _)).mono ?_; rintro e w1 ⟨rfl, hb⟩; have HB1 := Lib.hid (Below.step (Below.step HB.out (bx1 wr _)) hb); have HS1 := Lib.hid (Below.step (bx1 wr _) hb); have HD2 := Lib.hid (bx_kept hb (bx_new wr _)); clear hb; obtain ⟨y0, y1, y2⟩ := blk3' HD2.out)
              | (gi_at_call 59; refine (callsIn_wide.2 (HNC.out _ HB1.out)).mono ?_; rintro e w2 ⟨rfl, hb⟩; have HB2 := Lib.hid (Below.step HB1.out hb); have HS2 := Lib.hid (Below.step HS1.out hb); clear hb)
              | fail)
            exact ⟨⟨k + 1, by omega, by go_num, HX, HB2, Lib.hid (bx_kept HS2.out HKG.out), Lib.hid (bx_kept HS2.out HKR.out)⟩, by simp only [intOf]; omega⟩
      · have HE := Lib.hid (show (ds.map Ld.df).take k = ds.map Ld.df from List.take_of_length_le (by simp; omega))
        have HALL := Lib.hid (show ∀ d ∈ ds.map Ld.df, (mayL d.name.data.toList && normT d.body) = true from fun d hd => HOK.out d (by rw [HE.out]; exact hd))
        clear HOK HE
        have HLC := Lib.hid (show ∀ w', Below w.heap.size w w' → Calls Tryz.prog 60 #[.agg #[.slice A ds.length c]] w' fun e w'' => e = .returned (.bool (largeG (ds.map Ld.df))) ∧ Below w'.heap.size w' w'' from fun w' hb => glarge_any A c ds S w' (HT.out.below hb) hl HM.out (HP.out.below hb))
        have HM40 := Lib.hid (mayG_large HNE.out HALL.out)
        have HMR := Lib.hid (mayG_rest HNE.out HALL.out)
        obtain ⟨q0, _⟩ := blk1 HKG.out
        generalize largeG (ds.map Ld.df) = lg at *
        cases lg
        · have HMX := Lib.hid (HMR.out rfl)
          clear HM40 HMR
          gi_wp2_with (first
            | (gi_at_call 60; refine (callsIn_wide.2 (HLC.out _ HB.out)).mono ?_; rintro e w1 ⟨rfl, hb⟩; have HB1 := Lib.hid (Below.step HB.out hb); have HG1 := Lib.hid (bx_kept hb HKG.out); have HR1 := Lib.hid (bx_kept hb HKR.out); clear hb; obtain ⟨z0, _⟩ := blk1 HG1.out; have hlt1 := (Array.getElem?_eq_some_iff.1 HG1.out).1; have hlt2 := (Array.getElem?_eq_some_iff.1 HR1.out).1)
            | fail)
          have HBM := Lib.hid (Below.step HB1.out (bx2 w1 (.map #[] 0) (.cells #[.map (some w1.heap.size)] 96)))
          have HGM := Lib.hid (bx_kept (bx2 w1 (.map #[] 0) (.cells #[.map (some w1.heap.size)] 96)) HG1.out)
          have HRM := Lib.hid (bx_kept (bx2 w1 (.map #[] 0) (.cells #[.map (some w1.heap.size)] 96)) HR1.out)
          have HVM := Lib.hid (show ((w1.alloc (.map #[] 0)).alloc (.cells #[.map (some w1.heap.size)] 96)).heap[w1.heap.size + 1]? = some (.cells #[.map (some w1.heap.size)] 96 (0, 0)) from by
            have h := bx_new (w1.alloc (.map #[] 0)) (.cells #[.map (some w1.heap.size)] 96); simpa using h)
          have HPM := Lib.hid (show Places ((w1.alloc (.map #[] 0)).alloc (.cells #[.map (some w1.heap.size)] 96)) w1.heap.size 0 (namesD ((ds.map Ld.df).take 0)) from
            ⟨.map [], (World.ownsMap_made w1 Tryz.prog 9 (plainElem (H := Unit) Tryz.prog 3)).alloc _, Maps.isMap_empty, fun s => by simp [namesD, Maps.has]⟩)
          generalize hMb : w1.heap.size = Mb at *
          have HMB := Lib.hid hMb; clear hMb
          have HMBW := Lib.hid (show w.heap.size + 1 < Mb from hlt2)
          generalize (w1.alloc (.map #[] 0)).alloc (.cells #[.map (some Mb)] 96) = W2 at *
          clear z0 q0
          gi_loopw [45] (fun i wr => ∃ k : Nat, k ≤ ds.length ∧ i = .int .i64 k ∧ Hid (∀ i j (hij : i < j) (hj : j < k) (hd : j < (ds.map Ld.df).length), (ds.map Ld.df)[i].name ≠ (ds.map Ld.df)[j].name) ∧ Hid (Places wr Mb k (namesD ((ds.map Ld.df).take k))) ∧ Hid (Below w.heap.size w wr) ∧ Hid (wr.heap[w.heap.size]? = some (.cells #[.slice A ds.length c] 24 (0, 0))) ∧ Hid (wr.heap[w.heap.size + 1]? = some (.cells #[.int .i64 0] 30 (0, 0))) ∧ Hid (wr.heap[Mb + 1]? = some (.cells #[.map (some Mb)] 96 (0, 0)))) (fun i _ => ds.length - (intOf i).toNat)
          case atStart => exact ⟨0, by omega, rfl, Lib.hid (fun i j hij hj _ => by omega), HPM, HBM, HGM, HRM, HVM⟩
          case round =>
            clear HPM HBM HGM HRM HVM HB HKG HKR HB1 HG1 HR1
            obtain ⟨wo, rfl⟩ : ∃ wo : World, wo = wr := ⟨_, rfl⟩
            obtain ⟨k2, hk2, rfl, HDI, HPL, HB, HKG, HKR, HKV⟩ := hrel
            by_cases hlt : k2 < ds.length
            · obtain ⟨b, o, rfl, _, _, x0, x1, x2⟩ := dfRow (HT.out.agree (below_all HB.out)) k2 hlt
              have i1 : (k2 : Int) < (ds.length : Int) := by omega
              have hnml : ds[k2].name.size ≤ maxLen := by have := (HT.out.sub k2 hlt).1; unfold maxLen; omega
              have hml2 : k2 < (ds.map Ld.df).length := by simpa using hlt
              have HNK := Lib.hid (show (ds.map Ld.df)[k2].name = ds[k2].name by simp [Ld.df])
              have HTK := Lib.hid (show namesD ((ds.map Ld.df).take (k2 + 1)) = namesD ((ds.map Ld.df).take k2) ++ [ds[k2].name.data.toList] from by
                unfold namesD
                rw [List.take_succ_eq_append_getElem hml2, List.map_append]; simp [Ld.df])
              have HTW := Lib.hid (show ds[k2].name.data.toList ∈ namesD ((ds.map Ld.df).take k2) → twiceG (ds.map Ld.df) = true from fun h => by
                unfold namesD at h
                obtain ⟨d, hd, he⟩ := List.mem_map.1 h
                obtain ⟨i, hi, rfl⟩ := List.mem_iff_getElem.1 hd
                rw [List.length_take] at hi
                rw [List.getElem_take] at he
                exact (twiceG_iff _).2 ⟨i, k2, by omega, hml2, by rw [HNK.out]; exact text_ext he⟩)
              have HNW := Lib.hid (show ds[k2].name.data.toList ∉ namesD ((ds.map Ld.df).take k2) → ∀ i j (hij : i < j) (hj : j < k2 + 1) (hd : j < (ds.map Ld.df).length), (ds.map Ld.df)[i].name ≠ (ds.map Ld.df)[j].name from fun h i j hij hj hd e => by
                by_cases ej : j = k2
                · subst ej
                  apply h
                  unfold namesD
                  rw [HNK.out] at e
                  exact List.mem_map.2 ⟨(ds.map Ld.df)[i], by rw [List.mem_iff_getElem]; exact ⟨i, by rw [List.length_take]; omega, by rw [List.getElem_take]⟩, by rw [e]⟩
                · exact HDI.out i j hij (by omega) hd e)
              clear HNK hml2
              generalize ds[k2].name = nm at *
              generalize ds[k2] = d at *
              have hkey : keyOf Tryz.prog 9 (.string nm) = some (.string nm.data.toList) := keyOf_string_mk Tryz.underlying9 hnml
              obtain ⟨v0, _⟩ := blk1 HKV.out
              obtain ⟨r0, r1⟩ := blk1 HKR.out
              obtain ⟨D, hown, hmap, hhas⟩ := HPL.out
              have hv2 := (Array.getElem?_eq_some_iff.1 HKV.out).1
              have hr2 := (Array.getElem?_eq_some_iff.1 HKR.out).1
              have hownA := hown.alloc (.cells #[.string nm, .slice d.t.A d.t.ls.length d.t.c, .int .i64 d.t.root] 50)
              have HHS := Lib.hid (hhas nm.data.toList)
              have HMP := Lib.hid hmap; have HHA := Lib.hid hhas; have HOA := Lib.hid hownA
              have HOW := Lib.hid hown
              clear hown hmap hhas hownA
              by_cases hmem : nm.data.toList ∈ namesD ((ds.map Ld.df).take k2)
              · have hh : Maps.has D (.string nm.data.toList) = true := by rw [HHS.out]; exact decide_eq_true hmem
                have HX := Lib.hid (show mayG (ds.map Ld.df) = 6 from by rw [HMX.out, HTW.out hmem]; rfl)
                clear hmem
                gi_wp2_with (first
                  | (gi_at_lookup; refine wpListIn_lookup_own_ok_int _ rfl _ _ 96 rfl 9 3 .i64 (Maps.string_keyed Tryz.underlying9) Tryz.underlying96 Tryz.underlying3 (zeroI _) Mb k2 D rfl HOA.out _ _ rfl hkey ?_; intro cc hat hwc)
                  | fail)
                refine ⟨.int .i64 6, ?_, by rw [HX.out], ?_⟩
                · have hcell := ((bx1 (wo.setCell ⟨w.heap.size + 1, 0, none⟩ (.int .i64 6)) (.cells #[.string nm, .slice d.t.A d.t.ls.length d.t.c, .int .i64 d.t.root] 50)).cell (p := ⟨w.heap.size + 1, 0, none⟩) (by simpa using hr2)).trans (World.cell?_setCell_same' wo ⟨w.heap.size + 1, 0, none⟩ (.int .i64 6) (by rw [r0]; rfl))
                  simp [results, Tryz.f14, go_sem, hcell]
                · exact (HB.out.setCell (p := ⟨w.heap.size + 1, 0, none⟩) (Nat.le_succ _) _).alloc (by have := HB.out.size; simpa using this) _
              · have hh : Maps.has D (.string nm.data.toList) = false := by rw [HHS.out]; exact decide_eq_false hmem
                have HX := Lib.hid (HNW.out hmem)
                have HMEM := Lib.hid hmem
                clear hmem
                gi_wp2_with (first
                  | (gi_at_lookup; refine wpListIn_lookup_own_ok_int _ rfl _ _ 96 rfl 9 3 .i64 (Maps.string_keyed Tryz.underlying9) Tryz.underlying96 Tryz.underlying3 (zeroI _) Mb k2 D rfl HOA.out _ _ rfl hkey ?_; intro cc hat hwc)
                  | (gi_at_mapUpdate; refine wpListIn_mapUpdate_own _ rfl _ _ _ 96 rfl 9 3 (Maps.string_keyed Tryz.underlying9) Tryz.underlying96 _ Mb k2 D rfl HOA.out (by unfold maxLen; omega) _ _ _ rfl rfl hkey _ [] (plainElem_int Tryz.underlying3 (WalkArith.wf_i64 (n := (k2 : Int)) ⟨by omega, by omega⟩)) ?_; intro w5 hown1 hgrow1; have HO5 := Lib.hid hown1; have HG5 := Lib.hid hgrow1; clear hown1 hgrow1)
                  | fail)
                have HSZ := Lib.hid (show wo.heap.size ≤ w5.heap.size ∧ Mb < wo.heap.size from ⟨by have := HG5.out.size; simp at this; omega, by omega⟩)
                have HK5 := Lib.hid (show ∀ x, x < wo.heap.size → x ≠ Mb → w5.heap[x]? = wo.heap[x]? from fun x hx hne => (HG5.out.block x (by simp; omega) (fun e => hne (by cases e; rfl))).trans (Below.heap_alloc _ _ x hx))
                have HBB := Lib.hid (show Below w.heap.size w w5 from (HB.out.alloc HB.out.size _).grown HG5.out (by have := HB.out.size; simp; omega) (fun x e => by cases e; have := HMBW.out; omega))
                gi_wp2
                refine ⟨⟨k2 + 1, by omega, by go_num, HX, Lib.hid ⟨_, HO5.out, HMP.out.put _ _, fun s => ?_⟩, HBB, Lib.hid ((HK5.out _ (by omega) (by have := HMBW.out; omega)).trans HKG.out), Lib.hid ((HK5.out _ hr2 (by have := HMBW.out; omega)).trans HKR.out), Lib.hid ((HK5.out _ hv2 (by omega)).trans HKV.out)⟩, by simp only [intOf]; omega⟩
                rw [HTK.out]
                by_cases es : s = nm.data.toList
                · subst es
                  rw [Maps.has_put_same (k := .string nm.data.toList) HMP.out trivial]
                  simp
                · rw [Maps.has_put_other (fun e => es (by injection e)), HHA.out]
                  simp [es]
            · obtain rfl : k2 = ds.length := by omega
              have HTW := Lib.hid (show twiceG (ds.map Ld.df) = false from by
                cases ht : twiceG (ds.map Ld.df) with
                | false => rfl
                | true =>
                  obtain ⟨i, j, hij, hj, e⟩ := (twiceG_iff _).1 ht
                  exact absurd e (HDI.out i j hij (by simpa using hj) hj))
              have HPF := Lib.hid (show Places wo Mb ds.length (namesD (ds.map Ld.df)) from by
                have h := HPL.out
                rwa [List.take_of_length_le (by simp)] at h)
              have HMY := Lib.hid (show mayG (ds.map Ld.df) = if lostG (ds.map Ld.df) then 41 else 0 from by have h := HMX.out; rw [HTW.out] at h; exact h)
              have i1 : ¬ (ds.length : Int) < (ds.length : Int) := by omega
              clear HDI HPL HMX HTW
              obtain ⟨q0, _⟩ := blk1 HKG.out
              gi_wp2_with (first | (gi_at_call 61; refine (nodes_in _ _ trivial rfl A ds.length c _).mono ?_; rintro e w' ⟨rfl, rfl⟩) | fail)
              obtain ⟨r0, r1⟩ := blk1 HKR.out
              obtain ⟨v0, _⟩ := blk1 HKV.out
              have hv2 := (Array.getElem?_eq_some_iff.1 HKV.out).1
              have hr2 := (Array.getElem?_eq_some_iff.1 HKR.out).1
              have hmb2 := HMBW.out
              have HBN := Lib.hid (show Below w.heap.size w (wo.alloc (.cells #[.slice A ds.length c] 24)) from HB.out.alloc HB.out.size _)
              have HTN := Lib.hid (show dfL.row (wo.alloc (.cells #[.slice A ds.length c] 24)) (· < wo.heap.size + 1) A ds from (HT.out.below HBN.out).mono (fun k hk _ => by simpa using hk))
              have hb1 := bx1 wo (.cells #[.slice A ds.length c] 24)
              refine wpIn_rangeFunc_ownH rfl h1 (gf := 107) (lb := #[.pointer (some ⟨wo.heap.size, 0, none⟩)]) rfl trivial (enters_of Tryz.func107 (by kernel_rfl) rfl)
                (nodes_stops (n - 1) (by omega) wo.heap.size (wo.heap.size + 1) A c ds _ (by simp) HTN.out (by omega) (fun d hd => by have := HM.out d hd; omega) (bx_new wo _)) belowK_t (belowK_b (by simp)) (Below.refl _ _) (fun _ => rfl)
                (fun pre W => ((∀ x ∈ pre, x.1.2.nd.kind = 3 → x.1.2.nd.text.data.toList ∈ namesD (ds.map Ld.df)) ∧ W.cell? ⟨w.heap.size + 1, 0, none⟩ = some (.int .i64 0) ∧ W.frozen? ⟨w.heap.size + 1, 0, none⟩ = false ∧ W.cell? ⟨Mb + 1, 0, none⟩ = some (.map (some Mb)) ∧ Places W Mb ds.length (namesD (ds.map Ld.df)) ∧ wo.heap.size + 1 ≤ W.heap.size) ∧ Below w.heap.size w W)
                (fun c pre W => (c = .ret ∧ (∃ x ∈ pre, x.1.2.nd.kind = 3 ∧ x.1.2.nd.text.data.toList ∉ namesD (ds.map Ld.df)) ∧ W.cell? ⟨w.heap.size + 1, 0, none⟩ = some (.int .i64 41)) ∧ Below w.heap.size w W)
                ?hI ?hIx ?h0
                (fun x a' W => ∃ (nb : Nat) (u : Nat → Value), a' = { tmps := #[u 0, u 1, .pointer (some ⟨w.heap.size + 1, 0, none⟩), u 3, u 4, .pointer (some ⟨Mb + 1, 0, none⟩), u 6, u 7, u 8, u 9, u 10, .pointer (some ⟨nb, 0, none⟩), u 12, u 13, u 14, u 15, u 16, u 17, u 18, u 19, u 20, u 21, u 22, u 23, u 24, u 25, u 26, u 27, u 28, u 29, u 30, u 31, u 32, u 33, u 34, u 35, u 36, u 37, u 38, u 39, u 40, u 41, u 42, u 43, u 44, u 45, u 46, u 47, u 48, u 49, u 50, u 51, u 52, u 53, u 54, u 55, u 56, u 57, u 58, u 59, u 60, u 61, u 62, u 63, u 64, u 65, u 66, u 67, u 68, u 69, u 70, u 71, u 72, u 73, u 74, u 75, u 76, u 77, u 78], defers := [] } ∧ W.cell? ⟨nb, 0, none⟩ = some (.int .u8 x.1.2.nd.kind) ∧ W.cell? ⟨nb, 5, none⟩ = some (.string x.1.2.nd.text)) ?hAx ?assign ?body ?done ?stop
              case hI =>
                refine OwnFrom.and (fun s A B row hs hg hr => ⟨hs.1, cell_kept hs.2.1 hg (fun r e => (hr r e).2), (frozen_kept hs.2.1 hg (fun r e => (hr r e).2)).trans hs.2.2.1, cell_kept hs.2.2.2.1 hg (fun r e => (hr r e).2), hs.2.2.2.2.1.kept hg (fun e => ?_), Nat.le_trans hs.2.2.2.2.2 hg.size⟩) (ownFrom_below (Nat.le_refl _) (by have := HB.out.size; simp; omega))
                have := (hr _ e.symm).1
                simp at this; omega
              case hIx =>
                intro c
                refine OwnFrom.and (fun s A B row hs hg hr => ?_) (ownFrom_below (Nat.le_refl _) (by have := HB.out.size; simp; omega))
                obtain ⟨rfl, h1, h3⟩ := hs
                exact ⟨rfl, h1, cell_kept h3 hg (fun r e => (hr r e).2)⟩
              case h0 =>
                exact ⟨⟨by simp, (hb1.cell (p := ⟨w.heap.size + 1, 0, none⟩) hr2).trans r0, (World.frozen?_of_block (hb1.block (w.heap.size + 1) hr2)).trans r1, (hb1.cell (p := ⟨Mb + 1, 0, none⟩) hv2).trans v0, HPF.out.kept (grown_belowM hb1 none) (by simp), by simp⟩, HBN.out⟩
              case hAx =>
                rintro x a' _ W W' row ⟨nb, u, rfl, c0, c5⟩ hg hr
                exact ⟨nb, u, rfl, cell_kept c0 hg (fun r e => (hr r e).2), cell_kept c5 hg (fun r e => (hr r e).2)⟩
              case assign =>
                intro l pre x W K hi hK
                obtain ⟨⟨hp, hR, hRf, hMv, hPl, hSz⟩, hB⟩ := hi
                have hW1 := bx1 W (.cells #[.int .u8 x.1.2.nd.kind, .int .u64 x.1.2.nd.s0, .int .u64 x.1.2.nd.s1, .int .u64 x.1.2.nd.s2, .int .u64 x.1.2.nd.s3, .string x.1.2.nd.text, .int .i64 x.1.2.nd.mn, .int .i64 x.1.2.nd.mx, .slice x.1.2.A x.1.2.nd.kids.length x.1.2.c] 71)
                obtain ⟨y0, _, _, _, _, y5, _⟩ := blk9 (bx_new W (.cells #[.int .u8 x.1.2.nd.kind, .int .u64 x.1.2.nd.s0, .int .u64 x.1.2.nd.s1, .int .u64 x.1.2.nd.s2, .int .u64 x.1.2.nd.s3, .string x.1.2.nd.text, .int .i64 x.1.2.nd.mn, .int .i64 x.1.2.nd.mx, .slice x.1.2.A x.1.2.nd.kids.length x.1.2.c] 71))
                have HI2 := Lib.hid (show ((∀ x ∈ pre, x.1.2.nd.kind = 3 → x.1.2.nd.text.data.toList ∈ namesD (ds.map Ld.df)) ∧ (W.alloc (.cells #[.int .u8 x.1.2.nd.kind, .int .u64 x.1.2.nd.s0, .int .u64 x.1.2.nd.s1, .int .u64 x.1.2.nd.s2, .int .u64 x.1.2.nd.s3, .string x.1.2.nd.text, .int .i64 x.1.2.nd.mn, .int .i64 x.1.2.nd.mx, .slice x.1.2.A x.1.2.nd.kids.length x.1.2.c] 71)).cell? ⟨w.heap.size + 1, 0, none⟩ = some (.int .i64 0) ∧ (W.alloc (.cells #[.int .u8 x.1.2.nd.kind, .int .u64 x.1.2.nd.s0, .int .u64 x.1.2.nd.s1, .int .u64 x.1.2.nd.s2, .int .u64 x.1.2.nd.s3, .string x.1.2.nd.text, .int .i64 x.1.2.nd.mn, .int .i64 x.1.2.nd.mx, .slice x.1.2.A x.1.2.nd.kids.length x.1.2.c] 71)).frozen? ⟨w.heap.size + 1, 0, none⟩ = false ∧ (W.alloc (.cells #[.int .u8 x.1.2.nd.kind, .int .u64 x.1.2.nd.s0, .int .u64 x.1.2.nd.s1, .int .u64 x.1.2.nd.s2, .int .u64 x.1.2.nd.s3, .string x.1.2.nd.text, .int .i64 x.1.2.nd.mn, .int .i64 x.1.2.nd.mx, .slice x.1.2.A x.1.2.nd.kids.length x.1.2.c] 71)).cell? ⟨Mb + 1, 0, none⟩ = some (.map (some Mb)) ∧ Places (W.alloc (.cells #[.int .u8 x.1.2.nd.kind, .int .u64 x.1.2.nd.s0, .int .u64 x.1.2.nd.s1, .int .u64 x.1.2.nd.s2, .int .u64 x.1.2.nd.s3, .string x.1.2.nd.text, .int .i64 x.1.2.nd.mn, .int .i64 x.1.2.nd.mx, .slice x.1.2.A x.1.2.nd.kids.length x.1.2.c] 71)) Mb ds.length (namesD (ds.map Ld.df)) ∧ wo.heap.size + 1 ≤ (W.alloc (.cells #[.int .u8 x.1.2.nd.kind, .int .u64 x.1.2.nd.s0, .int .u64 x.1.2.nd.s1, .int .u64 x.1.2.nd.s2, .int .u64 x.1.2.nd.s3, .string x.1.2.nd.text, .int .i64 x.1.2.nd.mn, .int .i64 x.1.2.nd.mx, .slice x.1.2.A x.1.2.nd.kids.length x.1.2.c] 71)).heap.size) ∧ Below w.heap.size w (W.alloc (.cells #[.int .u8 x.1.2.nd.kind, .int .u64 x.1.2.nd.s0, .int .u64 x.1.2.nd.s1, .int .u64 x.1.2.nd.s2, .int .u64 x.1.2.nd.s3, .string x.1.2.nd.text, .int .i64 x.1.2.nd.mn, .int .i64 x.1.2.nd.mx, .slice x.1.2.A x.1.2.nd.kids.length x.1.2.c] 71)) from
                  ⟨⟨hp, (hW1.cell (cellLt hR)).trans hR, (World.frozen?_of_block (hW1.block (w.heap.size + 1) (cellLt hR))).trans hRf, (hW1.cell (cellLt hMv)).trans hMv, hPl.kept (grown_belowM hW1 none) (by simp), Nat.le_trans hSz hW1.size⟩, hB.alloc hB.size _⟩)
                have HKF := Lib.hid (keepsOthers_belowM hW1); have HKB := Lib.hid (hW1.mono hSz)
                have HY0 := Lib.hid y0; have HY5 := Lib.hid y5
                clear hp hR hRf hMv hPl hSz hB hW1 y0 y5
                gi_wp2
                obtain ⟨u, hu⟩ := may_slots _ _ _ _ _ _ _ _ _ _ _ _ _ _ _ _ _ _ _ _ _ _ _ _ _ _ _ _ _ _ _ _ _ _ _ _ _ _ _ _ _ _ _ _ _ _ _ _ _ _ _ _ _ _ _ _ _ _ _ _ _ _ _ _ _ _ _ _ _ _ _ _ _ _ _ _ _ _ _
                exact hK _ _ (HKF.out.from _) HKB.out HI2.out ⟨_, u, hu, HY0.out, HY5.out⟩
              case body =>
                rintro l pre x a' W _ _ ⟨⟨hp, hR, hRf, hMv, hPl, hSz⟩, hB⟩ ⟨nb, u, rfl, hk0, ht0⟩ hlen
                have hkey : keyOf Tryz.prog 9 (.string x.1.2.nd.text) = some (.string x.1.2.nd.text.data.toList) := keyOf_string_mk Tryz.underlying9 (by have := x.2.2.1; unfold maxLen; omega)
                obtain ⟨D, hown, hmap, hhas⟩ := hPl
                have HOW := Lib.hid hown; have HPL := Lib.hid (show Places W Mb ds.length (namesD (ds.map Ld.df)) from ⟨D, hown, hmap, hhas⟩)
                have HHS := Lib.hid (hhas x.1.2.nd.text.data.toList)
                have HP2 := Lib.hid hp
                clear hown hmap hhas hp
                by_cases hk3 : x.1.2.nd.kind = 3
                · have f1 : (x.1.2.nd.kind != 3) = false := by rw [hk3]; rfl
                  have HK3 := Lib.hid hk3
                  clear hk3
                  by_cases hmem : x.1.2.nd.text.data.toList ∈ namesD (ds.map Ld.df)
                  · have hh : Maps.has D (.string x.1.2.nd.text.data.toList) = true := by rw [HHS.out]; exact decide_eq_true hmem
                    have HME := Lib.hid hmem; clear hmem
                    gi_wp2_with (first
                      | (gi_at_lookup; refine wpListIn_lookup_own_ok_int _ rfl _ _ 96 rfl 9 3 .i64 (Maps.string_keyed Tryz.underlying9) Tryz.underlying96 Tryz.underlying3 (zeroI _) Mb ds.length D rfl HOW.out _ _ rfl hkey ?_; intro cc hat hwc)
                      | fail)
                    exact ⟨KeepsFrom.refl _ _, Below.refl _ _, ⟨fun y hy hyk => by
                      rcases List.mem_append.1 hy with hy | hy
                      · exact HP2.out y hy hyk
                      · simp only [List.mem_singleton] at hy; subst hy; exact HME.out, hR, hRf, hMv, HPL.out, hSz⟩, hB⟩
                  · have hh : Maps.has D (.string x.1.2.nd.text.data.toList) = false := by rw [HHS.out]; exact decide_eq_false hmem
                    have HME := Lib.hid hmem; clear hmem
                    gi_wp2_with (first
                      | (gi_at_lookup; refine wpListIn_lookup_own_ok_int _ rfl _ _ 96 rfl 9 3 .i64 (Maps.string_keyed Tryz.underlying9) Tryz.underlying96 Tryz.underlying3 (zeroI _) Mb ds.length D rfl HOW.out _ _ rfl hkey ?_; intro cc hat hwc)
                      | fail)
                    exact ⟨(KeepsOthers.setCell _ _ _).from _, ⟨rfl, ⟨x, by simp, HK3.out, HME.out⟩, World.cell?_setCell_same' _ _ _ (by rw [hR]; rfl)⟩, hB.setCell (p := ⟨w.heap.size + 1, 0, none⟩) (Nat.le_succ _) _⟩
                · have f1 : (x.1.2.nd.kind != 3) = true := by simpa using hk3
                  gi_wp2
                  exact ⟨KeepsFrom.refl _ _, Below.refl _ _, ⟨fun y hy hyk => by
                    rcases List.mem_append.1 hy with hy | hy
                    · exact HP2.out y hy hyk
                    · simp only [List.mem_singleton] at hy; subst hy; exact absurd hyk hk3, hR, hRf, hMv, HPL.out, hSz⟩, hB⟩
              case done =>
                rintro D ys W hD hS ⟨⟨hp, hR, hRf, hMv, hPl, hSz⟩, hB⟩ hK
                have HX := Lib.hid (show mayG (ds.map Ld.df) = 0 from by
                  rw [HMY.out, lost_no ds (fun x hx hk => by
                    rw [← hS] at hx
                    obtain ⟨y, hy, rfl⟩ := List.mem_map.1 hx
                    exact hp y hy hk)]; rfl)
                clear hPl hp
                gi_wp2
                have hK' := (KeepsOthers.setCell W ⟨w.heap.size + 1, 0, none⟩ (.int .i64 0)).same D _ hK rfl
                refine ⟨by simp, .inl ⟨_, _, rfl, run_takeDeferred hK', ?_⟩⟩
                have hc5 := cell_kept (World.cell?_setCell_same' W ⟨w.heap.size + 1, 0, none⟩ (.int .i64 0) (by rw [hR]; rfl)) (grownBy_putObj' _ D (.deferred none)) (fun r e => by cases e; exact ⟨_, hK', rfl⟩)
                refine ⟨.int .i64 0, ?_, by rw [HX.out], (hB.setCell (p := ⟨w.heap.size + 1, 0, none⟩) (Nat.le_succ _) _).trans (belowK_b (w := w) (Nat.le_refl _) _ D _ _ (by have := HB.out.size; simp at hD; omega) hK' rfl rfl)⟩
                simp [results, Tryz.f14, go_sem, hc5]
              case stop =>
                rintro D cd pre W hD hT ⟨⟨rfl, ⟨x, hx, hk, ht⟩, hR⟩, hB⟩ hK
                have HX := Lib.hid (show mayG (ds.map Ld.df) = 41 from by
                  obtain ⟨r, hr⟩ := hT
                  rw [HMY.out, lost_yes ds x.1 (by rw [← hr]; exact List.mem_append_left _ (List.mem_map_of_mem hx)) hk ht]; rfl)
                gi_wp2
                refine ⟨by simp, .inl ⟨_, _, rfl, run_takeDeferred hK, ?_⟩⟩
                have hc5 := cell_kept hR (grownBy_putObj' _ D (.deferred none)) (fun r e => by cases e; exact ⟨_, hK, rfl⟩)
                refine ⟨.int .i64 41, ?_, by rw [HX.out], hB.trans (belowK_b (w := w) (Nat.le_refl _) W D _ _ (by have := HB.out.size; simp at hD; omega) hK rfl rfl)⟩
                simp [results, Tryz.f14, go_sem, hc5]
        · have HX := Lib.hid (HM40.out rfl)
          gi_wp2_with (first
            | (gi_at_call 60; refine (callsIn_wide.2 (HLC.out _ HB.out)).mono ?_; rintro e w1 ⟨rfl, hb⟩; have HB1 := Lib.hid (Below.step HB.out hb); have HK2 := Lib.hid (bx_kept hb HKR.out); clear hb; obtain ⟨r0, r1⟩ := blk1 HK2.out)
            | fail)
          refine ⟨.int .i64 40, ?_, by rw [HX.out], HB1.out.setCell (p := ⟨w.heap.size + 1, 0, none⟩) (Nat.le_succ _) _⟩
          have hcell := World.cell?_setCell_same' w1 ⟨w.heap.size + 1, 0, none⟩ (.int .i64 40) (by rw [r0]; rfl)
          simp [results, Tryz.f14, go_sem, hcell]
theorem gmay_any (A : Option Addr) (c : Nat) (ds : List Ld) (S : Nat → Prop) (w : World) (hT : dfL.row w S A ds) (hl : ds.length ≤ 50000) (hm : ∀ d ∈ ds, d.t.ls.length ≤ 1000000) (hp : PTabs w) :
    Calls Tryz.prog 14 #[.agg #[.slice A ds.length c]] w fun e w' => e = .returned (.int .i64 (mayG (ds.map Ld.df))) ∧ Below w.heap.size w w' :=
  (callsIn_wide (n := 3)).1 (gmay_in 3 (Nat.le_refl _) A c ds S w hT hl hm hp)
end Go.Proofs.YtmjkgnknfgoadaaGreatDoor
