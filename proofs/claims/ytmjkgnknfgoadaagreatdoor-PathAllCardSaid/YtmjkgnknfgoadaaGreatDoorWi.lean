/- The contract of path.All. -/
import Derived.Test.YtmjkgnknfgoadaaGreatDoorWh
import Derived.Test.YtmjkgnknfgoadaaGreatDoorWc
import Derived.Test.YtmjkgnknfgoadaaGreatDoorIh
import Derived.Maps.AppendAt
namespace Go.Proofs.YtmjkgnknfgoadaaGreatDoor
open Go.RowKit Go.Shelf
set_option linter.unusedSimpArgs false
set_option linter.unusedVariables false
attribute [local go_sem] Oper.semAt_some

theorem infoPlace : (Tryz.prog.info? 56).map (fun i => (i.zero, i.size, i.bytes)) = some (some (.agg #[.int .i64 0, .slice none 0 0]), 2, 32) := by kernel_rfl
/-- All places of these rules, from a number on. -/
def allPs : List Df → Nat → List (Int × List Int)
  | [], _ => []
  | d :: g, i => (allTT (den d.body.nodes d.body.root.toNat) []).map (fun p => ((i : Int), p)) ++ allPs g (i + 1)
theorem allPs_app : ∀ (g h : List Df) (i : Nat), allPs (g ++ h) i = allPs g i ++ allPs h (i + g.length)
  | [], h, i => by simp [allPs]
  | d :: g, h, i => by rw [List.cons_append, allPs, allPs_app g h (i + 1), allPs, List.append_assoc, List.length_cons, show i + 1 + g.length = i + (g.length + 1) by omega]
theorem allPs_take (g : List Df) (i : Nat) (hi : i < g.length) : allPs (g.take (i + 1)) 0 = allPs (g.take i) 0 ++ (allTT (den g[i].body.nodes g[i].body.root.toNat) []).map (fun p => ((i : Int), p)) := by
  rw [List.take_succ_eq_append_getElem hi, allPs_app, List.length_take, Nat.min_eq_left (by omega)]
  simp [allPs]
theorem allPs_len (B : Nat) : ∀ (g : List Df) (i : Nat), (∀ d ∈ g, szTT (den d.body.nodes d.body.root.toNat) ≤ B) → (allPs g i).length ≤ g.length * B
  | [], _, _ => by simp [allPs]
  | d :: g, i, h => by
    have h1 := allPs_len B g (i + 1) fun x hx => h x (List.mem_cons_of_mem _ hx)
    have h2 := h d List.mem_cons_self
    rw [allPs, List.length_append, List.length_map, allTT_length, List.length_cons, Nat.succ_mul]; omega
theorem _root_.Go.World.news_of_block2 {w : World} {B : Nat} {cs : Array Value} {t : TypeId} {fr : Nat × Nat} (hb : w.heap[B]? = some (.cells cs t fr)) : ∀ j u, cs.toList[j]? = some u → w.cell? ((⟨B, 0, none⟩ : Addr).add j) = some u := fun j u hu => by
  have hadd : (⟨B, 0, none⟩ : Addr).add j = ⟨B, j, none⟩ := by unfold Addr.add; split <;> simp_all
  rw [hadd]
  simp only [World.cell?, hb]
  simpa using hu
def Pl.pth (q : Pl) : Pth := ⟨q.A, q.c, q.li⟩
theorem PAt.stp {K K' : Nat → Prop} {x : Pth} {X Y : World} {B : Nat} (h : PAt K x X) (hs : Stp B X Y) (hK : ∀ k, K k → K' k) : PAt K' x Y := by
  have hr := h.1
  refine ⟨⟨⟨fun j u hu => ?_, fun hne ad e => hK _ (hr.1.2 hne ad e)⟩, hr.2⟩, h.2.1, h.2.2.1, fun hne ad e => ?_⟩
  · obtain ⟨ad, e, hc⟩ := hr.1.1 j u hu
    refine ⟨ad, e, ?_⟩
    obtain ⟨o, ho, hoc⟩ := cell_cells hc
    rw [← hc]
    exact World.cell?_of_block ((hs.cells ho hoc).trans ho.symm)
  · obtain ⟨cs, hc⟩ := h.2.2.2 hne ad e
    exact ⟨cs, hs.cells hc rfl⟩
/-- The row of places so far, and what stands by. -/
structure AI (w : World) (BL : Nat) (K : Nat → Prop) (pls : List Pl) (Ds : List Nat) (X : World) : Prop where
  row : ∃ V vc, Boxed X BL 58 (.slice V pls.length vc) ∧ X.ownsRow BL 56 2 (.slice V pls.length vc) pls.length (plL.all pls) ∧ ∀ k, blkOf V = some k → ¬ K k
  nbl : ¬ K BL
  lt : ∀ k, K k → BL < k ∧ k < X.heap.size
  paths : ∀ q ∈ pls, PAt K q.pth X
  below : Below w.heap.size w X
  nodup : Ds.Nodup
  marks : ∀ D ∈ Ds, BL < D ∧ X.heap[D]? = some (.deferred (some []))
theorem AI.stp {w : World} {BL : Nat} {K : Nat → Prop} {pls : List Pl} {Ds : List Nat} {X Y : World} {B : Nat} (h : AI w BL K pls Ds X) (hs : Stp B X Y) (hB : w.heap.size ≤ B) (hD : ∀ D ∈ Ds, D < B) (hw : w.heap.size ≤ BL) : AI w BL (addK K X Y) pls Ds Y := by
  obtain ⟨⟨V, vc, h1, h2, h3⟩, h4, h5, h6, h7, h8, h9⟩ := h
  refine ⟨⟨V, vc, hs.cells h1 rfl, own_agree h2 fun k hk => ?_, fun k hk hn => ?_⟩, ?_, ?_, ?_, ?_, h8, ?_⟩
  · obtain ⟨cur, hc⟩ := own_cells h2 hk
    rw [hc]; exact hs.cells hc rfl
  · rcases hn with hn | hn
    · exact h3 k hk hn
    · have := (own_blk h2 k hk).2; omega
  · rintro (hn | hn)
    · exact h4 hn
    · have := h1.lt; omega
  · rintro k (hk | hk)
    · have := h5 k hk; have := hs.size; omega
    · have := h1.lt; omega
  · exact fun q hq => (h6 q hq).stp hs fun k hk => .inl hk
  · exact h7.trans ⟨hs.os, hs.tape, hs.output, hs.size, fun k hk => hs.low (by have := h7.size; omega) (by omega)⟩
  · exact fun D hd => ⟨(h9 D hd).1, (hs.low (heap_lt' (h9 D hd).2) (hD D hd)).trans (h9 D hd).2⟩
theorem AI.mark {w : World} {BL : Nat} {K : Nat → Prop} {pls : List Pl} {Ds : List Nat} {X : World} {D : Nat} (h : AI w BL K pls Ds X) (hn : D ∉ Ds) (hb : BL < D) (hD : X.heap[D]? = some (.deferred (some []))) : AI w BL K pls (D :: Ds) X :=
  ⟨h.row, h.nbl, h.lt, h.paths, h.below, List.nodup_cons.2 ⟨hn, h.nodup⟩, fun D' hD' => by
    rcases List.mem_cons.1 hD' with rfl | hD'
    · exact ⟨hb, hD⟩
    · exact h.marks D' hD'⟩
/-- A place more. -/
theorem AI.more {w : World} {BL : Nat} {K : Nat → Prop} {pls : List Pl} {Ds : List Nat} {X w1 : World} {V V' : Option Addr} {vc vc' : Nat} {tmp : Obj} {q : Pl} (h : AI w BL K pls Ds X) (hw : w.heap.size ≤ BL)
    (hb : Boxed X BL 58 (.slice V pls.length vc)) (hr : X.ownsRow BL 56 2 (.slice V pls.length vc) pls.length (plL.all pls)) (ha : ∀ k, blkOf V = some k → ¬ K k) (hq : PAt K q.pth X)
    (hown : w1.ownsRow BL 56 2 (.slice V' (pls.length + 1) vc') (pls.length + 1) (plL.all pls ++ [.int .i64 q.r, .slice q.A q.li.length q.c])) (hg : (X.alloc tmp).grownBy w1 (blkOf V)) (hv : blkOf V' = blkOf V ∨ blkOf V' = some (X.heap.size + 1)) :
    AI w BL K (pls ++ [q]) Ds (w1.setCell ⟨BL, 0, none⟩ (.slice V' (pls.length + 1) vc')) ∧ KeepK K X (w1.setCell ⟨BL, 0, none⟩ (.slice V' (pls.length + 1) vc')) ∧ KeepsOthers X (w1.setCell ⟨BL, 0, none⟩ (.slice V' (pls.length + 1) vc')) ∧ Below BL X (w1.setCell ⟨BL, 0, none⟩ (.slice V' (pls.length + 1) vc')) := by
  obtain ⟨k1, k2, k3, k4, k5⟩ := Boxed.appended hb (by decide) hr (Nat.le_of_lt hb.lt) (Nat.le_refl _) hown (by rw [blk_own]; exact hg)
  have hkeep : ∀ y, y < X.heap.size → y ≠ BL → blkOf V ≠ some y → (w1.setCell ⟨BL, 0, none⟩ (.slice V' (pls.length + 1) vc')).heap[y]? = X.heap[y]? := fun y hy hne hv =>
    (Below.heap_setCell _ _ _ _ hne).trans ((hg.block y (by simp; omega) (fun e => hv e.symm)).trans (Below.heap_alloc _ _ y hy))
  have hK : KeepK K X (w1.setCell ⟨BL, 0, none⟩ (.slice V' (pls.length + 1) vc')) := fun k hk => hkeep k (h.lt k hk).2 (fun e => h.nbl (e ▸ hk)) (fun e => ha k e hk)
  have hl : (pls ++ [q]).length = pls.length + 1 := by simp
  refine ⟨⟨⟨V', vc', by rw [hl]; exact k2, ?_, fun k hk hn => ?_⟩, h.nbl, fun k hk => ⟨(h.lt k hk).1, Nat.lt_of_lt_of_le (h.lt k hk).2 k5.size⟩, fun p hp => ?_, h.below.trans (k5.mono hw), h.nodup, fun D hD => ⟨(h.marks D hD).1, (hkeep D (heap_lt' (h.marks D hD).2) (fun e => ?_) (fun e => ?_)).trans (h.marks D hD).2⟩⟩, hK, k4, k5⟩
  · rw [hl, plL.all_append, plL.all_one]; exact k3
  · rcases hv with e | e
    · exact ha k (e ▸ hk) hn
    · rw [e] at hk; cases hk; have := (h.lt _ hn).2; omega
  · rcases List.mem_append.1 hp with hp | hp
    · exact (h.paths p hp).kept (fun _ hk => hk) fun k hk _ => hK k hk
    · rw [List.mem_singleton.1 hp]; exact hq.kept (fun _ hk => hk) fun k hk _ => hK k hk
  · have h1 := (h.marks D hD).2
    rw [e, show X.heap[BL]? = _ from hb] at h1; cases h1
  · obtain ⟨cur, h2⟩ := own_cells hr e
    rw [(h.marks D hD).2] at h2; cases h2
def AllPost (g : List Df) (w : World) (e : Ending) (w' : World) : Prop := ∃ V c pls, e = .returned (.slice V pls.length c) ∧ pls.map Pl.pl = (if mayG g = 0 then allPs g 0 else []) ∧ RowIn w' (w.heap.size ≤ ·) V (plL.all pls) ∧ (∀ q ∈ pls, PAt (w.heap.size ≤ ·) q.pth w') ∧ Below w.heap.size w w'
def aAct (A : Option Addr) (nd c H BL i : Nat) (Ds : List Nat) (u : Nat → Value) : Act := { tmps := #[.agg #[.slice A nd c], .pointer (some ⟨H, 0, none⟩), .slice none 0 0, .pointer (some ⟨BL, 0, none⟩), u 4, u 5, u 6, u 7, u 8, u 9, u 10, .slice A nd c, .int .i64 (nd : Int), .int .i64 (i : Int), u 14, u 15, u 16, u 17, u 18, u 19, u 20, u 21, u 22, u 23, u 24, u 25, u 26, u 27, u 28, u 29, u 30, u 31, u 32], defers := marksD Ds }
theorem a_slots (A : Option Addr) (nd c H BL i : Nat) (Ds : List Nat) (v4 v5 v6 v7 v8 v9 v10 v14 v15 v16 v17 v18 v19 v20 v21 v22 v23 v24 v25 v26 v27 v28 v29 v30 v31 v32 : Value) : ∃ u, ({ tmps := #[.agg #[.slice A nd c], .pointer (some ⟨H, 0, none⟩), .slice none 0 0, .pointer (some ⟨BL, 0, none⟩), v4, v5, v6, v7, v8, v9, v10, .slice A nd c, .int .i64 (nd : Int), .int .i64 (i : Int), v14, v15, v16, v17, v18, v19, v20, v21, v22, v23, v24, v25, v26, v27, v28, v29, v30, v31, v32], defers := marksD Ds } : Act) = aAct A nd c H BL i Ds u :=
  ⟨fun k => match k with | 4 => v4 | 5 => v5 | 6 => v6 | 7 => v7 | 8 => v8 | 9 => v9 | 10 => v10 | 14 => v14 | 15 => v15 | 16 => v16 | 17 => v17 | 18 => v18 | 19 => v19 | 20 => v20 | 21 => v21 | 22 => v22 | 23 => v23 | 24 => v24 | 25 => v25 | 26 => v26 | 27 => v27 | 28 => v28 | 29 => v29 | 30 => v30 | 31 => v31 | 32 => v32 | _ => undef, rfl⟩
def AJ (w : World) (A : Option Addr) (c BL : Nat) (ds : List Ld) (m : Nat) (a : Act) (wr : World) : Prop :=
  ∃ (i : Nat) (Ds : List Nat) (K : Nat → Prop) (pls : List Pl), (∃ u, a = aAct A ds.length c w.heap.size BL i Ds u) ∧ m = ds.length - i ∧ i ≤ ds.length ∧ pls.map Pl.pl = allPs ((ds.map Ld.df).take i) 0 ∧ AI w BL K pls Ds wr
set_option maxRecDepth 100000 in
set_option maxHeartbeats 3200000 in
theorem all_in (A : Option Addr) (c : Nat) (ds : List Ld) (S : Nat → Prop) (w : World) (hT : dfL.row w S A ds) (hl : ds.length ≤ 50000) (hm : ∀ d ∈ ds, d.t.ls.length ≤ 1000000) (hp : PTabs w) :
    CallsIn Fence.wide 3 Tryz.prog 35 #[.agg #[.slice A ds.length c]] w (AllPost (ds.map Ld.df) w) := by
  have hfn : ∀ k, Fence.wide.fn k := fun _ => trivial
  obtain ⟨i0, hi0, iz0, iz1, iz2⟩ := info_parts infoPlace
  have HT := Lib.hid hT; have HM := Lib.hid hm
  have HMC := Lib.hid (show ∀ w', Below w.heap.size w w' → Calls Tryz.prog 14 #[.agg #[.slice A ds.length c]] w' fun e w'' => e = .returned (.int .i64 (mayG (ds.map Ld.df))) ∧ Below w'.heap.size w' w'' from fun w' hb => gmay_any A c ds S w' (hT.below hb) hl hm (hp.below hb))
  clear hT hm hp
  refine callsIn_of_wp_marks Tryz.func35 rfl trivial ?_ rfl
  simp only [Tryz.ntmps35, List.size_toArray, List.length_cons, List.length_nil, Nat.reduceAdd, Nat.reduceSub, Array.replicate_succ, Array.replicate_zero, List.push_toArray, List.append_toArray, List.nil_append, List.cons_append]
  refine wpIn_wide.2 ?_
  have HB0 := Lib.hid (bx1 w (.cells #[.slice A ds.length c] 24))
  have HK0 := Lib.hid (bx_new w (.cells #[.slice A ds.length c] 24))
  unfold AllPost
  have HMY := Lib.hid (show mayG (ds.map Ld.df) = 0 → OkG (ds.map Ld.df) from mayG_ok)
  generalize hmg : mayG (ds.map Ld.df) = mg at *
  clear hmg
  by_cases hm0 : mg = 0
  · have e0 : (mg != 0) = false := by simp [hm0]
    have HOK := Lib.hid (HMY.out hm0)
    rw [if_pos hm0]
    clear hm0 HMY
    go_wp2_with (go_at_call 14; refine (HMC.out _ HB0.out).mono ?_; rintro e w1 ⟨rfl, hb⟩; have HB1 := Lib.hid (Below.step HB0.out hb); have HK1 := Lib.hid (bx_kept hb HK0.out); clear hb; obtain ⟨p0, _⟩ := blk1 HK1.out; have hlt1 : w.heap.size < w1.heap.size := heap_lt' HK1.out)
    have HBL := Lib.hid hlt1
    have HI0 := Lib.hid (show AI w w1.heap.size (fun _ => False) [] [] (w1.alloc (.cells #[.slice none 0 0] 58)) from ⟨⟨none, 0, Boxed.new w1 _ _, World.ownsRow_nil _ _ _ _, by simp [blkOf]⟩, id, fun _ h => h.elim, by simp, Below.step HB1.out (bx1 w1 _), List.nodup_nil, by simp⟩)
    generalize hBL : w1.heap.size = BL at *
    clear hBL p0
    refine loop_ghost (AJ w A c BL ds) ds.length ?start ?round
    case start => exact ⟨0, [], _, [], a_slots A ds.length c w.heap.size BL 0 [] _ _ _ _ _ _ _ _ _ _ _ _ _ _ _ _ _ _ _ _ _ _ _ _ _ _, rfl, by omega, by simp [allPs], HI0.out⟩
    case round =>
      clear HI0 HK1 HB1
      rintro m a wr ⟨i, Ds, K, pls, ⟨u, rfl⟩, rfl, hi, heq, hai⟩
      have HAI := Lib.hid hai; have HEQ := Lib.hid heq
      clear hai heq
      unfold aAct
      by_cases hlt : i < ds.length
      · have j1 : (i : Int) < (ds.length : Int) := by omega
        have j2 : (0 : Int) ≤ (i : Int) := by omega
        obtain ⟨b, o, rfl, _, hbl, x0, x1, x2⟩ := dfRow (HT.out.agree (below_all HAI.out.below)) i hlt
        have HIN := Lib.hid (show ds[i].t.inn w (· < w.heap.size) from (dfSub HT.out i hlt).mono (fun k hk _ => hk))
        have HMI := Lib.hid (HM.out ds[i] (List.getElem_mem hlt))
        have HOI := Lib.hid (show (ds.map Ld.df)[i]'(by simpa using hlt) = ds[i].df from by simp)
        generalize hdi : ds[i] = d at *
        clear hdi
        obtain ⟨nm, ⟨tA, tc, ls, root⟩⟩ := d
        simp only at x0 x1 x2 HIN HMI
        have hli := HMI.out
        have hok := HOK.out.ok ((ds.map Ld.df)[i]'(by simpa using hlt)) (List.getElem_mem _)
        rw [HOI.out] at hok
        have HRP := Lib.hid (show rightP ⟨ls.map Ln.nd, root⟩ from (rightT_iff _).1 hok.2)
        clear hok
        have hro := HRP.out.1
        simp only [List.length_map] at hro
        obtain ⟨ro, rfl⟩ := Int.eq_ofNat_of_zero_le hro.1
        have HAZ := Lib.hid (show AheadZ (ls.map Ln.nd) from fun k n hk z hz => rightP_kid HRP.out hk hz)
        have HKB := Lib.hid (show ∀ l ∈ ls, l.nd.kids.length ≤ 4294967296 from fun l hl => by
          obtain ⟨k, hk, rfl⟩ := List.mem_iff_getElem.1 hl
          have := right_kids_len HRP.out (i := k) (n := ls[k].nd) (by simp [hk])
          have := HMI.out
          omega)
        have HSZ := Lib.hid (show szTT (den (ls.map Ln.nd) ro) ≤ ls.length from by have h := sz_den HRP.out; simpa using h)
        have HPL := Lib.hid (show pls.length ≤ 50000 * 1000000 from by
          have h := congrArg List.length HEQ.out
          rw [List.length_map] at h
          rw [h]
          refine Nat.le_trans (allPs_len 1000000 _ 0 fun d hd => ?_) (Nat.mul_le_mul_right _ (by simp; omega))
          obtain ⟨x, hx, rfl⟩ := List.mem_map.1 (List.mem_of_mem_take hd)
          have h1 := (rightT_iff _).1 (HOK.out.ok x.df (List.mem_map.2 ⟨x, hx, rfl⟩)).2
          refine Nat.le_trans (sz_den h1) ?_
          have := HM.out x hx
          simpa [Ld.df, Lt.tr] using this)
        have HTK := Lib.hid (show allPs ((ds.map Ld.df).take (i + 1)) 0 = allPs ((ds.map Ld.df).take i) 0 ++ (allTT (den (ls.map Ln.nd) ro) []).map (fun p => ((i : Int), p)) from by
          rw [allPs_take _ i (by simpa using hlt), HOI.out]; rfl)
        go_upto_region 7 with (fail)
        clear x0 x1 x2 HOI
        have hb3 : Below wr.heap.size wr ((wr.alloc (.cells #[.int .i64 (i : Int)] 3)).alloc (.cells #[.string nm, .slice tA ls.length tc, .int .i64 (ro : Int)] 50)) := bx2 wr _ _
        have hi3 : ((wr.alloc (.cells #[.int .i64 (i : Int)] 3)).alloc (.cells #[.string nm, .slice tA ls.length tc, .int .i64 (ro : Int)] 50)).heap[wr.heap.size]? = some (.cells #[.int .i64 (i : Int)] 3 (0, 0)) := bx_old (bx_new wr _)
        have hd3 : ((wr.alloc (.cells #[.int .i64 (i : Int)] 3)).alloc (.cells #[.string nm, .slice tA ls.length tc, .int .i64 (ro : Int)] 50)).heap[wr.heap.size + 1]? = some (.cells #[.string nm, .slice tA ls.length tc, .int .i64 (ro : Int)] 50 (0, 0)) := by
          have h := bx_new (wr.alloc (.cells #[.int .i64 (i : Int)] 3)) (.cells #[.string nm, .slice tA ls.length tc, .int .i64 (ro : Int)] 50)
          rwa [World.size_alloc] at h
        have hz3 : ((wr.alloc (.cells #[.int .i64 (i : Int)] 3)).alloc (.cells #[.string nm, .slice tA ls.length tc, .int .i64 (ro : Int)] 50)).heap.size = wr.heap.size + 2 := by simp
        generalize ((wr.alloc (.cells #[.int .i64 (i : Int)] 3)).alloc (.cells #[.string nm, .slice tA ls.length tc, .int .i64 (ro : Int)] 50)) = W3 at *
        obtain ⟨d0, d1, d2⟩ := blk3' hd3
        have HZ3 := Lib.hid hz3; clear hz3
        go_wp2_with (go_at_call 85; refine (within_any ⟨tA, tc, ls, (ro : Int)⟩ (ro : Int) ⟨none, 0, []⟩ W3).mono ?_; rintro e w4 ⟨rfl, rfl⟩)
        clear d0 d1 d2
        have HB4 := Lib.hid (bx3 W3 (.cells #[.slice tA ls.length tc, .int .i64 (ro : Int)] 48) (.cells #[.int .i64 (ro : Int)] 3) (.cells #[Pth.val ⟨none, 0, []⟩] 54))
        have HX1 := Lib.hid (bx_old (p := .cells #[Pth.val ⟨none, 0, []⟩] 54) (bx_old (p := .cells #[.int .i64 (ro : Int)] 3) (bx_new W3 (.cells #[.slice tA ls.length tc, .int .i64 (ro : Int)] 48))))
        have HX2 := Lib.hid (show (((W3.alloc (.cells #[.slice tA ls.length tc, .int .i64 (ro : Int)] 48)).alloc (.cells #[.int .i64 (ro : Int)] 3)).alloc (.cells #[Pth.val ⟨none, 0, []⟩] 54)).heap[W3.heap.size + 1]? = some (.cells #[.int .i64 (ro : Int)] 3 (0, 0)) from bx_old (by
          have h := bx_new (W3.alloc (.cells #[.slice tA ls.length tc, .int .i64 (ro : Int)] 48)) (.cells #[.int .i64 (ro : Int)] 3)
          rwa [World.size_alloc] at h))
        have HX3 := Lib.hid (show (((W3.alloc (.cells #[.slice tA ls.length tc, .int .i64 (ro : Int)] 48)).alloc (.cells #[.int .i64 (ro : Int)] 3)).alloc (.cells #[Pth.val ⟨none, 0, []⟩] 54)).heap[W3.heap.size + 2]? = some (.cells #[Pth.val ⟨none, 0, []⟩] 54 (0, 0)) from by
          have h := bx_new ((W3.alloc (.cells #[.slice tA ls.length tc, .int .i64 (ro : Int)] 48)).alloc (.cells #[.int .i64 (ro : Int)] 3)) (.cells #[Pth.val ⟨none, 0, []⟩] 54)
          rwa [World.size_alloc, World.size_alloc] at h)
        have hz4 : (((W3.alloc (.cells #[.slice tA ls.length tc, .int .i64 (ro : Int)] 48)).alloc (.cells #[.int .i64 (ro : Int)] 3)).alloc (.cells #[Pth.val ⟨none, 0, []⟩] 54)).heap.size = W3.heap.size + 3 := by simp
        generalize (((W3.alloc (.cells #[.slice tA ls.length tc, .int .i64 (ro : Int)] 48)).alloc (.cells #[.int .i64 (ro : Int)] 3)).alloc (.cells #[Pth.val ⟨none, 0, []⟩] 54)) = W4 at *
        have HBW := Lib.hid (show Below wr.heap.size wr W4 from Below.step hb3 HB4.out)
        have HIB := Lib.hid (bx_kept HB4.out hi3)
        have hww : w.heap.size ≤ wr.heap.size := HAI.out.below.size
        have HT4 := Lib.hid (HIN.out.below (HAI.out.below.trans (HBW.out.mono hww)))
        have HZ4 := Lib.hid hz4; clear hz4
        have hbl := HBL.out
        clear hb3 hi3 hd3
        refine (wpIn_wide (n := 3)).1 ?_
        refine wpIn_rangeFunc_K (α := Pth) rfl (by omega) (N := szTT (den (ls.map Ln.nd) ro)) (gf := 122) (lb := #[.pointer (some ⟨W3.heap.size + 2, 0, none⟩), .pointer (some ⟨W3.heap.size, 0, none⟩), .pointer (some ⟨W3.heap.size + 1, 0, none⟩)]) rfl trivial (enters_of Tryz.func122 (by kernel_rfl) rfl)
          (encs := fun x : Pth => #[x.val]) (At := PAt) (n₀ := w.heap.size) (Kn := fun k => W3.heap.size ≤ k ∧ k < W4.heap.size) (S := fun xs => xs.map Pth.p = allTT (den (ls.map Ln.nd) ro) []) ?seq (by have := HZ3.out; have := HZ4.out; omega) (fun _ => rfl) (fun K x X l o o' h1 h2 h3 => h1.put o' h2 h3)
          (fun Kq s X => AI w BL Kq (pls ++ s.map (fun x : Pth => (⟨(i : Int), x.V, x.c, x.p⟩ : Pl))) Ds X ∧ X.heap[wr.heap.size]? = some (.cells #[.int .i64 (i : Int)] 3 (0, 0)) ∧ Kq wr.heap.size)
          (fun _ _ _ _ => False) ?hI (fun _ _ _ _ _ h _ => h.elim) (addK K wr W4) ?hK0 ?h0 ?aone ?assign ?body ?done ?stop
        case assign =>
          intro l x W K hK
          gi_wp2
          exact hK
        case seq =>
          intro l' J' Jx' K0' Wq hbw hKn hJ' hJx' hY' h0'
          refine (callsIn_wide (n := 3 - 1)).2 ((callsIn_wide (n := 3)).1 ?_)
          exact within1_in w.heap.size tA tc ls (ro : Int) HAZ.out (by omega) HKB.out ro (by omega) l' _ _ _ ⟨none, 0, []⟩ J' Jx' K0' Wq (by simp; omega) (HT4.out.below hbw).2 (by have := hbw.size; have := HZ3.out; have := HZ4.out; omega) (bx_kept hbw HX3.out) (bx_kept hbw HX1.out) (bx_kept hbw HX2.out)
            ⟨Lay.row.nil _ _ _, by simp, fun _ => rfl, fun h => absurd rfl h⟩ (hKn _ ⟨by omega, by have := HZ4.out; omega⟩) (hKn _ ⟨by omega, by have := HZ4.out; omega⟩) (hKn _ ⟨by omega, by have := HZ4.out; omega⟩) hJ' hJx' (fun K pre x W1 a b d => YieldAt.anyDepth rfl 2 (hY' K pre x W1 a b d)) h0'
        case hI =>
          rintro Kq s X Y ⟨h1, h2, h3⟩ hs
          exact ⟨h1.stp hs (by have := HZ3.out; have := HZ4.out; omega) (fun D hD => by have := heap_lt' (HAI.out.marks D hD).2; have := HZ3.out; have := HZ4.out; omega) (by omega), hs.cells h2 rfl, .inl h3⟩
        case hK0 => exact fun k hk => .inr ⟨by have := hk.1; have := HZ3.out; omega, hk.2⟩
        case h0 => exact ⟨by rw [List.map_nil, List.append_nil]; exact HAI.out.stp (Stp.of_below (B := wr.heap.size) HBW.out) (by omega) (fun D hD => heap_lt' (HAI.out.marks D hD).2) (by omega), HIB.out, .inr ⟨Nat.le_refl _, by have := HZ3.out; have := HZ4.out; omega⟩⟩
        case body =>
          rintro lq Kq s x Wb hlq ⟨hai, hbi, hkq⟩ hat hsl
          obtain ⟨V, vc, h1, h2, h3⟩ := hai.row
          have hsz := HSZ.out
          have HR2 := Lib.hid h2; have HV1 := Lib.hid h1; have HV3 := Lib.hid h3; have HAB := Lib.hid hai; have HAT := Lib.hid hat
          have q0 := h1.cell; have q1 := h1.frozen
          obtain ⟨b0, _⟩ := blk1 hbi
          have HBI := Lib.hid hbi
          have hpl : (pls ++ s.map (fun x : Pth => (⟨(i : Int), x.V, x.c, x.p⟩ : Pl))).length ≤ 50000 * 1000000 + 1000000 := by have := HPL.out; simp; omega
          have HSN := Lib.hid (show pls ++ (s ++ [x]).map (fun x : Pth => (⟨(i : Int), x.V, x.c, x.p⟩ : Pl)) = (pls ++ s.map (fun x : Pth => (⟨(i : Int), x.V, x.c, x.p⟩ : Pl))) ++ [⟨(i : Int), x.V, x.c, x.p⟩] from by simp)
          generalize (pls ++ s.map (fun x : Pth => (⟨(i : Int), x.V, x.c, x.p⟩ : Pl))) = ps at *
          have HF := Lib.hid (show ps.length + 1 ≤ maxLen ∧ (ps.length + 1) * 32 ≤ 140737488355328 ∧ BL ≤ (Wb.alloc (.cells #[.int .i64 (i : Int), x.val] 56)).heap.size from ⟨by unfold maxLen; omega, by omega, by have := h1.lt; simp; omega⟩)
          have hwB : wr.heap.size < Wb.heap.size := heap_lt' hbi
          have hbB : BL < Wb.heap.size := h1.lt
          clear hai hbi hat h1 h2 h3
          gi_wp2_with (first | (gi_at_builtin; refine wpListIn_append_own_at _ rfl (.tmp 25) (.tmp 29) 58 rfl BL 56 i0 (.agg #[.int .i64 0, .slice none 0 0]) 2 32 Tryz.underlying58 hi0 iz0 iz1 iz2 rfl (by decide) (.slice V ps.length vc) ps.length (plL.all ps) rfl (World.ownsRow.alloc HR2.out _) ⟨Wb.heap.size, 0, none⟩ 1 1 [.int .i64 (i : Int), x.val] rfl rfl (World.news_of_block2 (bx_new Wb _)) (by simp [Value.oneCell']) HF.out.1 HF.out.2.1 HF.out.2.2 ?_; intro v' w1 hown' hgrow' hnil' hat'; obtain ⟨g', cap', rfl⟩ := ownsRow_succ hown'; have k1 := (Boxed.appended HV1.out (by decide) HR2.out (Nat.le_of_lt hbB) (Nat.le_refl _) hown' hgrow').1; have q2 := k1.cell; have q3 := k1.frozen; simp only [blk_own] at hgrow' hat'; have HMO := Lib.hid (AI.more (q := ⟨(i : Int), x.V, x.c, x.p⟩) HAB.out (by omega) HV1.out HR2.out HV3.out HAT.out hown' hgrow' (by simpa using hat')); clear k1 hown' hgrow' hnil' hat'))
          obtain ⟨m1, m2, m3, m4⟩ := HMO.out
          exact ⟨m3.from _, m2, m4.mono (by omega), by rw [HSN.out]; exact m1, (m2 _ hkq).trans HBI.out, hkq⟩
        case done =>
          rintro D Kq xs X hD hS ⟨h1, h2, _⟩ hK
          gi_wp2
          have e1 : IntKind.i64.wrap ((i : Int) + 1) = (i : Int) + 1 := IntWalk.i64_in _ (by omega)
          go_wp2_with fail
          change ∃ m', m' < ds.length - i ∧ AJ w (some ⟨b, o, none⟩) c BL ds m' _ X
          refine ⟨ds.length - (i + 1), by omega, i + 1, D :: Ds, Kq, _, ?_, rfl, by omega, ?_, h1.mark (fun hm => by have := heap_lt' (HAI.out.marks D hm).2; have := HZ3.out; have := HZ4.out; omega) (by obtain ⟨V, vc, g1, _⟩ := HAI.out.row; have := Boxed.lt g1; have := HZ3.out; have := HZ4.out; omega) hK⟩
          · rw [show ((i : Int) + 1) = ((i + 1 : Nat) : Int) from by omega]
            exact a_slots (some ⟨b, o, none⟩) ds.length c w.heap.size BL (i + 1) (D :: Ds) _ _ _ _ _ _ _ _ _ _ _ _ _ _ _ _ _ _ _ _ _ _ _ _ _ _
          · rw [List.map_append, HEQ.out, HTK.out, ← hS, List.map_map, List.map_map]; rfl
        case stop => exact fun _ _ _ _ _ _ h _ => h.elim
      · have j1 : ¬ (i : Int) < (ds.length : Int) := by omega
        obtain ⟨V, vc, h1, h2, h3⟩ := HAI.out.row
        have q0 := h1.cell
        have HRO := Lib.hid h2
        clear h1 h2 h3
        go_wp2_with fail
        refine ret_marks Ds rfl HAI.out.nodup (fun D hD => (HAI.out.marks D hD).2) fun w' hw' => ?_
        have hs := offD_stp (B := BL + 1) hw' (fun D hD => ⟨(HAI.out.marks D hD).1, (HAI.out.marks D hD).2⟩)
        refine ⟨.slice V pls.length vc, by simp [results, Tryz.results35, go_sem], V, vc, pls, rfl, ?_, ?_, fun q hq => ?_, ?_⟩
        · rw [HEQ.out, List.take_of_length_le (by simp; omega)]
        · have ho := own_agree HRO.out (w' := w') fun k hk => by
            obtain ⟨cur, hc⟩ := own_cells HRO.out hk
            rw [hc]; exact hs.cells hc rfl
          exact own_rowIn ho (fun ad e => by have := (own_block ho ad e).1; have := HBL.out; omega)
        · exact (HAI.out.paths q hq).stp hs (fun k hk => by have := (HAI.out.lt k hk).1; have := HBL.out; omega)
        · exact HAI.out.below.trans ⟨hs.os, hs.tape, hs.output, hs.size, fun k hk => hs.low (by have := HAI.out.below.size; omega) (by have := HBL.out; omega)⟩
  · have e0 : (mg != 0) = true := by simpa using hm0
    rw [if_neg hm0]
    clear hm0 HMY
    go_wp2_with (go_at_call 14; refine (HMC.out _ HB0.out).mono ?_; rintro e w1 ⟨rfl, hb⟩; have HB1 := Lib.hid (Below.step HB0.out hb); clear hb)
    refine ret_marks [] rfl List.nodup_nil (by simp) fun w' hw' => ?_
    obtain rfl := hw'.nil
    exact ⟨.slice none 0 0, by simp [results, Tryz.results35, go_sem], none, 0, [], rfl, rfl, RowIn.nil _ _ _, by simp, HB1.out⟩
theorem pall_any (A : Option Addr) (c : Nat) (ds : List Ld) (S : Nat → Prop) (w : World) (hT : dfL.row w S A ds) (hl : ds.length ≤ 50000) (hm : ∀ d ∈ ds, d.t.ls.length ≤ 1000000) (hp : PTabs w) :
    Calls Tryz.prog 35 #[.agg #[.slice A ds.length c]] w (AllPost (ds.map Ld.df) w) :=
  (callsIn_wide (n := 3)).1 (all_in A c ds S w hT hl hm hp)

end Go.Proofs.YtmjkgnknfgoadaaGreatDoor
