/- The contracts of tree.leaf and tree.Text; the law's rules. -/
import Derived.Test.YtbfjanfhgpgmdaaDoorDs
import Derived.Deep.Cut
namespace Go.Proofs.YtbfjanfhgpgmdaaDoor
open Go.RowKit
set_option linter.unusedSimpArgs false
set_option linter.unusedVariables false

/-- A row of one that was just made. -/
theorem own_new {w : World} {b size : Nat} {cs : List Value} {e : TypeId} (h : w.heap[b]? = some (.cells cs.toArray e (0, 0))) (hl : cs.length = size) : w.ownsRow b e size (.slice (some ⟨b, 0, none⟩) 1 1) 1 cs := by
  refine ⟨by omega, .inr ⟨b, 1, cs.toArray, rfl, Nat.le_refl _, h, Nat.le_refl _, by unfold maxLen; omega, by simp [hl], ?_⟩⟩
  rw [Nat.one_mul, ← hl]; simp
theorem tree_one {w : World} {b : Nat} {n : Nd} (hn : n.wf) (hk : n.kids = []) (h : w.heap[b]? = some (.cells #[.int .u8 n.kind, .int .u64 n.s0, .int .u64 n.s1, .int .u64 n.s2, .int .u64 n.s3, .string n.text, .int .i64 n.mn, .int .i64 n.mx, .slice none 0 0] 78 (0, 0))) (r : Int) : TreeOwn w (b ≤ ·) ⟨some ⟨b, 0, none⟩, 1, [⟨n, none, 0⟩], r⟩ := by
  refine ⟨by simp, own_ownS (B := b) (by
    have := own_new (cs := [.int .u8 n.kind, .int .u64 n.s0, .int .u64 n.s1, .int .u64 n.s2, .int .u64 n.s3, .string n.text, .int .i64 n.mn, .int .i64 n.mx, .slice none 0 0]) (size := 9) h rfl
    have e : ndL.all [⟨n, none, 0⟩] = [.int .u8 n.kind, .int .u64 n.s0, .int .u64 n.s1, .int .u64 n.s2, .int .u64 n.s3, .string n.text, .int .i64 n.mn, .int .i64 n.mx, .slice none 0 0] := by
      rw [ndL.all_one]; show [_, _, _, _, _, _, _, _, Value.slice none n.kids.length 0] = _; rw [hk]; rfl
    rw [e]; exact this), fun l hl => ?_⟩
  simp only [List.mem_singleton] at hl
  subst hl
  refine ⟨hn, ?_⟩
  show OwnS w _ _ 1 none n.kids.length 0 (intL.all n.kids)
  rw [hk]
  exact OwnS.nil _ _ _ _
set_option maxRecDepth 100000 in
set_option maxHeartbeats 1600000 in
theorem leaf_any (n : Nd) (w : World) (hn : n.wf) (hk : n.kids = []) :
    Calls Tryd.prog 74 #[.agg #[.int .u8 n.kind, .int .u64 n.s0, .int .u64 n.s1, .int .u64 n.s2, .int .u64 n.s3, .string n.text, .int .i64 n.mn, .int .i64 n.mx, .slice none 0 0]] w fun e w' => ∃ b, e = .returned (.agg #[.slice (some ⟨b, 0, none⟩) 1 1, .int .i64 0]) ∧ TreeOwn w' (w.heap.size ≤ ·) ⟨some ⟨b, 0, none⟩, 1, [⟨n, none, 0⟩], 0⟩ ∧ Below w.heap.size w w' := by
  go_enter Tryd.func74, Tryd.ntmps74
  go_upto_region 1 with (fail)
  have HW := Lib.hid (bx2 w (.cells #[.int .u8 n.kind, .int .u64 n.s0, .int .u64 n.s1, .int .u64 n.s2, .int .u64 n.s3, .string n.text, .int .i64 n.mn, .int .i64 n.mx, .slice none 0 0] 78) (.cells #[.slice none 0 0, .int .i64 0] 34))
  have HX := Lib.hid (bx_old (p := .cells #[.slice none 0 0, .int .i64 0] 34) (bx_new w (.cells #[.int .u8 n.kind, .int .u64 n.s0, .int .u64 n.s1, .int .u64 n.s2, .int .u64 n.s3, .string n.text, .int .i64 n.mn, .int .i64 n.mx, .slice none 0 0] 78)))
  have HT := Lib.hid (bx_new (w.alloc (.cells #[.int .u8 n.kind, .int .u64 n.s0, .int .u64 n.s1, .int .u64 n.s2, .int .u64 n.s3, .string n.text, .int .i64 n.mn, .int .i64 n.mx, .slice none 0 0] 78)) (.cells #[.slice none 0 0, .int .i64 0] 34))
  have HZ := Lib.hid (show ((w.alloc (.cells #[.int .u8 n.kind, .int .u64 n.s0, .int .u64 n.s1, .int .u64 n.s2, .int .u64 n.s3, .string n.text, .int .i64 n.mn, .int .i64 n.mx, .slice none 0 0] 78)).alloc (.cells #[.slice none 0 0, .int .i64 0] 34)).heap.size = w.heap.size + 2 from by simp)
  generalize ((w.alloc (.cells #[.int .u8 n.kind, .int .u64 n.s0, .int .u64 n.s1, .int .u64 n.s2, .int .u64 n.s3, .string n.text, .int .i64 n.mn, .int .i64 n.mx, .slice none 0 0] 78)).alloc (.cells #[.slice none 0 0, .int .i64 0] 34)) = W at *
  simp only [World.size_alloc] at HT
  refine wp_region_list ?_
  refine wpList_val rfl (exec_load rfl rfl (load9 W w.heap.size _ _ _ _ _ _ _ _ _ _ HX.out)) ?_
  refine wpList_val rfl (exec_build rfl rfl (build9 W _ _ _ _ _ _ _ _ _)) ?_
  simp only [Act.put, List.setIfInBounds_toArray, List.set_cons_zero, List.set_cons_succ]
  have HN := Lib.hid (bx_new W (.cells #[.int .u8 n.kind, .int .u64 n.s0, .int .u64 n.s1, .int .u64 n.s2, .int .u64 n.s3, .string n.text, .int .i64 n.mn, .int .i64 n.mx, .slice none 0 0] 78))
  have HW2 := Lib.hid (bx1 W (.cells #[.int .u8 n.kind, .int .u64 n.s0, .int .u64 n.s1, .int .u64 n.s2, .int .u64 n.s3, .string n.text, .int .i64 n.mn, .int .i64 n.mx, .slice none 0 0] 78))
  generalize W.alloc (.cells #[.int .u8 n.kind, .int .u64 n.s0, .int .u64 n.s1, .int .u64 n.s2, .int .u64 n.s3, .string n.text, .int .i64 n.mn, .int .i64 n.mx, .slice none 0 0] 78) = W2 at *
  have HT2 := Lib.hid (bx_kept HW2.out HT.out)
  obtain ⟨t1, t2, t3, t4⟩ := blk2 HT2.out
  go_wp2_with fail
  refine bodyPost_ret (v := .agg #[.slice (some ⟨W.heap.size, 0, none⟩) 1 1, .int .i64 0]) (by simp [results, Tryd.results74, go_sem, t1, t2]) rfl ?_
  have hz := HZ.out
  refine ⟨W.heap.size, rfl, ((tree_one hn hk HN.out 0).agree (fun x hx _ => ?_)).mono (fun x _ hx => by have hx : W.heap.size ≤ x := hx; show w.heap.size ≤ x; omega), ((Below.step HW.out HW2.out).setCell (p := ⟨w.heap.size + 1, 0, none⟩) (by simp) _).setCell (p := ⟨w.heap.size + 1, 1, none⟩) (by simp) _⟩
  have hx : W.heap.size ≤ x := hx
  exact (Below.heap_setCell _ _ _ _ (by show x ≠ w.heap.size + 1; omega)).trans (Below.heap_setCell _ _ _ _ (by show x ≠ w.heap.size + 1; omega))

/-- The node of a text. -/
def textN (s : ByteArray) : Nd := ⟨2, 0, 0, 0, 0, s, 0, 0, []⟩
def textT (s : ByteArray) : Tr := ⟨[textN s], 0⟩
set_option maxRecDepth 100000 in
set_option maxHeartbeats 1600000 in
theorem text_any (s : ByteArray) (w : World) (hs : s.size ≤ 281474976710656) :
    Calls Tryd.prog 66 #[.string s] w fun e w' => ∃ b, e = .returned (.agg #[.slice (some ⟨b, 0, none⟩) 1 1, .int .i64 0]) ∧ TreeOwn w' (w.heap.size ≤ ·) ⟨some ⟨b, 0, none⟩, 1, [⟨textN s, none, 0⟩], 0⟩ ∧ Below w.heap.size w w' := by
  have HWF := Lib.hid (show (textN s).wf from ⟨by simp [textN], hs, by simp [textN], by simp [textN, U64], by simp [textN, U64], by simp [textN, U64], by simp [textN, U64]⟩)
  go_enter Tryd.func66, Tryd.ntmps66
  go_wp2_with (go_at_call 74; refine (leaf_any (textN s) _ HWF.out rfl).mono ?_; rintro e w1 ⟨b, rfl, ht, hb⟩; have HT := Lib.hid ht; have HB := Lib.hid hb; obtain ⟨t1, t2, t3, t4⟩ := blk2 (bx_kept hb (bx_new w _)); clear ht hb)
  refine bodyPost_ret (v := .agg #[.slice (some ⟨b, 0, none⟩) 1 1, .int .i64 0]) (by simp [results, Tryd.results66, go_sem, t1, t2]) rfl ?_
  refine ⟨b, rfl, (HT.out.agree (fun x hx _ => ?_)).mono (fun x _ hx => ?_), ((Below.step (bx1 w _) HB.out).setCell (p := ⟨w.heap.size, 0, none⟩) (Nat.le_refl _) _).setCell (p := ⟨w.heap.size, 1, none⟩) (Nat.le_refl _) _⟩
  · have hx : (w.alloc _).heap.size ≤ x := hx
    rw [World.size_alloc] at hx
    exact (Below.heap_setCell _ _ _ _ (by show x ≠ w.heap.size; omega)).trans (Below.heap_setCell _ _ _ _ (by show x ≠ w.heap.size; omega))
  · have hx : (w.alloc _).heap.size ≤ x := hx
    rw [World.size_alloc] at hx
    show w.heap.size ≤ x; omega

theorem extract_one {s : ByteArray} {k : Nat} (h : k < s.size) : s.extract k (k + 1) = ⟨#[s.data.toList[k]'(by simpa using h)]⟩ := by
  apply str_ext
  rw [Lib.extract_data]
  show _ = [_]
  rw [show k + 1 - k = 1 by omega, List.drop_eq_getElem_cons (by simpa using h)]
  rfl
theorem own_cap_le {w : World} {base : Nat} {e : TypeId} {size n c : Nat} {V : Option Addr} {xs : List Value} (h : w.ownsRow base e size (.slice V n c) n xs) : c ≤ 9223372036854775807 := by
  rcases h.2 with ⟨hv, h0⟩ | ⟨g, cap, cur, hv, _, _, _, hc, _⟩
  · cases hv; omega
  · cases hv; unfold maxLen at hc; omega
/-- A rule of one byte's name. -/
def ruleD (b : UInt8) : Df := ⟨⟨#[b]⟩, textT ⟨#[b]⟩⟩
def RulesRel (w : World) (H : Nat) (names : ByteArray) (i : Value) (wr : World) : Prop :=
  ∃ (k : Nat) (V : Option Addr) (vc : Nat) (ds : List Ld), k ≤ names.size ∧ i = .int .i64 k ∧ Hid (ds.length = k) ∧ Hid (ds.map Ld.df = (names.data.toList.take k).map ruleD) ∧ Hid (wr.heap[H + 1]? = some (.cells #[.slice V k vc] 24 (0, 0))) ∧ Hid (wr.heap[H]? = some (.cells #[.slice none 0 0] 24 (0, 0))) ∧
    Hid (wr.ownsRow (H + 2) 36 3 (.slice V k vc) k (dfL.all ds)) ∧ Hid (∀ d ∈ ds, DMod d ∧ dfL.inn wr (fun x => H + 2 ≤ x ∧ blkOf V ≠ some x) d) ∧ Hid (Below H w wr) ∧ Hid (H + 2 ≤ wr.heap.size)
def RulesPost (g : List Df) (w : World) (e : Ending) (w' : World) : Prop := ∃ (V : Option Addr) (vc : Nat) (ds : List Ld), e = .returned (.agg #[.slice V ds.length vc]) ∧ ds.map Ld.df = g ∧ dfL.row w' (fun _ => True) V ds ∧ (∀ d ∈ ds, DMod d) ∧ ds.length ≤ vc ∧ vc ≤ 9223372036854775807 ∧ Below w.heap.size w w'
set_option maxRecDepth 100000 in
set_option maxHeartbeats 3200000 in
theorem rules_any (names : ByteArray) (w : World) (hs : names.size ≤ 1000) :
    Calls Tryd.prog 40 #[.string names] w (RulesPost (names.data.toList.map ruleD) w) := by
  obtain ⟨j0, hj, hy0, hy1, hy2⟩ := info_parts infoDef
  have hzc : (Value.agg #[.string ByteArray.empty, .slice none 0 0, .int .i64 0]).cells.size = 3 := rfl
  unfold RulesPost
  go_enter Tryd.func40, Tryd.ntmps40
  go_wp2_with fail
  go_loopw [4] (fun i wr => RulesRel w w.heap.size names i wr) (fun i _ => names.size - (intOf i).toNat)
  case atStart =>
    exact ⟨0, none, 0, [], Nat.zero_le _, rfl, Lib.hid rfl, Lib.hid rfl, Lib.hid (by have h := bx_new (w.alloc (.cells #[.slice none 0 0] 24)) (.cells #[.slice none 0 0] 24); simpa using h), Lib.hid (bx_old (bx_new w _)), Lib.hid (World.ownsRow_nil _ _ _ _), Lib.hid (by simp), Lib.hid (bx2 w _ _), Lib.hid (by simp)⟩
  case round =>
    obtain ⟨k, V, vc, ds, hk, rfl, HLN, HDF, HKG, HKH, HOW, HIN, HB, HZ⟩ := hrel
    by_cases hlt : k < names.size
    · have i1 : (k : Int) < (names.size : Int) := by omega
      have i2 : (0 : Int) ≤ (k : Int) := by omega
      obtain ⟨p1, p2⟩ := blk1 HKG.out
      go_upto_region 5 with (fail)
      have HSZ := Lib.hid (show (names.extract k (k + 1)).size ≤ 281474976710656 from by rw [ByteArray.size_extract]; omega)
      have HSB := Lib.hid (show ∀ w', Agree (fun x => x = w.heap.size + 1) wr w' → w'.cell? ⟨w.heap.size + 1, 0, none⟩ = some (.slice V k vc) ∧ w'.frozen? ⟨w.heap.size + 1, 0, none⟩ = false from fun w' ha => blk1 ((ha _ rfl (heap_lt' HKG.out)).trans HKG.out))
      have HF := Lib.hid (show k + 1 ≤ maxLen ∧ (k + 1) * 48 ≤ 140737488355328 from ⟨by unfold maxLen; omega, by omega⟩)
      have HVL := Lib.hid (show ∀ x, blkOf V = some x → w.heap.size + 2 ≤ x ∧ x < wr.heap.size from fun x hx => own_blk HOW.out x hx)
      have HVN := Lib.hid (show blkOf V ≠ some (w.heap.size + 1) from fun e => by have := HVL.out _ e; omega)
      clear p1 p2
      have i3 : (k : Int) ≤ (k : Int) + 1 := by omega
      have i4 : (k : Int) + 1 ≤ (names.size : Int) := by omega
      have i5 : (0 : Int) ≤ (k : Int) + 1 := by omega
      have hn1 : (k : Int).toNat = k := by omega
      have hn2 : ((k : Int) + 1).toNat = k + 1 := by omega
      have hwr : IntKind.i64.wrap ((k : Int) + 1) = (k : Int) + 1 := IntWalk.i64_in _ (by omega)
      obtain ⟨p1, p2⟩ := blk1 HKG.out
      go_region_law (first | (refine step_append_at (by rfl) (.tmp 12) (.tmp 25) 22 (by rfl) (w.heap.size + 2) 36 j0 (.agg #[.string ByteArray.empty, .slice none 0 0, .int .i64 0]) 3 48 Tryd.underlying22 hj hy0 hy1 hy2 hzc (by decide) V vc k (dfL.all ds) (by rfl) (World.ownsRow.alloc HO3.out _) (some ⟨w3.heap.size, 0, none⟩) 1 1 [.string (names.extract k (k + 1)), .slice (some ⟨b, 0, none⟩) 1 1, .int .i64 0] (by rfl) rfl (row_blk (bx_new w3 _)) (fun u hu => by simp only [List.mem_cons, List.not_mem_nil, or_false] at hu; rcases hu with rfl | rfl | rfl <;> rfl) HF.out.1 HF.out.2 (by have h1 := HB3.out.size; have h2 := HZ.out; simp; omega) ?_; intro V' vc' w5 HO5 HG5 HA5; have HK5 := Lib.hid ((HG5.out.block (w.heap.size + 1) (by have h1 := HB3.out.size; have h2 := HZ.out; simp; omega) (fun e => HVN.out e.symm)).trans (bx_old HK3.out)); obtain ⟨t1, t2⟩ := blk1 HK5.out) | (go_simp; go_at_call 66; refine (text_any (names.extract k (k + 1)) _ HSZ.out).mono ?_; rintro e w3 ⟨b, rfl, ht, hb⟩; have HT := Lib.hid (show TreeOwn w3 (wr.heap.size ≤ ·) ⟨some ⟨b, 0, none⟩, 1, [⟨textN (names.extract k (k + 1)), none, 0⟩], 0⟩ from ht); have HB3 := Lib.hid (show Below wr.heap.size wr w3 from (Below.refl _ wr).drew.trans hb); have HO3 := Lib.hid (own_agree HOW.out (fun x hx => HB3.out.block x (own_blk HOW.out x hx).2)); have HK3 := Lib.hid (bx_kept HB3.out HKG.out); clear ht hb; obtain ⟨s1, s2⟩ := blk1 HK3.out; have hlt3 := heap_lt' HK3.out))
      all_goals
        clear s1 s2 p1 p2 hwr
        go_wp2_with fail
        have hz := HZ.out
        have hkeep : ∀ x, x < w3.heap.size → x ≠ w.heap.size + 1 → blkOf V ≠ some x → (w5.setCell ⟨w.heap.size + 1, 0, none⟩ (.slice V' (k + 1) vc')).heap[x]? = w3.heap[x]? := fun x h1 h2 h3 => (Below.heap_setCell _ _ _ _ h2).trans ((HG5.out.block x (by simp; omega) (fun e => h3 e.symm)).trans (Below.heap_alloc _ _ x h1))
        have h3s := HB3.out.size
        have h5s : w3.heap.size + 1 ≤ w5.heap.size := by have h := HG5.out.size; simpa using h
        have hVV : ∀ x, x < w3.heap.size → blkOf V ≠ some x → blkOf V' ≠ some x := fun x h1 h2 e => by
          rcases HA5.out with h | h
          · exact h2 (h ▸ e)
          · rw [h] at e; injection e with e; rw [World.size_alloc] at e; omega
        refine ⟨⟨k + 1, V', vc', ds ++ [⟨names.extract k (k + 1), ⟨some ⟨b, 0, none⟩, 1, [⟨textN (names.extract k (k + 1)), none, 0⟩], 0⟩⟩], by omega, by go_num, Lib.hid (by simp [HLN.out]), Lib.hid ?_, Lib.hid (set_blk1 HK5.out), Lib.hid (((hkeep _ (by omega) (by omega) (fun e => by have := HVL.out _ e; omega)).trans (HB3.out.block _ (by omega))).trans HKH.out), Lib.hid ?_, Lib.hid ?_, Lib.hid ?_, Lib.hid (by simp; omega)⟩, by simp only [intOf]; omega⟩
        · rw [List.map_append, HDF.out, List.take_succ_eq_append_getElem (by simpa using hlt), List.map_append]
          congr 1
          show [Ld.df _] = [ruleD _]
          rw [extract_one hlt]
          rfl
        · have h := HO5.out
          refine own_agree ?_ (fun x hx => Below.heap_setCell _ _ _ _ (by have := (own_blk h x hx).1; show x ≠ w.heap.size + 1; omega))
          rw [dfL.all_append, dfL.all_one]; exact h
        · intro d hd
          rcases List.mem_append.1 hd with hd | hd
          · have h4 := dfL.mono (T := fun x => x < wr.heap.size ∧ w.heap.size + 2 ≤ x ∧ blkOf V ≠ some x) (HIN.out d hd).2 (fun x h1 h2 => ⟨h1, h2⟩)
            exact ⟨(HIN.out d hd).1, dfL.mono (dfL.agree (dfL.agree h4 (below_all HB3.out)) (fun x hx hl => hkeep x hl (by omega) hx.2.2)) (fun x _ h => ⟨h.2.1, hVV x (by omega) h.2.2⟩)⟩
          · simp only [List.mem_singleton] at hd
            subst hd
            refine ⟨⟨by simp, fun l hl => by simp only [List.mem_singleton] at hl; subst hl; simp [textN]⟩, HSZ.out, ?_⟩
            have h4 := (HT.out.mono (T := fun x => wr.heap.size ≤ x ∧ x < w3.heap.size) (fun x h1 h2 => ⟨h2, h1⟩)).inn
            refine (h4.agree (fun x hx hl => hkeep x hl (by omega) (fun e => by have := HVL.out _ e; omega))).mono (fun x _ hx => ⟨by omega, hVV x hx.2 (fun e => by have := HVL.out _ e; omega)⟩)
        · exact (((HB.out.trans (HB3.out.mono (by omega))).trans ((bx1 w3 _).mono (by omega))).grown HG5.out (by simp; omega) (fun x hx => by have := HVL.out x hx; omega)).setCell (p := ⟨w.heap.size + 1, 0, none⟩) (by show w.heap.size ≤ w.heap.size + 1; omega) _
    · obtain rfl : k = names.size := by omega
      obtain ⟨p1, p2⟩ := blk1 HKG.out
      obtain ⟨s1, s2⟩ := blk1 HKH.out
      have hsz : names.size ≤ 1000 := hs
      go_wp2_with fail
      refine bodyPost_ret (v := .agg #[.slice V names.size vc]) (by simp [results, Tryd.results40, go_sem, s1]) rfl ?_
      have hag : ∀ S : Nat → Prop, (∀ x, S x → w.heap.size + 2 ≤ x) → Agree S wr (wr.setCell ⟨w.heap.size, 0, none⟩ (.slice V names.size vc)) := fun S hS x hx _ => Below.heap_setCell _ _ _ _ (by have := hS x hx; show x ≠ w.heap.size; omega)
      refine ⟨V, vc, ds, by rw [HLN.out], by rw [HDF.out, List.take_of_length_le (by simp)], ⟨?_, fun d hd => ?_⟩, fun d hd => (HIN.out d hd).1, ?_, ?_, HB.out.setCell (p := ⟨w.heap.size, 0, none⟩) (Nat.le_refl _) _⟩
      · exact (RowIn.agree (own_rowIn (S := fun x => w.heap.size + 2 ≤ x) HOW.out (fun ad e => (own_blk HOW.out ad.block (by rw [e]; rfl)).1)) (hag _ (fun _ h => h))).mono (fun _ _ _ => trivial)
      · exact dfL.mono (dfL.agree (HIN.out d hd).2 (hag _ (fun _ h => h.1))) (fun _ _ _ => trivial)
      · rw [HLN.out]; exact own_cap HOW.out
      · exact own_cap_le HOW.out
end Go.Proofs.YtbfjanfhgpgmdaaDoor
