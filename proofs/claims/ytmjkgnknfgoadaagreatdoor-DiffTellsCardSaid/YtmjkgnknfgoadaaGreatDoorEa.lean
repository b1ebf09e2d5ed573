/- The contracts of tree.leaf and tree.Text; the law's rules. -/
import Derived.Test.YtmjkgnknfgoadaaGreatDoorDw
import Derived.Test.YtmjkgnknfgoadaaGreatDoorDx
import Derived.Test.YtmjkgnknfgoadaaGreatDoorDy
import Derived.Deep.Cut
namespace Go.Proofs.YtmjkgnknfgoadaaGreatDoor
open Go.RowKit
set_option linter.unusedSimpArgs false
set_option linter.unusedVariables false
def ruleD (b : UInt8) : Df := ⟨⟨#[b]⟩, textT ⟨#[b]⟩⟩
def RulesRel (w : World) (H : Nat) (names : ByteArray) (i : Value) (wr : World) : Prop :=
  ∃ (k : Nat) (V : Option Addr) (vc : Nat) (ds : List Ld), k ≤ names.size ∧ i = .int .i64 k ∧ Hid (ds.length = k) ∧ Hid (ds.map Ld.df = (names.data.toList.take k).map ruleD) ∧ Hid (wr.heap[H + 1]? = some (.cells #[.slice V k vc] 24 (0, 0))) ∧ Hid (wr.heap[H]? = some (.cells #[.slice none 0 0] 24 (0, 0))) ∧
    Hid (wr.ownsRow (H + 2) 50 3 (.slice V k vc) k (dfL.all ds)) ∧ Hid (∀ d ∈ ds, DMod d ∧ dfL.inn wr (fun x => H + 2 ≤ x ∧ blkOf V ≠ some x) d) ∧ Hid (Below H w wr) ∧ Hid (H + 2 ≤ wr.heap.size)
def RulesPost (g : List Df) (w : World) (e : Ending) (w' : World) : Prop := ∃ (V : Option Addr) (vc : Nat) (ds : List Ld), e = .returned (.agg #[.slice V ds.length vc]) ∧ ds.map Ld.df = g ∧ dfL.row w' (fun _ => True) V ds ∧ (∀ d ∈ ds, DMod d) ∧ ds.length ≤ vc ∧ vc ≤ 9223372036854775807 ∧ Below w.heap.size w w'
set_option maxRecDepth 100000 in
set_option maxHeartbeats 3200000 in
theorem rules_any (names : ByteArray) (w : World) (hs : names.size ≤ 1000) :
    Calls Tryz.prog 72 #[.string names] w (RulesPost (names.data.toList.map ruleD) w) := by
  obtain ⟨j0, hj, hy0, hy1, hy2⟩ := info_parts infoDef
  have hzc : (Value.agg #[.string ByteArray.empty, .slice none 0 0, .int .i64 0]).cells.size = 3 := rfl
  unfold RulesPost
  go_enter Tryz.func72, Tryz.ntmps72
  go_wp2_with fail
  go_loopw [4] (fun i wr => RulesRel w w.heap.size names i wr) (fun i _ => names.size - (intOf i).toNat)
  case atStart =>
    exact ⟨0, none, 0, [], Nat.zero_le _, rfl, Lib.hid rfl, Lib.hid rfl, Lib.hid (by have h := bx_new (w.alloc (.cells #[.slice none 0 0] 24)) (.cells #[.slice none 0 0] 24); simpa using h), Lib.hid (bx_old (bx_new w _)), Lib.hid (World.ownsRow_nil _ _ _ _), Lib.hid (by simp), Lib.hid (bx2 w _ _), Lib.hid (by simp)⟩
  case round =>
    obtain ⟨k, V, vc, ds, hk, rfl, HLN, HDF, HKG, HKH, HOW, HIN, HB, HZ⟩ := hrel
    by_cases hlt : k < names.size
    · have i1 : (k : Int) < (names.size : Int) := by omega
      have i2 : (0 : Int) ≤ (k : Int) := by omega
      obtain ⟨p1, p2⟩ := blk1 HKG.out
      go_upto_region 5 with (fail)
      have HSZ := Lib.hid (show (names.extract k (k + 1)).size ≤ 281474976710656 from by rw [ByteArray.size_extract]; omega)
      have HSB := Lib.hid (show ∀ w', Agree (fun x => x = w.heap.size + 1) wr w' → w'.cell? ⟨w.heap.size + 1, 0, none⟩ = some (.slice V k vc) ∧ w'.frozen? ⟨w.heap.size + 1, 0, none⟩ = false from fun w' ha => blk1 ((ha _ rfl (heap_lt' HKG.out)).trans HKG.out))
      have HF := Lib.hid (show k + 1 ≤ maxLen ∧ (k + 1) * 48 ≤ 140737488355328 from ⟨by unfold maxLen; omega, by omega⟩)
      have HVL := Lib.hid (show ∀ x, blkOf V = some x → w.heap.size + 2 ≤ x ∧ x < wr.heap.size from fun x hx => own_blk HOW.out x hx)
      have HVN := Lib.hid (show blkOf V ≠ some (w.heap.size + 1) from fun e => by have := HVL.out _ e; omega)
      clear p1 p2
      have i3 : (k : Int) ≤ (k : Int) + 1 := by omega
      have i4 : (k : Int) + 1 ≤ (names.size : Int) := by omega
      have i5 : (0 : Int) ≤ (k : Int) + 1 := by omega
      have hn1 : (k : Int).toNat = k := by omega
      have hn2 : ((k : Int) + 1).toNat = k + 1 := by omega
      have hwr : IntKind.i64.wrap ((k : Int) + 1) = (k : Int) + 1 := IntWalk.i64_in _ (by omega)
      obtain ⟨p1, p2⟩ := blk1 HKG.out
      go_region_law (first | (refine step_append_at (by rfl) (.tmp 12) (.tmp 25) 22 (by rfl) (w.heap.size + 2) 50 j0 (.agg #[.string ByteArray.empty, .slice none 0 0, .int .i64 0]) 3 48 Tryz.underlying22 hj hy0 hy1 hy2 hzc (by decide) V vc k (dfL.all ds) (by rfl) (World.ownsRow.alloc HO3.out _) (some ⟨w3.heap.size, 0, none⟩) 1 1 [.string (names.extract k (k + 1)), .slice (some ⟨b, 0, none⟩) 1 1, .int .i64 0] (by rfl) rfl (row_blk (bx_new w3 _)) (fun u hu => by simp only [List.mem_cons, List.not_mem_nil, or_false] at hu; rcases hu with rfl | rfl | rfl <;> rfl) HF.out.1 HF.out.2 (by have h1 := HB3.out.size; have h2 := HZ.out; simp; omega) ?_; intro V' vc' w5 HO5 HG5 HA5; have HK5 := Lib.hid ((HG5.out.block (w.heap.size + 1) (by have h1 := HB3.out.size; have h2 := HZ.out; simp; omega) (fun e => HVN.out e.symm)).trans (bx_old HK3.out)); obtain ⟨t1, t2⟩ := blk1 HK5.out) | (go_simp; go_at_call 39; refine (text_any (names.extract k (k + 1)) _ HSZ.out).mono ?_; rintro e w3 ⟨b, rfl, ht, hb⟩; have HT := Lib.hid (show TreeOwn w3 (wr.heap.size ≤ ·) ⟨some ⟨b, 0, none⟩, 1, [⟨textLf (names.extract k (k + 1)), none, 0⟩], 0⟩ from ht); have HB3 := Lib.hid (show Below wr.heap.size wr w3 from (Below.refl _ wr).drew.trans hb); have HO3 := Lib.hid (own_agree HOW.out (fun x hx => HB3.out.block x (own_blk HOW.out x hx).2)); have HK3 := Lib.hid (bx_kept HB3.out HKG.out); clear ht hb; obtain ⟨s1, s2⟩ := blk1 HK3.out; have hlt3 := heap_lt' HK3.out))
      all_goals
        clear s1 s2 p1 p2 hwr
        go_wp2_with fail
        have hz := HZ.out
        have hkeep : ∀ x, x < w3.heap.size → x ≠ w.heap.size + 1 → blkOf V ≠ some x → (w5.setCell ⟨w.heap.size + 1, 0, none⟩ (.slice V' (k + 1) vc')).heap[x]? = w3.heap[x]? := fun x h1 h2 h3 => (Below.heap_setCell _ _ _ _ h2).trans ((HG5.out.block x (by simp; omega) (fun e => h3 e.symm)).trans (Below.heap_alloc _ _ x h1))
        have h3s := HB3.out.size
        have h5s : w3.heap.size + 1 ≤ w5.heap.size := by have h := HG5.out.size; simpa using h
        have hVV : ∀ x, x < w3.heap.size → blkOf V ≠ some x → blkOf V' ≠ some x := fun x h1 h2 e => by
          rcases HA5.out with h | h
          · exact h2 (h ▸ e)
          · rw [h] at e; injection e with e; rw [World.size_alloc] at e; omega
        refine ⟨⟨k + 1, V', vc', ds ++ [⟨names.extract k (k + 1), ⟨some ⟨b, 0, none⟩, 1, [⟨textLf (names.extract k (k + 1)), none, 0⟩], 0⟩⟩], by omega, by go_num, Lib.hid (by simp [HLN.out]), Lib.hid ?_, Lib.hid (set_blk1 HK5.out), Lib.hid (((hkeep _ (by omega) (by omega) (fun e => by have := HVL.out _ e; omega)).trans (HB3.out.block _ (by omega))).trans HKH.out), Lib.hid ?_, Lib.hid ?_, Lib.hid ?_, Lib.hid (by simp; omega)⟩, by simp only [intOf]; omega⟩
        · rw [List.map_append, HDF.out, List.take_succ_eq_append_getElem (by simpa using hlt), List.map_append]
          congr 1
          show [Ld.df _] = [ruleD _]
          rw [extract_one hlt]
          rfl
        · have h := HO5.out
          refine own_agree ?_ (fun x hx => Below.heap_setCell _ _ _ _ (by have := (own_blk h x hx).1; show x ≠ w.heap.size + 1; omega))
          rw [dfL.all_append, dfL.all_one]; exact h
        · intro d hd
          rcases List.mem_append.1 hd with hd | hd
          · have h4 := dfL.mono (T := fun x => x < wr.heap.size ∧ w.heap.size + 2 ≤ x ∧ blkOf V ≠ some x) (HIN.out d hd).2 (fun x h1 h2 => ⟨h1, h2⟩)
            exact ⟨(HIN.out d hd).1, dfL.mono (dfL.agree (dfL.agree h4 (below_all HB3.out)) (fun x hx hl => hkeep x hl (by omega) hx.2.2)) (fun x _ h => ⟨h.2.1, hVV x (by omega) h.2.2⟩)⟩
          · simp only [List.mem_singleton] at hd
            subst hd
            refine ⟨⟨by simp, fun l hl => by simp only [List.mem_singleton] at hl; subst hl; simp [textLf]⟩, HSZ.out, ?_⟩
            have h4 := (HT.out.mono (T := fun x => wr.heap.size ≤ x ∧ x < w3.heap.size) (fun x h1 h2 => ⟨h2, h1⟩)).inn
            refine (h4.agree (fun x hx hl => hkeep x hl (by omega) (fun e => by have := HVL.out _ e; omega))).mono (fun x _ hx => ⟨by omega, hVV x hx.2 (fun e => by have := HVL.out _ e; omega)⟩)
        · exact (((HB.out.trans (HB3.out.mono (by omega))).trans ((bx1 w3 _).mono (by omega))).grown HG5.out (by simp; omega) (fun x hx => by have := HVL.out x hx; omega)).setCell (p := ⟨w.heap.size + 1, 0, none⟩) (by show w.heap.size ≤ w.heap.size + 1; omega) _
    · obtain rfl : k = names.size := by omega
      obtain ⟨p1, p2⟩ := blk1 HKG.out
      obtain ⟨s1, s2⟩ := blk1 HKH.out
      have hsz : names.size ≤ 1000 := hs
      go_wp2_with fail
      refine bodyPost_ret (v := .agg #[.slice V names.size vc]) (by simp [results, Tryz.results72, go_sem, s1]) rfl ?_
      have hag : ∀ S : Nat → Prop, (∀ x, S x → w.heap.size + 2 ≤ x) → Agree S wr (wr.setCell ⟨w.heap.size, 0, none⟩ (.slice V names.size vc)) := fun S hS x hx _ => Below.heap_setCell _ _ _ _ (by have := hS x hx; show x ≠ w.heap.size; omega)
      refine ⟨V, vc, ds, by rw [HLN.out], by rw [HDF.out, List.take_of_length_le (by simp)], ⟨?_, fun d hd => ?_⟩, fun d hd => (HIN.out d hd).1, ?_, ?_, HB.out.setCell (p := ⟨w.heap.size, 0, none⟩) (Nat.le_refl _) _⟩
      · exact (RowIn.agree (own_rowIn (S := fun x => w.heap.size + 2 ≤ x) HOW.out (fun ad e => (own_blk HOW.out ad.block (by rw [e]; rfl)).1)) (hag _ (fun _ h => h))).mono (fun _ _ _ => trivial)
      · exact dfL.mono (dfL.agree (HIN.out d hd).2 (hag _ (fun _ h => h.1))) (fun _ _ _ => trivial)
      · rw [HLN.out]; exact own_cap HOW.out
      · exact own_cap_le HOW.out
end Go.Proofs.YtmjkgnknfgoadaaGreatDoor
/- The contracts of the law's kinds and awake. -/
namespace Go.Proofs.YtmjkgnknfgoadaaGreatDoor
open Go.RowKit
set_option linter.unusedSimpArgs false
set_option linter.unusedVariables false
def signE (e : Ed) : List UInt8 := if e.kind = 0 then [61] else if e.kind = 1 then [45] else 43 :: e.d.name.data.toList
def kindsL (l : List Ed) : List UInt8 := l.flatMap signE
theorem kinds_add (l : List Ed) (e : Ed) : kindsL (l ++ [e]) = kindsL l ++ signE e := by simp [kindsL]
theorem rules_len (a : ByteArray) : (a.data.toList.map ruleD).length = a.size := by simp
set_option maxRecDepth 100000 in
set_option maxHeartbeats 3200000 in
theorem kinds_any (a b : ByteArray) (w : World) (ha : a.size ≤ 1000) (hb : b.size ≤ 1000) (ht : CntTab w) :
    Calls Tryz.prog 73 #[.string a, .string b] w fun e w' => e = .returned (.string ⟨(kindsL (ofL (a.data.toList.map ruleD) (b.data.toList.map ruleD))).toArray⟩) ∧ Below w.heap.size w w' := by
  have HC := Lib.hid ht; clear ht
  go_enter Tryz.func73, Tryz.ntmps73
  go_wp2_with (first
    | (go_at_call 72; first
        | ((with_reducible refine (rules_any a w ha).mono ?_); rintro e w1 ⟨V1, c1, d1, rfl, hd1, hr1, hm1, hl1, hc1, hb1⟩; have HD1 := Lib.hid hd1; have HR1 := Lib.hid hr1; have HM1 := Lib.hid hm1; have HB1 := Lib.hid hb1; clear hd1 hr1 hm1 hb1)
        | ((with_reducible refine (rules_any b w1 hb).mono ?_); rintro e w2 ⟨V2, c2, d2, rfl, hd2, hr2, hm2, hl2, hc2, hb2⟩; have HD2 := Lib.hid hd2; have HR2 := Lib.hid hr2; have HM2 := Lib.hid hm2; have HB2 := Lib.hid hb2; have HL1 := Lib.hid (show d1.length ≤ 100000 from by have h := congrArg List.length HD1.out; rw [rules_len, List.length_map] at h; omega); have HL2 := Lib.hid (show d2.length ≤ 100000 from by have h := congrArg List.length HD2.out; rw [rules_len, List.length_map] at h; omega); clear hd2 hr2 hm2 hb2))
    | (go_at_call 24; refine (of_any d1 d2 V1 V2 c1 c2 _ _ w2 (HR1.out.below HB2.out) HR2.out HL1.out HL2.out (fun x hx => (HM1.out x hx).1) HM2.out ((HC.out.below HB1.out).below HB2.out)).mono ?_; rintro e w3 ⟨V, vc, es, rfl, hes, heo, hb3⟩; have HES := Lib.hid hes; have HEO := Lib.hid heo.inn; have HEL := Lib.hid heo.len; have HB3 := Lib.hid (Below.step (Below.step HB1.out HB2.out) hb3); clear hes heo hb3))
  have hel : es.length ≤ 2000 := by
    have h1 := congrArg List.length HES.out
    have h2 := of_counts _ (d1.map Ld.df) (d2.map Ld.df) (Nat.le_refl _)
    have h3 := congrArg List.length HD1.out
    have h4 := congrArg List.length HD2.out
    rw [rules_len, List.length_map] at h3 h4
    simp only [List.length_map] at h1 h2
    omega
  have HEQ := Lib.hid (show ofL (a.data.toList.map ruleD) (b.data.toList.map ruleD) = es.map Le.ed from by rw [HES.out, HD1.out, HD2.out])
  clear HES HD1 HD2 HR1 HR2 HM1 HM2 HL1 HL2 hl1 hl2 hc1 hc2
  go_loopw [7, 5] (fun i o wr => ∃ (k : Nat) (s : ByteArray), k ≤ es.length ∧ i = .int .i64 k ∧ o = .string s ∧ Hid (s.data.toList = kindsL ((es.map Le.ed).take k)) ∧ s.size ≤ k * 281474976710657 ∧ wr = w3) (fun i _ _ => es.length - (intOf i).toNat)
  case atStart => exact ⟨0, ByteArray.empty, Nat.zero_le _, rfl, rfl, Lib.hid rfl, by simp, rfl⟩
  case round =>
    obtain ⟨k, s, hk, rfl, rfl, HS, hs, rfl⟩ := hrel
    by_cases hlt : k < es.length
    · obtain ⟨eb, eo, rfl, _, _, x0, x1, x2, x3⟩ := edRow HEO.out k hlt
      have i1 : (k : Int) < (es.length : Int) := by omega
      have i2 : (0 : Int) ≤ (k : Int) := by omega
      have HN := Lib.hid (HEO.out.sub k hlt).2.1
      have HST := Lib.hid (show (es.map Le.ed).take (k + 1) = (es.map Le.ed).take k ++ [es[k].ed] from by rw [List.take_succ_eq_append_getElem (by simpa using hlt)]; simp)
      have hsz : s.size ≤ 562949953421314000 := by omega
      generalize es[k] = e at *
      obtain ⟨kd, dd⟩ := e
      simp only at x0 x1 x2 x3 HN
      have hn := HN.out
      by_cases h0 : kd = 0
      · subst h0
        as_aux_lemma =>
          have q1 : ¬ 9223372036854775807 < s.size + 1 := by omega
          go_wp2_with fail
          exact ⟨⟨k + 1, _, by omega, by go_num, rfl, Lib.hid (by rw [HST.out, kinds_add, ← HS.out]; simp [signE, Le.ed]), (by rw [ByteArray.size_append]; show s.size + 1 ≤ _; omega), by trivial⟩, by simp only [intOf]; omega⟩
      · have e0 : (kd == 0) = false := by simpa using h0
        by_cases h1 : kd = 1
        · subst h1
          as_aux_lemma =>
            have q1 : ¬ 9223372036854775807 < s.size + 1 := by omega
            go_wp2_with fail
            exact ⟨⟨k + 1, _, by omega, by go_num, rfl, Lib.hid (by rw [HST.out, kinds_add, ← HS.out]; simp [signE, Le.ed]), (by rw [ByteArray.size_append]; show s.size + 1 ≤ _; omega), by trivial⟩, by simp only [intOf]; omega⟩
        · have e1 : (kd == 1) = false := by simpa using h1
          as_aux_lemma =>
            have q1 : ¬ 9223372036854775807 < s.size + 1 := by omega
            have q2 : ¬ 9223372036854775807 < s.size + 1 + dd.name.size := by omega
            go_wp2_with fail
            exact ⟨⟨k + 1, _, by omega, by go_num, rfl, Lib.hid (by rw [HST.out, kinds_add, ← HS.out]; simp [signE, Le.ed, h0, h1, Ld.df]), (by rw [ByteArray.size_append, ByteArray.size_append]; show s.size + 1 + dd.name.size ≤ _; omega), by trivial⟩, by simp only [intOf]; omega⟩
    · obtain rfl : k = es.length := by omega
      have HE := Lib.hid (show s = ⟨(kindsL (es.map Le.ed)).toArray⟩ from by
        apply str_ext
        have h := HS.out
        rw [List.take_of_length_le (by simp)] at h
        simpa using h)
      go_wp2_with fail
      go_ret
      exact ⟨by rw [HEQ.out, ← HE.out]; rfl, HB3.out⟩
theorem rightT_rule (b : UInt8) : rightT (textT ⟨#[b]⟩) = true := by
  simp [rightT, textT, textLf, ndOk, kidsOf, fitN, noSet, noNum]
  show 1 ≤ 1 ∧ 1 ≤ 255
  decide
theorem same_rule (x y : UInt8) : sameD (ruleD x) (ruleD y) = decide (x = y) := by
  by_cases h : x = y
  · subst h
    rw [sameD_refl (show rightT (ruleD x).body = true from rightT_rule x)]; simp
  · simp [sameD, ruleD, h]
theorem ex1 : kindsL (ofL [ruleD 97, ruleD 98, ruleD 99] [ruleD 97, ruleD 99, ruleD 100]) = [61, 45, 61, 43, 100] := by
  simp only [ofL, needL, same_rule]
  simp [kindsL, signE, ruleD]
theorem ex2 : kindsL (ofL [ruleD 97, ruleD 98] [ruleD 98, ruleD 97]) = [45, 61, 43, 97] := by
  simp only [ofL, needL, same_rule]
  simp [kindsL, signE, ruleD]
theorem ex3 : kindsL (ofL [] []) = [] := by simp [ofL, kindsL]
theorem kinds_at (a b : ByteArray) (l : List UInt8) (w : World) (ha : a.size ≤ 1000) (hb : b.size ≤ 1000) (ht : CntTab w) (h : kindsL (ofL (a.data.toList.map ruleD) (b.data.toList.map ruleD)) = l) :
    Calls Tryz.prog 73 #[.string a, .string b] w fun e w' => e = .returned (.string ⟨l.toArray⟩) ∧ Below w.heap.size w w' := by
  subst h
  exact kinds_any a b w ha hb ht
def ErrPost (n : Int) (w : World) (e : Ending) (w' : World) : Prop := ∃ V m vc, e = .returned (.tuple #[.agg #[.slice V m vc], .int .i64 n]) ∧ Below w.heap.size w w'
theorem apply_ex1 (b : Nat) (w : World) (hb : w.heap[b]? = some (.cells #[.int .u8 0, .string ⟨#[]⟩, .slice none 0 0, .int .i64 0] 52 (0, 0))) :
    Calls Tryz.prog 71 #[.agg #[.slice none 0 0], .slice (some ⟨b, 0, none⟩) 1 1] w (ErrPost 5 w) := by
  have hL : edL.row w (fun _ => True) (some ⟨b, 0, none⟩) [⟨0, ⟨ByteArray.empty, ⟨none, 0, [], 0⟩⟩⟩] := ⟨⟨row_blk (cs := [.int .u8 0, .string ⟨#[]⟩, .slice none 0 0, .int .i64 0]) hb, fun _ _ _ => trivial⟩, fun d hd => by
      simp only [List.mem_singleton] at hd
      subst hd
      exact ⟨by simp, by simp, (tree_none _ _ _).inn⟩⟩
  refine (apply_any none (some ⟨b, 0, none⟩) 0 1 [] [⟨0, ⟨ByteArray.empty, ⟨none, 0, [], 0⟩⟩⟩] (fun _ => True) (fun _ => True) w (Lay.row.nil _ _ _) hL (by simp) (by simp) (by simp) (by simp) (by simp [DMod])).mono ?_
  rintro e w1 ⟨V1, c1, d1, rfl, hd1, _, hb1⟩
  exact ⟨V1, _, c1, rfl, hb1⟩
theorem apply_ex2 (V : Option Addr) (c : Nat) (ds : List Ld) (w : World) (h0 : 0 < ds.length) (hl : ds.length ≤ 1000) (hr : dfL.row w (fun _ => True) V ds) (hm : ∀ d ∈ ds, DMod d) (hc : ds.length ≤ c ∧ c ≤ 9223372036854775807) :
    Calls Tryz.prog 71 #[.agg #[.slice V ds.length c], .slice none 0 0] w (ErrPost 8 w) := by
  refine (apply_any V none c 0 ds [] (fun _ => True) (fun _ => True) w hr (Lay.row.nil _ _ _) (by omega) hc (by simp) hm (by simp)).mono ?_
  rintro e w1 ⟨V1, c1, d1, rfl, hd1, _, hb1⟩
  refine ⟨V1, d1.length, c1, ?_, hb1⟩
  have : applyL (ds.map Ld.df) (([] : List Le).map Le.ed) = ([], 8) := by
    have : ds.map Ld.df ≠ [] := by intro e; have := congrArg List.length e; simp at this; subst this; simp at h0
    simp [applyL]
    intro e; subst e; simp at h0
  rw [this]
set_option maxRecDepth 100000 in
set_option maxHeartbeats 3200000 in
theorem awake_any (w : World) (ht : CntTab w) :
    Calls Tryz.prog 21 #[] w fun e w' => e = .returned (.bool true) ∧ Below w.heap.size w w' := by
  have HK1 := Lib.hid (fun (w' : World) (h : CntTab w') => kinds_at ⟨#[97, 98, 99]⟩ ⟨#[97, 99, 100]⟩ [61, 45, 61, 43, 100] w' (by decide) (by decide) h ex1)
  have HK2 := Lib.hid (fun (w' : World) (h : CntTab w') => kinds_at ⟨#[97, 98]⟩ ⟨#[98, 97]⟩ [45, 61, 43, 97] w' (by decide) (by decide) h ex2)
  have HK3 := Lib.hid (fun (w' : World) (h : CntTab w') => kinds_at ⟨#[]⟩ ⟨#[]⟩ [] w' (by decide) (by decide) h ex3)
  have HC := Lib.hid ht; clear ht
  go_enter Tryz.func21, Tryz.ntmps21
  go_wp2_with (first
    | (go_at_call 72; refine (rules_any ⟨#[97]⟩ _ (by decide)).mono ?_; rintro e w2 ⟨V2, c2, d2, rfl, hd2, hr2, hm2, hl2, hc2, hb2⟩; have HR2 := Lib.hid hr2; have HM2 := Lib.hid hm2; have HB2 := Lib.hid (HB1'.out.trans (hb2.mono (by have := HB1'.out.size; omega))); have HL2 := Lib.hid (show d2.length = 1 from by have h := congrArg List.length hd2; simpa using h); clear hd2 hr2 hm2 hb2)
    | (go_at_call 71; first
        | ((with_reducible refine (apply_ex1 w.heap.size _ (bx_new w _)).mono ?_); rintro e w1 ⟨V1, n1, c1, rfl, hb1⟩; have HB1' := Lib.hid (show Below w.heap.size w (w1.alloc (.cells #[.slice V1 n1 c1] 24)) from Below.step (bx1 w _) (hb1.trans ((bx1 w1 _).mono hb1.size))); clear hb1)
        | ((with_reducible refine (apply_ex2 V2 c2 d2 w2 (by rw [HL2.out]; decide) (by rw [HL2.out]; decide) HR2.out HM2.out ⟨hl2, hc2⟩).mono ?_); rintro e w3 ⟨V3, n3, c3, rfl, hb3⟩; have HB3 := Lib.hid (show Below w.heap.size w (w3.alloc (.cells #[.slice V3 n3 c3] 24)) from HB2.out.trans ((hb3.mono HB2.out.size).trans ((bx1 w3 _).mono (by have := HB2.out.size; have := hb3.size; omega)))); clear hb3))
    | (go_at_call 73; first
        | ((with_reducible refine (HK1.out _ (HC.out.below HB3.out)).mono ?_); rintro e w4 ⟨rfl, hb4⟩; have HB4 := Lib.hid (HB3.out.trans (hb4.mono HB3.out.size)); clear hb4)
        | ((with_reducible refine (HK2.out _ (HC.out.below HB4.out)).mono ?_); rintro e w5 ⟨rfl, hb5⟩; have HB5 := Lib.hid (HB4.out.trans (hb5.mono HB4.out.size)); clear hb5)
        | ((with_reducible refine (HK3.out _ (HC.out.below HB5.out)).mono ?_); rintro e w6 ⟨rfl, hb6⟩; have HB6 := Lib.hid (HB5.out.trans (hb6.mono HB5.out.size)); clear hb6)))
  go_ret
  exact ⟨rfl, HB6.out⟩
end Go.Proofs.YtmjkgnknfgoadaaGreatDoor
