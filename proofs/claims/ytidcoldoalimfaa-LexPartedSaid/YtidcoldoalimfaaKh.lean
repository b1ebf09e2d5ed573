/- The walk of LexStand. -/
import Derived.Test.YtidcoldoalimfaaKf
import Derived.Test.YtidcoldoalimfaaKi
import Derived.Test.YtidcoldoalimfaaKg
import Derived.Laws.IdiomStrings
import Derived.Deep.DeepCutAuto
import Derived.Deep.Cut
import Derived.Deep.CutRange
namespace Go.Proofs.Ytidcoldoalimfaa
open Go.RowKit Go.Shelf
set_option linter.unusedSimpArgs false
set_option linter.unusedVariables false

def TruePost (w : World) (e : Ending) (w' : World) : Prop := e = .returned (.bool true) ∧ Below w.heap.size w w'
theorem WorksPost.calls (w : World) : Calls Try.prog 6 #[] w fun e w' => e = .returned (.bool true) ∧ Below w.heap.size w w' := works_any w
theorem parts_true {s : ByteArray} {w : World} (hs : s.size ≤ 281474976710656) (h : wordsL s.data.toList = ([], 0, 0)) : Calls Try.prog 12 #[.string s] w fun e w' => e = .returned (.bool true) ∧ Below w.heap.size w w' :=
  (parts_any s w hs).mono fun e w' hp => ⟨hp.1.trans (by rw [h]; rfl), hp.2⟩
theorem lmay_true {x : Wd} {w : World} (hl : x.text.length ≤ 1000000) (hm : mayS x) : Calls Try.prog 11 #[wdV x] w fun e w' => e = .returned (.bool true) ∧ Below w.heap.size w w' :=
  (lmay_any x w hl).mono fun e w' hp => by
    obtain ⟨⟨b, rfl, hb⟩, hp⟩ := hp
    exact ⟨by rw [hb.2 hm], hp⟩
theorem may_text {x : Wd} (h : mayS x) : x.text.length ≤ 1000000 := by
  by_cases h1 : x.kind = 1
  · have := h.1 h1
    unfold mayL at this
    have := (of_decide_eq_true this).2.1
    omega
  by_cases h2 : x.kind = 15
  · have := h.2.1 h2; omega
  · have := h.2.2.2.2.2.1 h1 h2; rw [this]; simp
theorem lmay_at (kd fr ti : Nat) (tx : List UInt8) (p0 p1 p2 p3 : Nat) (lo hi : Int) (w : World) (hl : tx.length ≤ 1000000) (hm : mayS ⟨kd, fr, ti, tx, p0, p1, p2, p3, lo, hi⟩) : Calls Try.prog 11 #[.agg #[.int .u8 (kd : Int), .int .i64 (fr : Int), .int .i64 (ti : Int), .string ⟨tx.toArray⟩, .int .u64 (p0 : Int), .int .u64 (p1 : Int), .int .u64 (p2 : Int), .int .u64 (p3 : Int), .int .i64 lo, .int .i64 hi]] w fun e w' => e = .returned (.bool true) ∧ Below w.heap.size w w' :=
  lmay_true (x := ⟨kd, fr, ti, tx, p0, p1, p2, p3, lo, hi⟩) hl hm
theorem words_at {s : ByteArray} {w : World} {ls : List Wd} {a er : Nat} (hs : s.size ≤ 281474976710656) (h : wordsL s.data.toList = (ls, a, er)) : Calls Try.prog 8 #[.string s] w fun e w' =>
    ∃ A c, e = .returned (.tuple #[.slice A ls.length c, .int .i64 (a : Int), .int .i64 (er : Int)]) ∧ w'.ownsRow w.heap.size 35 10 (.slice A ls.length c) ls.length (wdL ls) ∧ Below w.heap.size w w' :=
  (words_any s w hs).mono fun e w' hp => by
    unfold WordsPost at hp
    rw [h] at hp
    exact hp
theorem WRow.own {w : World} {b n c : Nat} {A : Option Addr} {l : List Wd} (h : w.ownsRow b 35 10 (.slice A n c) n (wdL l)) (hn : n = l.length) : WRow w A l := fun k hk => by
  subst hn
  obtain ⟨g, rfl, hb, hg⟩ := own_some h (by omega)
  obtain ⟨t0, t1, t2, t3, t4, t5, t6, t7, t8, t9⟩ := word_ten h k (k * 10) rfl l[k] (List.getElem?_eq_getElem hk)
  refine ⟨g, 0, rfl, hg, ?_⟩
  rw [Nat.zero_add]
  exact ⟨t0, t1, t2, t3, t4, t5, t6, t7, t8, t9⟩
theorem same_one (x y : Wd) (h : bareW x = bareW y) (A B : Option Addr) (c d : Nat) (w : World) (hA : WRow w A [x]) (hB : WRow w B [y]) :
    Calls Try.prog 10 #[.slice A 1 c, .slice B 1 d] w fun e w' => e = .returned (.bool true) ∧ Below w.heap.size w w' :=
  (show Calls Try.prog 10 #[.slice A 1 c, .slice B 1 d] w _ from same_any [x] [y] A B c d w hA hB (by simp) (by simp)).mono fun e w' hp => ⟨hp.1.trans (by rw [show sameW [x] [y] = true from decide_eq_true (by simp [h])]), hp.2⟩
set_option maxRecDepth 100000 in
set_option maxHeartbeats 2000000 in
theorem lexstand_walk (s : ByteArray) (w : World) (hmx : s.size ≤ maxLen) : Calls Try.prog 5 #[.string s] w (TruePost w) := by
  by_cases h6 : 6000 < s.size
  · have i1 : (6000 : Int) < (s.size : Int) := by omega
    go_enter Try.func5, Try.ntmps5
    go_wp2_with (first | (go_at_call 6; (with_reducible refine (WorksPost.calls _).mono ?_); rintro e w1 ⟨rfl, hb⟩; first | (have HB2 := Lib.hid (Below.step HB1.out hb); clear hb) | (have HB1 := Lib.hid hb; clear hb)) | fail)
    exact bodyPost_ret (v := .bool true) (by simp [results, Try.results5, go_sem]) rfl ⟨rfl, HB2.out⟩
  have hs : s.size ≤ 281474976710656 := by omega
  clear hmx
  have i1 : ¬ (6000 : Int) < (s.size : Int) := by omega
  obtain ⟨ls, at', er, hW⟩ : ∃ ls at' er, wordsL s.data.toList = (ls, at', er) := ⟨_, _, _, rfl⟩
  have hz : s.data.toList.length = s.size := sz_data s
  have hsl : ¬ 65536 < s.data.toList.length := by omega
  by_cases h0 : er = 0
  · subst h0
    obtain ⟨h0, hst⟩ := words_stand hsl hW
    subst h0
    have HST0 := Lib.hid hst
    have hll : ls.length ≤ 65536 := by have := (stand_len _ _ _ hst).2 (by omega); omega
    have HWA := Lib.hid (fun w => words_at (w := w) hs hW)
    have HSL := Lib.hid hsl; have HZ := Lib.hid hz
    clear hst hsl hz hW
    go_enter Try.func5, Try.ntmps5
    go_wp2_with (first | (go_at_call 6; (with_reducible refine (WorksPost.calls _).mono ?_); rintro e w1 ⟨rfl, hb⟩; have HB1 := Lib.hid hb; clear hb) | (go_at_call 8; (with_reducible refine (HWA.out _).mono ?_); rintro e w2 ⟨A, c, rfl, hr, hb⟩; have HR := Lib.hid hr; have HB2 := Lib.hid (Below.step HB1.out hb); clear hb hr) | fail)
    go_loopw [12, 13] (fun f i wr => ∃ k frm : Nat, k ≤ ls.length ∧ f = .int .i64 frm ∧ i = .int .i64 k ∧ Hid (Stand s.data.toList frm (ls.drop k)) ∧ Hid (frm ≤ s.size) ∧ Hid (Below w2.heap.size w2 wr)) (fun f i _ => ls.length - (intOf i).toNat)
    case atStart => exact ⟨0, 0, by omega, rfl, rfl, HST0, Lib.hid (by omega), Lib.hid (Below.refl _ _)⟩
    case round =>
      obtain ⟨k, frm, hk, rfl, rfl, HST, HFR, HBW⟩ := hrel
      clear HST0
      by_cases hlt : k < ls.length
      · have i2 : (k : Int) < (ls.length : Int) := by omega
        obtain ⟨g, rfl, hgb, hgl⟩ := own_some HR.out (by omega)
        have HWR := Lib.hid (WRow.own HR.out rfl)
        have hnx : ls.drop k = ls[k] :: ls.drop (k + 1) := List.drop_eq_getElem_cons hlt
        have hone : (ls.drop k).take 1 = [ls[k]] := by rw [hnx]; rfl
        have hst := HST.out
        rw [hnx] at hst
        obtain ⟨_, hw, hst2⟩ := hst
        have HMAY := Lib.hid (word_may hw)
        have htil := word_til hw
        have hsone := one_of HSL.out hw
        have hfr := hsone.1
        have HONE := Lib.hid hsone.2
        have hge := next_ge s.data.toList frm
        have HGAP := Lib.hid (gap_of HSL.out hge (Nat.le_refl _) (by omega))
        have HS2 := Lib.hid hst2
        have HTL := Lib.hid (may_text (word_may hw))
        obtain ⟨g', o', e', hg', y0, y1, y2, y3, y4, y5, y6, y7, y8, y9⟩ := HWR.out k hlt
        cases e'
        rw [Nat.zero_add] at y0 y1 y2 y3 y4 y5 y6 y7 y8 y9
        have HPT := Lib.hid (HWR.out.part (g := g) k 1)
        rw [hone, Nat.zero_add] at HPT
        clear hw hst2 hsone hnx hone HWR HST
        rw [← hfr] at htil hge HGAP HONE
        clear hfr
        have hlen : (s.data.toList).length = s.size := HZ.out
        generalize ls[k] = x at *
        obtain ⟨kd, fr, ti, tx, p0, p1, p2, p3, lo, hi⟩ := x
        simp only at htil hge HGAP HONE HTL HMAY HS2
        have HS := Lib.hid (show ∀ w', Below w2.heap.size w2 w' → (w'.cell? ⟨g, k * 10, none⟩ = some (.int .u8 (kd : Int)) ∧ w'.cell? ⟨g, k * 10 + 1, none⟩ = some (.int .i64 (fr : Int)) ∧ w'.cell? ⟨g, k * 10 + 2, none⟩ = some (.int .i64 (ti : Int)) ∧ w'.cell? ⟨g, k * 10 + 3, none⟩ = some (.string ⟨tx.toArray⟩) ∧ w'.cell? ⟨g, k * 10 + 4, none⟩ = some (.int .u64 (p0 : Int)) ∧ w'.cell? ⟨g, k * 10 + 5, none⟩ = some (.int .u64 (p1 : Int)) ∧ w'.cell? ⟨g, k * 10 + 6, none⟩ = some (.int .u64 (p2 : Int)) ∧ w'.cell? ⟨g, k * 10 + 7, none⟩ = some (.int .u64 (p3 : Int)) ∧ w'.cell? ⟨g, k * 10 + 8, none⟩ = some (.int .i64 lo) ∧ w'.cell? ⟨g, k * 10 + 9, none⟩ = some (.int .i64 hi)) from fun w' hb =>
          ⟨(hb.cell hg').trans y0, (hb.cell hg').trans y1, (hb.cell hg').trans y2, (hb.cell hg').trans y3, (hb.cell hg').trans y4, (hb.cell hg').trans y5, (hb.cell hg').trans y6, (hb.cell hg').trans y7, (hb.cell hg').trans y8, (hb.cell hg').trans y9⟩)
        have j0 : (0 : Int) ≤ (frm : Int) := by omega
        have j1 : (frm : Int) ≤ (fr : Int) := by omega
        have j2 : (fr : Int) < (ti : Int) := by omega
        have j3 : (ti : Int) ≤ (s.size : Int) := by omega
        have j4 : (fr : Int) ≤ (ti : Int) := by omega
        have j5 : (fr : Int) ≤ (s.size : Int) := by omega
        have n1 : ¬ (fr : Int) < (frm : Int) := by omega
        have n2 : ¬ (ti : Int) ≤ (fr : Int) := by omega
        have n3 : ¬ (s.size : Int) < (ti : Int) := by omega
        have HGP := Lib.hid (show wordsL (s.extract frm fr).data.toList = ([], 0, 0) from by rw [Lib.extract_data]; exact HGAP.out)
        have HOP := Lib.hid (show wordsL (s.extract fr ti).data.toList = ([⟨kd, 0, ti - fr, tx, p0, p1, p2, p3, lo, hi⟩], 0, 0) from by rw [Lib.extract_data]; exact HONE.out)
        have HG1 := Lib.hid (show (s.extract frm fr).size ≤ 281474976710656 from by rw [ByteArray.size_extract]; omega)
        have HG2 := Lib.hid (show (s.extract fr ti).size ≤ 281474976710656 from by rw [ByteArray.size_extract]; omega)
        have HCAP := Lib.hid (own_cap HR.out)
        clear y0 y1 y2 y3 y4 y5 y6 y7 y8 y9 HGAP HONE htil hge hlen
        have HB0 := Lib.hid HBW.out.drew
        go_upto_region 14 with fail
        go_cut [131] (fun v wx => v = .bool false ∧ Hid (Below w2.heap.size w2 wx))
        case first =>
          go_region_held3 (fun w' => w'.cell? ⟨g, k * 10, none⟩ = some (.int .u8 (kd : Int)) ∧ w'.cell? ⟨g, k * 10 + 1, none⟩ = some (.int .i64 (fr : Int)) ∧ w'.cell? ⟨g, k * 10 + 2, none⟩ = some (.int .i64 (ti : Int)) ∧ w'.cell? ⟨g, k * 10 + 3, none⟩ = some (.string ⟨tx.toArray⟩) ∧ w'.cell? ⟨g, k * 10 + 4, none⟩ = some (.int .u64 (p0 : Int)) ∧ w'.cell? ⟨g, k * 10 + 5, none⟩ = some (.int .u64 (p1 : Int)) ∧ w'.cell? ⟨g, k * 10 + 6, none⟩ = some (.int .u64 (p2 : Int)) ∧ w'.cell? ⟨g, k * 10 + 7, none⟩ = some (.int .u64 (p3 : Int)) ∧ w'.cell? ⟨g, k * 10 + 8, none⟩ = some (.int .i64 lo) ∧ w'.cell? ⟨g, k * 10 + 9, none⟩ = some (.int .i64 hi)) (first | exact HS.out _ HBW.out | exact HS.out _ HB0.out | exact HS.out _ HB3.out | exact HS.out _ HB4.out | fail) (first
            | (go_at_call 11; (with_reducible refine (lmay_at kd fr ti tx p0 p1 p2 p3 lo hi _ HTL.out HMAY.out).mono ?_); rintro e w3 ⟨rfl, hb⟩; have HB3 := Lib.hid (Below.step HB0.out hb); clear hb)
            | (go_at_call 12; (with_reducible refine (parts_true HG1.out HGP.out).mono ?_); rintro e w4 ⟨rfl, hb⟩; have HB4 := Lib.hid (Below.step HB3.out hb); clear hb)
            | fail)
          all_goals
            go_wp2_with fail
            go_meet
            exact ⟨rfl, HB4⟩
        case rest =>
          obtain ⟨rfl, HB5⟩ := hcut
          have HB6 := Lib.hid HB5.out.drew
          go_upto_region 16 with fail
          go_cut [14, 15, 16] (fun va vb vc wx => ∃ A1 c1, va = .slice A1 1 c1 ∧ vb = .int .i64 0 ∧ vc = .int .i64 0 ∧ Hid (WRow wx A1 [⟨kd, 0, ti - fr, tx, p0, p1, p2, p3, lo, hi⟩]) ∧ Hid (Below w2.heap.size w2 wx))
          case first =>
            go_region_held3 (fun w' => w'.cell? ⟨g, k * 10, none⟩ = some (.int .u8 (kd : Int)) ∧ w'.cell? ⟨g, k * 10 + 1, none⟩ = some (.int .i64 (fr : Int)) ∧ w'.cell? ⟨g, k * 10 + 2, none⟩ = some (.int .i64 (ti : Int)) ∧ w'.cell? ⟨g, k * 10 + 3, none⟩ = some (.string ⟨tx.toArray⟩) ∧ w'.cell? ⟨g, k * 10 + 4, none⟩ = some (.int .u64 (p0 : Int)) ∧ w'.cell? ⟨g, k * 10 + 5, none⟩ = some (.int .u64 (p1 : Int)) ∧ w'.cell? ⟨g, k * 10 + 6, none⟩ = some (.int .u64 (p2 : Int)) ∧ w'.cell? ⟨g, k * 10 + 7, none⟩ = some (.int .u64 (p3 : Int)) ∧ w'.cell? ⟨g, k * 10 + 8, none⟩ = some (.int .i64 lo) ∧ w'.cell? ⟨g, k * 10 + 9, none⟩ = some (.int .i64 hi)) (first | exact HS.out _ HB5.out | exact HS.out _ HB6.out | exact HS.out _ HB7.out | fail) (first
              | (go_at_call 8; (with_reducible refine (words_at HG2.out HOP.out).mono ?_); rintro e w5 ⟨A1, c1, rfl, hr5, hb⟩; have HR5 := Lib.hid (WRow.own hr5 rfl); have HB7 := Lib.hid (Below.step HB6.out hb); clear hb hr5)
              | fail)
            all_goals
              go_wp2_with fail
              go_meet
              exact ⟨_, _, rfl, rfl, rfl, HR5, HB7⟩
          case rest =>
            obtain ⟨A1, c1, rfl, rfl, rfl, HR5, HB7⟩ := hcut
            have k1 : (k : Int) + 1 ≤ (c : Int) := by have := HCAP.out; omega
            have k2 : (k : Int) ≤ (k : Int) + 1 := by omega
            have k3 : (0 : Int) ≤ (k : Int) + 1 := by omega
            have k4 : (k : Int) + 1 ≤ 65536 := by omega
            have HSM := Lib.hid (fun (w' : World) (hb : Below w2.heap.size w2 w') (h5 : WRow w' A1 [⟨kd, 0, ti - fr, tx, p0, p1, p2, p3, lo, hi⟩]) (d : Nat) => same_one ⟨kd, 0, ti - fr, tx, p0, p1, p2, p3, lo, hi⟩ ⟨kd, fr, ti, tx, p0, p1, p2, p3, lo, hi⟩ rfl A1 (some ⟨g, k * 10, none⟩) c1 d w' h5 (HPT.out.below hb))
            go_wp2_with (first
              | (go_at_call 10; (with_reducible refine (HSM.out _ HB7.out HR5.out _).mono ?_); rintro e w6 ⟨rfl, hb⟩; have t2 := (HS.out _ (Below.step HB7.out hb)).2.2.1; have HB8 := Lib.hid (Below.step HB7.out hb); clear hb)
              | fail)
            exact ⟨⟨k + 1, ti, by omega, rfl, by go_num, HS2, Lib.hid (by omega), HB8⟩, by simp only [intOf]; omega⟩
      · have i2 : ¬ (k : Int) < (ls.length : Int) := by omega
        have HF := Lib.hid HFR.out
        have j1 : (frm : Int) ≤ (s.size : Int) := by have := HFR.out; omega
        have HP := Lib.hid (show wordsL (s.extract frm s.size).data.toList = ([], 0, 0) from by
          have h := HST.out
          rw [List.drop_of_length_le (by omega)] at h
          have := end_of HSL.out (k := frm) (by have := HFR.out; have := HZ.out; omega) h
          rw [Lib.extract_data]
          rw [← HZ.out, ← List.length_drop, List.take_length]
          exact this)
        have HPS := Lib.hid (show (s.extract frm s.size).size ≤ 281474976710656 from by have := HFR.out; rw [ByteArray.size_extract]; omega)
        go_wp2_with (first | (go_at_call 12; (with_reducible refine (parts_true HPS.out HP.out).mono ?_); rintro e w3 ⟨rfl, hb⟩; have HB3 := Lib.hid (Below.step (HB2.out.trans (HBW.out.mono HB2.out.size)) hb); clear hb) | fail)
        exact bodyPost_ret (v := .bool true) (by simp [results, Try.results5, go_sem]) rfl ⟨rfl, HB3.out⟩
  · obtain ⟨hl0, he4, hp, hta, htb⟩ := wrong_of hsl hW h0
    subst hl0 he4
    have q0 : (0 : Int) ≤ (at' : Int) := by omega
    have q1 : ¬ (s.size : Int) ≤ (at' : Int) := by omega
    have q2 : (at' : Int) ≤ (s.size : Int) := by omega
    have q3 : ¬ (at' : Int) < 0 := by omega
    have HWA := Lib.hid (fun w => words_at (w := w) hs hW)
    obtain ⟨l1, p1, e1, hW1⟩ : ∃ l1 p1 e1, wordsL (s.data.toList.take at') = (l1, p1, e1) := ⟨_, _, _, rfl⟩
    rw [hW1] at hta
    simp only at hta
    subst hta
    have HG1 := Lib.hid (show (s.extract 0 at').size ≤ 281474976710656 from by rw [ByteArray.size_extract]; omega)
    have HG2 := Lib.hid (show (s.extract at' s.size).size ≤ 281474976710656 from by rw [ByteArray.size_extract]; omega)
    have HW1 := Lib.hid (show wordsL (s.extract 0 at').data.toList = (l1, p1, 0) from by rw [Lib.extract_data, List.drop_zero, Nat.sub_zero]; exact hW1)
    have HW2 := Lib.hid (show wordsL (s.extract at' s.size).data.toList = ([], 0, 4) from by rw [Lib.extract_data, ← hz, ← List.length_drop, List.take_length]; exact htb)
    clear hW1 htb hsl hz hW
    go_enter Try.func5, Try.ntmps5
    go_wp2_with (first
      | (go_at_call 6; (with_reducible refine (WorksPost.calls _).mono ?_); rintro e w1 ⟨rfl, hb⟩; have HB1 := Lib.hid hb; clear hb)
      | (go_at_call 8; (with_reducible refine (HWA.out _).mono ?_); rintro e w2 ⟨A, c, rfl, hr, hb⟩; have HB2 := Lib.hid (Below.step HB1.out hb); clear hb hr)
      | (go_at_call 8; (with_reducible refine (words_at HG1.out HW1.out).mono ?_); rintro e w3 ⟨A3, c3, rfl, hr, hb⟩; have HB3 := Lib.hid (Below.step HB2.out hb); clear hb hr)
      | (go_at_call 8; (with_reducible refine (words_at HG2.out HW2.out).mono ?_); rintro e w4 ⟨A4, c4, rfl, hr, hb⟩; have HB4 := Lib.hid (Below.step HB3.out hb); clear hb hr)
      | fail)
    exact bodyPost_ret (v := .bool true) (by simp [results, Try.results5, go_sem]) rfl ⟨rfl, HB4.out⟩
end Go.Proofs.Ytidcoldoalimfaa
