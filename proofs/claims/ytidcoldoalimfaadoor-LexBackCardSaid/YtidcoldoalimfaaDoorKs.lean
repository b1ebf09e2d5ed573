/- The walk of LexBack. -/
import Derived.Test.YtidcoldoalimfaaDoorKr
import Derived.Test.YtidcoldoalimfaaDoorKf
import Derived.Deep.DeepCutAuto
import Derived.Deep.Cut
import Derived.Deep.CutRange
namespace Go.Proofs.YtidcoldoalimfaaDoor
open Go.RowKit Go.Shelf
set_option linter.unusedSimpArgs false
set_option linter.unusedVariables false

def TruePostB (w : World) (e : Ending) (w' : World) : Prop := e = .returned (.bool true) ∧ Below w.heap.size w w'
def offL : List Wd → Nat → Nat
  | _, 0 => 0
  | [], _ + 1 => 0
  | x :: l, k + 1 => (showW x).length + 1 + offL l k
theorem off_succ : ∀ (l : List Wd) (k : Nat) (h : k < l.length), offL l (k + 1) = offL l k + (showW l[k]).length + 1
  | x :: l, 0, _ => by simp [offL]
  | x :: l, k + 1, h => by
    have hk : k < l.length := by simpa using h
    have ih := off_succ l k hk
    show (showW x).length + 1 + offL l (k + 1) = (showW x).length + 1 + offL l k + (showW l[k]).length + 1
    omega
theorem place_at : ∀ (l : List Wd) (p k : Nat) (h : k < l.length) (h' : k < (placeL p l).length), (placeL p l)[k] = { l[k] with frm := p + offL l k, til := p + offL l k + (showW l[k]).length }
  | x :: l, p, 0, _, _ => by simp [placeL, offL]
  | x :: l, p, k + 1, h, h' => by
    have hk : k < l.length := by simpa using h
    have hk' : k < (placeL (p + (showW x).length + 1) l).length := by rw [place_len]; exact hk
    have ih := place_at l (p + (showW x).length + 1) k hk hk'
    show (placeL (p + (showW x).length + 1) l)[k]'hk' = { l[k] with frm := p + ((showW x).length + 1 + offL l k), til := p + ((showW x).length + 1 + offL l k) + (showW l[k]).length }
    rw [ih, show p + (showW x).length + 1 + offL l k = p + ((showW x).length + 1 + offL l k) by omega]
theorem off_le : ∀ (l : List Wd) (k : Nat), (∀ x ∈ l, mayS x) → offL l k ≤ k * 2401
  | _, 0, _ => by simp [offL]
  | [], k + 1, _ => by simp [offL]
  | x :: l, k + 1, h => by
    have h1 := show_len (h x List.mem_cons_self)
    have ih := off_le l k fun z hz => h z (List.mem_cons_of_mem _ hz)
    simp only [offL]; omega
theorem place_bare : ∀ (l : List Wd) (p : Nat), (placeL p l).map bareW = l.map bareW
  | [], _ => rfl
  | x :: l, p => by
    show bareW _ :: (placeL _ l).map bareW = _
    rw [place_bare l]
    rfl
theorem same_place (l : List Wd) : sameW (placeL 0 l) l = true ∧ sameW l (placeL 0 l) = true := ⟨decide_eq_true (place_bare l 0), decide_eq_true (place_bare l 0).symm⟩
theorem WRow.ownB {w : World} {b n c : Nat} {A : Option Addr} {l : List Wd} (h : w.ownsRow b 32 10 (.slice A n c) n (wdL l)) (hn : n = l.length) : WRow w A l := fun k hk => by
  subst hn
  obtain ⟨g, rfl, hb, hg⟩ := own_some h (by omega)
  obtain ⟨t0, t1, t2, t3, t4, t5, t6, t7, t8, t9⟩ := word_ten h k (k * 10) rfl l[k] (List.getElem?_eq_getElem hk)
  refine ⟨g, 0, rfl, hg, ?_⟩
  rw [Nat.zero_add]
  exact ⟨t0, t1, t2, t3, t4, t5, t6, t7, t8, t9⟩
theorem words_atB {s : ByteArray} {w : World} {ls : List Wd} {a er : Nat} (hs : s.size ≤ 281474976710656) (h : wordsL s.data.toList = (ls, a, er)) : Calls Tryd.prog 6 #[.string s] w fun e w' =>
    ∃ A c, e = .returned (.tuple #[.slice A ls.length c, .int .i64 (a : Int), .int .i64 (er : Int)]) ∧ WRow w' A ls ∧ Below w.heap.size w w' :=
  (words_any s w hs).mono fun e w' hp => by
    unfold WordsPost at hp
    rw [h] at hp
    obtain ⟨A, c, e1, hr, hb⟩ := hp
    exact ⟨A, c, e1, WRow.ownB hr rfl, hb⟩
def BackRel (w : World) (ls : List Wd) (i : Value) (wr : World) : Prop :=
  ∃ k : Nat, k ≤ ls.length ∧ i = .int .i64 (k : Int) ∧ Hid (∀ x ∈ ls.take k, mayS x) ∧ Hid (Below w.heap.size w wr)
def PlaceRel (w : World) (ls : List Wd) (a i : Value) (wr : World) : Prop :=
  ∃ k m : Nat, k ≤ ls.length ∧ a = .int .i64 (m : Int) ∧ i = .int .i64 (k : Int) ∧ Hid (m = offL ls k) ∧ m ≤ k * 2401 ∧ Hid (Below w.heap.size w wr)
theorem works_b (w : World) : Calls Tryd.prog 5 #[] w fun e w' => e = .returned (.bool true) ∧ Below w.heap.size w w' := works_any w
set_option maxRecDepth 100000 in
set_option maxHeartbeats 2000000 in
theorem lexback_walk (ls : List Wd) (A : Option Addr) (f t : Nat → Int) (c : Nat) (w : World) (hA : WRowZ w A ls f t) (hs : ∀ x ∈ ls, small x ∧ x.text.length ≤ reachBytes) (hl : ls.length ≤ reachBytes) (ht : LexTabs w) : Calls Tryd.prog 4 #[.slice A ls.length c] w (TruePostB w) := by
  have hrb := reachBytes_lt
  have HA := Lib.hid hA; have HS := Lib.hid hs; have HT := Lib.hid ht
  clear hA hs ht
  have HLG := Lib.hid (fun w' (h : WRowZ w' A ls f t) => long_z ls A f t c w' h (by omega))
  unfold LongPost at HLG
  go_enter Tryd.func4, Tryd.ntmps4
  go_wp2_with (first
    | (go_at_call 5; (with_reducible refine (works_b _).mono ?_); rintro e w3 ⟨rfl, hb⟩; first | (have HB3 := Lib.hid (Below.step HB2.out hb); clear hb) | (have HB1 := Lib.hid hb; clear hb))
    | (go_at_call 12; (with_reducible refine (HLG.out _ (HA.out.below HB1.out)).mono ?_); rintro e w2 ⟨⟨b, rfl, hlb⟩, hb⟩; have HLB := Lib.hid hlb; have HB2 := Lib.hid (Below.step HB1.out hb); clear hb hlb)
    | fail)
  · exact bodyPost_ret (v := .bool true) (by simp [results, Tryd.results4, go_sem]) rfl ⟨rfl, HB3.out⟩
  have hbf : b = false := by assumption
  subst hbf
  obtain ⟨hl1, hlt⟩ := HLB.out rfl
  have HLT := Lib.hid hlt
  clear HLB hlt HLG hl hrb
  have HSS := Lib.hid (show ∀ x ∈ ls, small x ∧ x.text.length ≤ 1000000 from fun x hx => ⟨(HS.out x hx).1, by have := HLT.out x hx; omega⟩)
  go_loopw [3] (fun i wr => BackRel w ls i wr) (fun i _ => ls.length - (intOf i).toNat)
  case atStart => exact ⟨0, Nat.zero_le _, rfl, Lib.hid (fun x hx => by simp at hx), HB2⟩
  case round =>
    obtain ⟨k, hk, rfl, HMA, HB⟩ := hrel
    by_cases hlt : k < ls.length
    · obtain ⟨g, o, rfl, hg, x0, x1, x2, x3, x4, x5, x6, x7, x8, x9⟩ := (HA.out.below HB.out) k hlt
      have i1 : (k : Int) < (ls.length : Int) := by omega
      have hsk := HSS.out ls[k] (List.getElem_mem hlt)
      have HMS := Lib.hid (show mayS ls[k] → ∀ x ∈ ls.take (k + 1), mayS x from fun h x hx => by
        rw [List.take_succ_eq_append_getElem hlt] at hx
        rcases List.mem_append.1 hx with hx | hx
        · exact HMA.out x hx
        · rw [List.mem_singleton.1 hx]; exact h)
      have HNM := Lib.hid (show ¬ mayS ls[k] → ¬ (∀ x ∈ ls, mayS x) from fun h ha => h (ha _ (List.getElem_mem hlt)))
      generalize ls[k] = X at *
      obtain ⟨kd, fr0, ti0, tx, p0, p1, p2, p3, lo, hi⟩ := X
      simp only at x0 x3 x4 x5 x6 x7 x8 x9
      generalize f k = fr at *
      generalize t k = ti at *
      by_cases hm : mayS ⟨kd, fr0, ti0, tx, p0, p1, p2, p3, lo, hi⟩
      · have HMY := Lib.hid (fun w' => lmay_atS kd fr ti tx p0 p1 p2 p3 lo hi true w' hsk.2 ⟨fun _ => hm, fun _ => rfl⟩)
        have HM2 := Lib.hid (HMS.out hm)
        clear hm HMS HNM
        go_wp2_with (first
          | (go_at_call 7; (with_reducible refine (HMY.out _).mono ?_); rintro e w3 ⟨rfl, hb⟩; have HB3 := Lib.hid (Below.step HB.out hb); clear hb)
          | fail)
        exact ⟨⟨k + 1, by omega, by go_num, HM2, HB3⟩, by simp only [intOf]; omega⟩
      · have HMY := Lib.hid (fun w' => lmay_atS kd fr ti tx p0 p1 p2 p3 lo hi false w' hsk.2 ⟨(fun h => by cases h), (fun h => absurd h hm)⟩)
        have HSH := Lib.hid (fun w' ht => lshow_at kd fr0 ti0 fr ti tx p0 p1 p2 p3 lo hi [] hsk.2 hsk.1 (fun h => absurd h hm) (fun _ => rfl) w' ht)
        have HJN := Lib.hid (fun w' (h : WRowZ w' (some ⟨g, o, none⟩) ls f t) ht => ljoin_z ls _ f t c [] w' h (by omega) HSS.out ht (fun h => absurd h (HNM.out hm)) (fun _ => rfl))
        unfold TextPost at HJN
        clear hm HMS HNM
        go_wp2_with (first
          | (go_at_call 7; (with_reducible refine (HMY.out _).mono ?_); rintro e w3 ⟨rfl, hb⟩; have HB3 := Lib.hid (Below.step HB.out hb); have y0 := (hb.cell hg).trans x0; have y1 := (hb.cell hg).trans x1; have y2 := (hb.cell hg).trans x2; have y3 := (hb.cell hg).trans x3; have y4 := (hb.cell hg).trans x4; have y5 := (hb.cell hg).trans x5; have y6 := (hb.cell hg).trans x6; have y7 := (hb.cell hg).trans x7; have y8 := (hb.cell hg).trans x8; have y9 := (hb.cell hg).trans x9; clear hb)
          | (go_at_call 11; (with_reducible refine (HSH.out _ (HT.out.below HB3.out)).mono ?_); rintro e w4 ⟨rfl, hb⟩; have HB4 := Lib.hid (Below.step HB3.out hb); clear hb)
          | (go_at_call 10; (with_reducible refine (HJN.out _ (HA.out.below HB4.out) (HT.out.below HB4.out)).mono ?_); rintro e w5 ⟨rfl, hb⟩; have HB5 := Lib.hid (Below.step HB4.out hb); clear hb)
          | fail)
        exact bodyPost_ret (v := .bool true) (by simp [results, Tryd.results4, go_sem]) rfl ⟨rfl, HB5.out⟩
    · obtain rfl : k = ls.length := by omega
      rw [List.take_length] at HMA
      have HJN := Lib.hid (fun w' (h : WRowZ w' A ls f t) ht => ljoin_z ls _ f t c (joinL ls) w' h (by omega) HSS.out ht (fun _ => rfl) (fun h => absurd HMA.out h))
      unfold TextPost at HJN
      by_cases h6 : 65536 < (joinL ls).length
      · have i6 : (65536 : Int) < ((joinL ls).length : Int) := by omega
        go_wp2_with (first
          | (go_at_call 10; (with_reducible refine (HJN.out _ (HA.out.below HB.out) (HT.out.below HB.out)).mono ?_); rintro e w5 ⟨rfl, hb⟩; have HB5 := Lib.hid (Below.step HB.out hb); clear hb)
          | fail)
        exact bodyPost_ret (v := .bool true) (by simp [results, Tryd.results4, go_sem]) rfl ⟨rfl, HB5.out⟩
      · have i6 : ¬ (65536 : Int) < ((joinL ls).length : Int) := by omega
        have HWD := Lib.hid (fun w' => words_atB (w := w') (s := ⟨(joinL ls).toArray⟩) (by simp [ByteArray.size]; omega) (words_joined ls (fun x hx => ⟨HMA.out x hx, (HS.out x hx).1⟩) h6))
        rw [place_len] at HWD
        have HSA := Lib.hid (fun w' B d (h : WRowZ w' A ls f t) (h2 : WRow w' B (placeL 0 ls)) => same_z ls (placeL 0 ls) A B f t _ _ c d w' h h2.z (by omega) (by rw [place_len]; omega))
        have HSB := Lib.hid (fun w' B d (h : WRowZ w' A ls f t) (h2 : WRow w' B (placeL 0 ls)) => same_z (placeL 0 ls) ls B A _ _ f t d c w' h2.z h (by rw [place_len]; omega) (by omega))
        rw [(same_place ls).1] at HSB
        rw [(same_place ls).2] at HSA
        rw [place_len] at HSA HSB
        go_wp2_with (first
          | (go_at_call 10; (with_reducible refine (HJN.out _ (HA.out.below HB.out) (HT.out.below HB.out)).mono ?_); rintro e w5 ⟨rfl, hb⟩; have HB5 := Lib.hid (Below.step HB.out hb); clear hb)
          | (go_at_call 6; (with_reducible refine (HWD.out _).mono ?_); rintro e w6 ⟨B, d, rfl, hr, hb⟩; have HB6 := Lib.hid (Below.step HB5.out hb); have HR6 := Lib.hid hr; clear hb hr)
          | (go_at_call 13; (with_reducible refine (HSB.out _ _ _ (HA.out.below HB6.out) HR6.out).mono ?_); rintro e w7 ⟨rfl, hb⟩; have HB7 := Lib.hid (Below.step HB6.out hb); have HR7 := Lib.hid (HR6.out.below hb); clear hb HR6)
          | (go_at_call 13; (with_reducible refine (HSA.out _ _ _ (HA.out.below HB7.out) HR7.out).mono ?_); rintro e w8 ⟨rfl, hb⟩; have HB8 := Lib.hid (Below.step HB7.out hb); have HR8 := Lib.hid (HR7.out.below hb); clear hb HR7)
          | fail)
        have HOL := Lib.hid (fun k => off_le ls k HMA.out)
        clear HWD HSA HSB HJN i6 h6
        go_loopw [8, 9] (fun a i wr => PlaceRel w8 ls a i wr) (fun _ i _ => ls.length - (intOf i).toNat)
        case atStart => exact ⟨0, 0, Nat.zero_le _, rfl, rfl, Lib.hid (by simp [offL]), by omega, Lib.hid (Below.refl _ _)⟩
        case round =>
          obtain ⟨k, m, hk, rfl, rfl, HM, hm2, HBr⟩ := hrel
          by_cases hlt : k < ls.length
          · have HBq := Lib.hid (Below.step HB8.out HBr.out)
            obtain ⟨g, o, rfl, hg, x0, x1, x2, x3, x4, x5, x6, x7, x8, x9⟩ := (HA.out.below HBq.out) k hlt
            have hpl : k < (placeL 0 ls).length := by rw [place_len]; exact hlt
            obtain ⟨g', o', rfl, hg', _, y1, y2, _⟩ := (HR8.out.below HBr.out) k hpl
            rw [place_at ls 0 k hlt hpl, ← show m = 0 + offL ls k from by have := HM.out; omega] at y1 y2
            simp only at y1 y2
            have i1 : (k : Int) < (ls.length : Int) := by omega
            have hsk := HSS.out ls[k] (List.getElem_mem hlt)
            have hmk := HMA.out ls[k] (List.getElem_mem hlt)
            have HNX := Lib.hid (show m + (showW ls[k]).length + 1 = offL ls (k + 1) from by rw [off_succ ls k hlt, ← HM.out])
            generalize ls[k] = X at *
            obtain ⟨kd, fr0, ti0, tx, p0, p1, p2, p3, lo, hi⟩ := X
            simp only at x0 x3 x4 x5 x6 x7 x8 x9
            generalize f k = fr at *
            generalize t k = ti at *
            have HSH := Lib.hid (fun w' ht => lshow_at kd fr0 ti0 fr ti tx p0 p1 p2 p3 lo hi (showW ⟨kd, fr0, ti0, tx, p0, p1, p2, p3, lo, hi⟩) hsk.2 hsk.1 (fun _ => rfl) (fun h => absurd hmk h) w' ht)
            have hsn := show_len hmk
            clear hmk HM
            generalize showW ⟨kd, fr0, ti0, tx, p0, p1, p2, p3, lo, hi⟩ = S at *
            rw [Int.natCast_add] at y2
            go_wp2_with (first
              | (go_at_call 11; (with_reducible refine (HSH.out _ (HT.out.below HBq.out)).mono ?_); rintro e w9 ⟨rfl, hb⟩; have HB9 := Lib.hid (Below.step HBr.out hb); have z1 := (hb.cell hg').trans y1; have z2 := (hb.cell hg').trans y2; clear hb)
              | fail)
            exact ⟨⟨k + 1, m + S.length + 1, by omega, by go_num, by go_num, HNX, by omega, HB9⟩, by simp only [intOf]; omega⟩
          · go_wp2_with fail
            exact bodyPost_ret (v := .bool true) (by simp [results, Tryd.results4, go_sem]) rfl ⟨rfl, Below.step HB8.out HBr.out⟩
end Go.Proofs.YtidcoldoalimfaaDoor
