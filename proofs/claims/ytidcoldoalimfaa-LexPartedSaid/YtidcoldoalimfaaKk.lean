/- The walk of LexParted. -/
import Derived.Test.YtidcoldoalimfaaKh
import Derived.Test.YtidcoldoalimfaaKj
import Derived.Deep.Quiet
namespace Go.Proofs.Ytidcoldoalimfaa
open Go.RowKit Go.Shelf
set_option linter.unusedSimpArgs false
set_option linter.unusedVariables false

def PRel (s wh : List UInt8) (ls : List Wd) (w3 : World) (o f i : Value) (wr : World) : Prop :=
  ∃ (k frm : Nat) (ob : ByteArray), k ≤ ls.length ∧ o = .string ob ∧ f = .int .i64 (frm : Int) ∧ i = .int .i64 (k : Int) ∧ Hid (Stand s frm (ls.drop k)) ∧ Hid (frm ≤ s.length) ∧
    Hid (ob.data.toList ++ partL s wh k frm (ls.drop k) = partL s wh 0 0 ls) ∧ Hid (Below w3.heap.size w3 wr)
def gapV : Array Value := #[.string ⟨#[]⟩, .string ⟨#[32]⟩, .string ⟨#[10]⟩, .string ⟨#[9, 13, 10]⟩, .string ⟨#[35, 120, 10]⟩, .string ⟨#[32, 35, 32, 34, 97, 10, 10]⟩, .string ⟨#[35, 35, 10, 35, 10]⟩]
theorem gapV_at (j : Nat) (h : j < 7) : gapV[j]? = some (.string ⟨(gapAt j).toArray⟩) := by
  match j, h with
  | 0, _ => rfl
  | 1, _ => rfl
  | 2, _ => rfl
  | 3, _ => rfl
  | 4, _ => rfl
  | 5, _ => rfl
  | 6, _ => rfl
set_option maxRecDepth 100000 in
set_option maxHeartbeats 2000000 in
theorem lexparted_walk (s : ByteArray) (A1 : Option Addr) (c1 : Nat) (wh : List UInt8) (w : World) (hmx : s.size ≤ maxLen) (hml : wh.length ≤ maxLen) (hwh : BytesAt w A1 wh) : Calls Try.prog 4 #[.string s, .slice A1 wh.length c1] w (TruePost w) := by
  by_cases h6 : 3000 < s.size
  · have i1 : (3000 : Int) < (s.size : Int) := by omega
    go_enter Try.func4, Try.ntmps4
    go_wp2_with (first | (go_at_call 6; (with_reducible refine (WorksPost.calls _).mono ?_); rintro e w1 ⟨rfl, hb⟩; first | (have HB2 := Lib.hid (Below.step HB1.out hb); clear hb) | (have HB1 := Lib.hid hb; clear hb)) | fail)
    exact bodyPost_ret (v := .bool true) (by simp [results, Try.results4, go_sem]) rfl ⟨rfl, HB2.out⟩
  have hs : s.size ≤ 281474976710656 := by omega
  have i1 : ¬ (3000 : Int) < (s.size : Int) := by omega
  by_cases h7 : 3000 < wh.length
  · have i2 : (3000 : Int) < (wh.length : Int) := by omega
    go_enter Try.func4, Try.ntmps4
    go_wp2_with (first | (go_at_call 6; (with_reducible refine (WorksPost.calls _).mono ?_); rintro e w1 ⟨rfl, hb⟩; first | (have HB2 := Lib.hid (Below.step HB1.out hb); clear hb) | (have HB1 := Lib.hid hb; clear hb)) | fail)
    exact bodyPost_ret (v := .bool true) (by simp [results, Try.results4, go_sem]) rfl ⟨rfl, HB2.out⟩
  have i2 : ¬ (3000 : Int) < (wh.length : Int) := by omega
  clear hmx hml
  by_cases h8 : wh.length = 0
  · have i3 : ((wh.length : Int) == 0) = true := by simp [h8]
    go_enter Try.func4, Try.ntmps4
    go_wp2_with (first | (go_at_call 6; (with_reducible refine (WorksPost.calls _).mono ?_); rintro e w1 ⟨rfl, hb⟩; first | (have HB2 := Lib.hid (Below.step HB1.out hb); clear hb) | (have HB1 := Lib.hid hb; clear hb)) | fail)
    all_goals exact bodyPost_ret (v := .bool true) (by simp [results, Try.results4, go_sem]) rfl ⟨rfl, HB2.out⟩
  have i3 : ((wh.length : Int) == 0) = false := by simp; intro e; rw [e] at h8; exact h8 rfl
  obtain ⟨ls, at', er, hW⟩ : ∃ ls at' er, wordsL s.data.toList = (ls, at', er) := ⟨_, _, _, rfl⟩
  have hz : s.data.toList.length = s.size := sz_data s
  have HWA := Lib.hid (fun w => words_at (w := w) hs hW)
  by_cases h0 : er = 0
  · subst h0
    obtain ⟨h0, hst⟩ := words_stand (by omega) hW
    subst h0
    have HST0 := Lib.hid hst
    have hll : ls.length ≤ 3000 := by have := (stand_len _ _ _ hst).2 (by omega); omega
    obtain ⟨m, hm1, hm2⟩ := words_parted (wh := wh) (by omega) hW
    have HM := Lib.hid hm1; have HMS := Lib.hid hm2
    have HPL := Lib.hid (show (partL s.data.toList wh 0 0 ls).length ≤ 30000 from by have := part_len s.data.toList wh ls 0 0 hst (by omega); omega)
    have HZ := Lib.hid hz
    have HWH := Lib.hid hwh
    have HN0 := Lib.hid (show 0 < wh.length from by omega)
    clear hst hm1 hm2 hz hW hwh
    go_enter Try.func4, Try.ntmps4
    go_wp2_with (first
      | (go_at_call 6; (with_reducible refine (WorksPost.calls _).mono ?_); rintro e w1 ⟨rfl, hb⟩; have HB1 := Lib.hid hb; clear hb)
      | (go_at_call 8; (with_reducible refine (HWA.out _).mono ?_); rintro e w2 ⟨A, c, rfl, hr, hb⟩; have HR := Lib.hid hr; have HB2 := Lib.hid (Below.step HB1.out hb); clear hb hr)
      | fail)
    have HGB := Lib.hid (show ∀ w' j, Below (w2.alloc (.cells gapV 9)).heap.size (w2.alloc (.cells gapV 9)) w' → j < 7 → w'.cell? ⟨w2.heap.size, j, none⟩ = some (.string ⟨(gapAt j).toArray⟩) from fun w' j hb hj => by
      rw [World.cell?, bx_kept hb (bx_new w2 _)]
      exact gapV_at j hj)
    unfold gapV at HGB
    have HB3 := Lib.hid (Below.step HB2.out (bx1 w2 (.cells #[.string ⟨#[]⟩, .string ⟨#[32]⟩, .string ⟨#[10]⟩, .string ⟨#[9, 13, 10]⟩, .string ⟨#[35, 120, 10]⟩, .string ⟨#[32, 35, 32, 34, 97, 10, 10]⟩, .string ⟨#[35, 35, 10, 35, 10]⟩] 9)))
    have HWR0 := Lib.hid ((WRow.own HR.out rfl).below (bx1 w2 (.cells #[.string ⟨#[]⟩, .string ⟨#[32]⟩, .string ⟨#[10]⟩, .string ⟨#[9, 13, 10]⟩, .string ⟨#[35, 120, 10]⟩, .string ⟨#[32, 35, 32, 34, 97, 10, 10]⟩, .string ⟨#[35, 35, 10, 35, 10]⟩] 9)))
    generalize w2.heap.size = G at *
    generalize w2.alloc (.cells #[.string ⟨#[]⟩, .string ⟨#[32]⟩, .string ⟨#[10]⟩, .string ⟨#[9, 13, 10]⟩, .string ⟨#[35, 120, 10]⟩, .string ⟨#[32, 35, 32, 34, 97, 10, 10]⟩, .string ⟨#[35, 35, 10, 35, 10]⟩] 9) = w3 at *
    clear HR HB2
    go_loopw [9, 10, 11] (fun o f i wr => PRel s.data.toList wh ls w3 o f i wr) (fun _ _ i _ => ls.length - (intOf i).toNat)
    case atStart => exact ⟨0, 0, ⟨#[]⟩, by omega, rfl, rfl, rfl, HST0, Lib.hid (by omega), Lib.hid rfl, Lib.hid (Below.refl _ _)⟩
    case round =>
      obtain ⟨k, frm, ob, hk, rfl, rfl, rfl, HST, HFR, HPE, HBW⟩ := hrel
      clear HST0
      by_cases hlt : k < ls.length
      · have i2 : (k : Int) < (ls.length : Int) := by omega
        have hm0 := HN0.out
        have hmod : k % wh.length < wh.length := Nat.mod_lt _ hm0
        obtain ⟨b, o, rfl, hbl, hbc⟩ := (HWH.out.below (HB3.out.trans (HBW.out.mono HB3.out.size))) (k % wh.length) hmod
        have r1 : ((k : Int).tmod (wh.length : Int)) = ((k % wh.length : Nat) : Int) := by rw [Int.tmod_eq_emod_of_nonneg (by omega)]; omega
        have r2 : ((k % wh.length : Nat) : Int) < (wh.length : Int) := by omega
        have r3 : (0 : Int) ≤ ((k % wh.length : Nat) : Int) := by omega
        have hnx : ls.drop k = ls[k] :: ls.drop (k + 1) := List.drop_eq_getElem_cons hlt
        have hst := HST.out
        have hpe := HPE.out
        rw [hnx] at hst hpe
        obtain ⟨_, hw, hst2⟩ := hst
        have htil := word_til hw
        have hfr := (one_of (by have := HZ.out; omega) hw).1
        have hge := next_ge s.data.toList frm
        have HS2 := Lib.hid hst2
        obtain ⟨g, o', e', hg', y0, y1, y2, y3, y4, y5, y6, y7, y8, y9⟩ := (HWR0.out.below HBW.out) k hlt
        subst e'
        clear y0 y3 y4 y5 y6 y7 y8 y9 hw hst2 hnx HST HPE
        rw [← hfr] at htil hge
        have HKO := Lib.hid (show kOf wh ls[k] frm k = if wh[k % wh.length].toNat % 7 = 0 ∧ frm < ls[k].frm ∧ 0 < k then 1 else wh[k % wh.length].toNat % 7 from by unfold kOf; rw [List.getD_eq_getElem?_getD, List.getElem?_eq_getElem hmod]; rfl)
        have HPE := Lib.hid (show (ob.data.toList ++ (gapAt (kOf wh ls[k] frm k) ++ (s.data.toList.drop ls[k].frm).take (ls[k].til - ls[k].frm))) ++ partL s.data.toList wh (k + 1) ls[k].til (ls.drop (k + 1)) = partL s.data.toList wh 0 0 ls from by rw [← hpe]; simp only [partL, ownB, List.append_assoc])
        clear hfr hpe
        have hlen : (s.data.toList).length = s.size := HZ.out
        generalize wh[k % wh.length] = x at *
        generalize kOf wh ls[k] frm k = ko at *
        generalize ls[k].frm = fr at *
        generalize ls[k].til = ti at *
        have r5 : wrap64 (x.toNat : Int) = (x.toNat : Int) := by have := x.toNat_lt; unfold wrap64; omega
        have r6 : ((x.toNat : Int).tmod 7) = ((x.toNat % 7 : Nat) : Int) := by rw [Int.tmod_eq_emod_of_nonneg (by omega)]; omega
        have hko : ko < 7 := by rw [HKO.out]; split <;> omega
        have hkk : x.toNat % 7 < 7 := by omega
        generalize hkq : x.toNat % 7 = kk at *
        clear hkq
        have hob : ob.size + (gapAt ko).length + (ti - fr) ≤ 30000 := by
          have h1 := congrArg List.length HPE.out
          have h2 := HPL.out
          rw [← h1] at h2
          simp only [List.length_append, List.length_take, List.length_drop] at h2
          have h3 : ob.data.toList.length = ob.size := sz_data ob
          omega
        have HOB := Lib.hid hob
        have j1 : (frm : Int) ≤ (fr : Int) := by omega
        have j2 : (fr : Int) < (ti : Int) := by omega
        have j3 : (ti : Int) ≤ (s.size : Int) := by omega
        have j4 : (fr : Int) ≤ (ti : Int) := by omega
        have hgp := HGB.out wr ko HBW.out hko
        have hgl : (gapAt ko).length ≤ 7 := gap_len ko
        have j6 : (ko : Int) < 7 := by omega
        have j7 : (0 : Int) ≤ (ko : Int) := by omega
        go_upto_region 13 with fail
        go_cut [74] (fun v wx => v = .bool (decide (kk = 0 ∧ frm < fr ∧ 0 < k)) ∧ Hid (wx = wr))
        case first =>
          by_cases q0 : kk = 0
          · subst q0
            by_cases q1 : frm < fr
            · by_cases q2 : 0 < k
              · have p1 : (frm : Int) < (fr : Int) := by omega
                have p2 : (0 : Int) < (k : Int) := by omega
                have HE := Lib.hid (show decide (0 = 0 ∧ frm < fr ∧ 0 < k) = true from decide_eq_true ⟨rfl, q1, q2⟩)
                clear q1 q2
                go_wp2_with fail
                go_meet
                exact ⟨by first | (simp; omega) | (rw [HE.out]; done) | (simp; done), Lib.hid rfl⟩
              · have p1 : (frm : Int) < (fr : Int) := by omega
                have p2 : ¬ (0 : Int) < (k : Int) := by omega
                have HE := Lib.hid (show decide (0 = 0 ∧ frm < fr ∧ 0 < k) = false from decide_eq_false fun h => q2 h.2.2)
                clear q1 q2
                go_wp2_with fail
                go_meet
                exact ⟨by first | (simp; omega) | (rw [HE.out]; done) | (simp; done), Lib.hid rfl⟩
            · have p1 : ¬ (frm : Int) < (fr : Int) := by omega
              have HE := Lib.hid (show decide (0 = 0 ∧ frm < fr ∧ 0 < k) = false from decide_eq_false fun h => q1 h.2.1)
              clear q1
              go_wp2_with fail
              go_meet
              exact ⟨by first | (simp; omega) | (rw [HE.out]; done) | (simp; done), Lib.hid rfl⟩
          · have p1 : ((kk : Int) == 0) = false := by simp; omega
            have HE := Lib.hid (show decide (kk = 0 ∧ frm < fr ∧ 0 < k) = false from decide_eq_false fun h => q0 h.1)
            clear q0
            go_wp2_with fail
            go_meet
            exact ⟨by first | (simp; omega) | (rw [HE.out]; done) | (simp; done), Lib.hid rfl⟩
        case rest =>
          obtain ⟨rfl, hx⟩ := hcut
          obtain rfl := hx.out
          clear hx
          by_cases hC : kk = 0 ∧ frm < fr ∧ 0 < k
          · rw [if_pos hC] at HKO
            rw [decide_eq_true hC]
            obtain rfl := HKO.out
            clear HKO hC
            go_upto_region 15 with fail
            go_quiet (fail)
            go_wp2_with fail
            have HPE' := Lib.hid (show (ob ++ ⟨(gapAt 1).toArray⟩ ++ s.extract fr ti).data.toList ++ partL s.data.toList wh (k + 1) ti (ls.drop (k + 1)) = partL s.data.toList wh 0 0 ls from by
              rw [← HPE.out, ByteArray.data_append, ByteArray.data_append, Array.toList_append, Array.toList_append, Lib.extract_data, List.append_assoc ob.data.toList])
            exact ⟨⟨k + 1, ti, ob ++ ⟨(gapAt 1).toArray⟩ ++ s.extract fr ti, by omega, rfl, rfl, by go_num, HS2, Lib.hid (by omega), HPE', Lib.hid (drewN_below HBW.out _)⟩, by simp only [intOf]; omega⟩
          · rw [if_neg hC] at HKO
            rw [decide_eq_false hC]
            obtain rfl := HKO.out
            clear HKO hC
            go_upto_region 15 with fail
            go_quiet (fail)
            go_wp2_with fail
            have HPE' := Lib.hid (show (ob ++ ⟨(gapAt ko).toArray⟩ ++ s.extract fr ti).data.toList ++ partL s.data.toList wh (k + 1) ti (ls.drop (k + 1)) = partL s.data.toList wh 0 0 ls from by
              rw [← HPE.out, ByteArray.data_append, ByteArray.data_append, Array.toList_append, Array.toList_append, Lib.extract_data, List.append_assoc ob.data.toList])
            exact ⟨⟨k + 1, ti, ob ++ ⟨(gapAt ko).toArray⟩ ++ s.extract fr ti, by omega, rfl, rfl, by go_num, HS2, Lib.hid (by omega), HPE', Lib.hid (drewN_below HBW.out _)⟩, by simp only [intOf]; omega⟩
      · have i2 : ¬ (k : Int) < (ls.length : Int) := by omega
        have hdr : ls.drop k = [] := List.drop_of_length_le (by omega)
        have hpe := HPE.out
        rw [hdr] at hpe
        simp only [partL] at hpe
        obtain ⟨b, o, rfl, hbl, hbc⟩ := (HWH.out.below (HB3.out.trans (HBW.out.mono HB3.out.size))) 0 HN0.out
        rw [Nat.add_zero] at hbc
        have hg0 : wh.getD 0 0 = wh[0]'HN0.out := by rw [List.getD_eq_getElem?_getD, List.getElem?_eq_getElem HN0.out]; rfl
        rw [hg0] at hpe
        clear hg0 hdr
        generalize wh[0]'HN0.out = x at *
        have r5 : wrap64 (x.toNat : Int) = (x.toNat : Int) := by have := x.toNat_lt; unfold wrap64; omega
        have r6 : ((x.toNat : Int).tmod 7) = ((x.toNat % 7 : Nat) : Int) := by rw [Int.tmod_eq_emod_of_nonneg (by omega)]; omega
        have hkk : x.toNat % 7 < 7 := by omega
        generalize hkq : x.toNat % 7 = kk at *
        clear hkq
        have hgp := HGB.out wr kk HBW.out hkk
        have hgl : (gapAt kk).length ≤ 7 := gap_len kk
        have j6 : (kk : Int) < 7 := by omega
        have j7 : (0 : Int) ≤ (kk : Int) := by omega
        have j8 : (0 : Int) < (wh.length : Int) := by have := HN0.out; omega
        have HPE2 := Lib.hid (show (ob ++ ⟨(gapAt kk).toArray⟩ ++ ⟨#[35, 32, 116, 104, 101, 32, 101, 110, 100]⟩).data.toList = partL s.data.toList wh 0 0 ls from by
          rw [← hpe, ByteArray.data_append, ByteArray.data_append, Array.toList_append, Array.toList_append, List.append_assoc]; rfl)
        have hob : ob.size + (gapAt kk).length + 9 ≤ 30000 := by
          have h1 := congrArg List.length hpe
          have h2 := HPL.out
          rw [← h1] at h2
          simp only [List.length_append, endL, List.length_cons, List.length_nil] at h2
          have h3 : ob.data.toList.length = ob.size := sz_data ob
          omega
        have HOS := Lib.hid (show (ob ++ ⟨(gapAt kk).toArray⟩ ++ ⟨#[35, 32, 116, 104, 101, 32, 101, 110, 100]⟩ : ByteArray).size ≤ 281474976710656 from by
          have h1 := congrArg List.length HPE2.out
          have h3 := sz_data (ob ++ ⟨(gapAt kk).toArray⟩ ++ ⟨#[35, 32, 116, 104, 101, 32, 101, 110, 100]⟩)
          have h2 := HPL.out
          omega)
        have HWM := Lib.hid (fun w' => words_at (w := w') HOS.out (show wordsL (ob ++ ⟨(gapAt kk).toArray⟩ ++ ⟨#[35, 32, 116, 104, 101, 32, 101, 110, 100]⟩ : ByteArray).data.toList = (m, 0, 0) from by rw [HPE2.out]; exact HM.out))
        have HSM := Lib.hid (fun (w' : World) (B : Option Addr) (d : Nat) (h1 : WRow w' A ls) (h2 : WRow w' B m) => same_any ls m A B c d w' h1 h2 (by omega) (by have := congrArg List.length HMS.out; simp at this; omega))
        have HSQ := Lib.hid (show sameW ls m = true from decide_eq_true (show ls.map bareP = m.map bareP from HMS.out.symm))
        clear hpe HPE HPE2 HST
        go_upto_region 17 with fail
        go_wp2_with (first
          | (go_at_call 8; (with_reducible refine (HWM.out _).mono ?_); rintro e w4 ⟨B, d, rfl, hr, hb⟩; have HR4 := Lib.hid (WRow.own hr rfl); have HB4 := Lib.hid (Below.step HBW.out hb); clear hb hr)
          | (go_at_call 10; (with_reducible refine (HSM.out _ _ _ (HWR0.out.below HB4.out) HR4.out).mono ?_); rintro e w5 ⟨rfl, hb⟩; rw [HSQ.out]; have HB5 := Lib.hid (Below.step HB4.out hb); clear hb)
          | fail)
        exact bodyPost_ret (v := .bool true) (by simp [results, Try.results4, go_sem]) rfl ⟨rfl, HB3.out.trans (HB5.out.mono HB3.out.size)⟩
  · have i4 : ((er : Int) != 0) = true := by simp; omega
    go_enter Try.func4, Try.ntmps4
    go_wp2_with (first
      | (go_at_call 6; (with_reducible refine (WorksPost.calls _).mono ?_); rintro e w1 ⟨rfl, hb⟩; have HB1 := Lib.hid hb; clear hb)
      | (go_at_call 8; (with_reducible refine (HWA.out _).mono ?_); rintro e w2 ⟨A, c, rfl, hr, hb⟩; have HB2 := Lib.hid (Below.step HB1.out hb); clear hb hr)
      | fail)
    exact bodyPost_ret (v := .bool true) (by simp [results, Try.results4, go_sem]) rfl ⟨rfl, HB2.out⟩
end Go.Proofs.Ytidcoldoalimfaa
