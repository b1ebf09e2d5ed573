/- The walk of ParseRows. -/
import Derived.Test.YtpfokabdpmjobaaDoorJ3
import Derived.Test.YtpfokabdpmjobaaDoorJl
namespace Go.Proofs.YtpfokabdpmjobaaDoor
open Go.RowKit
set_option linter.unusedSimpArgs false
set_option linter.unusedVariables false
structure GrAt (w : World) (g : List Df) (A : Option Addr) (ds : List Ld) : Prop where
 row : dfL.row w (fun _ => True) A ds
 df : ds.map Ld.df = g
 len : ∀ d ∈ ds, d.t.ls.length ≤ 300000
theorem GrAt.below {w w' : World} {g : List Df} {A : Option Addr} {ds : List Ld} (h : GrAt w g A ds) (hb : Below w.heap.size w w') : GrAt w' g A ds := ⟨h.row.below hb, h.df, h.len⟩
theorem pg_at (s : ByteArray) (w : World) (hs : s.size ≤ 281474976710656) (ht : CntTab w) : Calls Tryd.prog 5 #[.string s] w fun e w' => ∃ A c ds, e = .returned (.tuple #[.agg #[.slice A ds.length c], .int .i64 ((gramP s.data.toList).2.1 : Int), .int .i64 ((gramP s.data.toList).2.2 : Int)]) ∧ GrAt w' (gramP s.data.toList).1 A ds ∧ Below w.heap.size w w' :=
 (pgrammar_any s w hs ht).mono fun e w' hp => by
  obtain ⟨A, c, ds, h1, h2, h3, h4, h5, h6⟩ := hp
  exact ⟨A, c, ds, h1, ⟨⟨h4.row.mono (fun _ _ _ => trivial), fun d hd => ⟨(h5 d hd).1, (h5 d hd).2.inn.mono (fun _ _ _ => trivial)⟩⟩, h2, h3⟩, h6⟩
theorem gram_len {s : List UInt8} (hs : ¬ 65536 < s.length) : (gramP s).1.length ≤ 64 := by
 by_cases h : (gramP s).2.2 = 0
 ·obtain ⟨W, l, cs, hg⟩ := good_of hs h
  rw [hg.gram]; simpa using hg.small
 ·unfold gramP at h ⊢
  split
  ·simp
  ·rename_i h1
   rw [if_neg h1] at h
   split
   ·simp
   ·rename_i h2
    rw [if_neg h2] at h
    exact absurd rfl h
theorem GrAt.at {w : World} {g : List Df} {A : Option Addr} {ds : List Ld} (h : GrAt w g A ds) {i : Nat} (hi : i < ds.length) : ∃ hg : i < g.length, ds[i].name = g[i].name ∧ ds[i].t.tr = g[i].body := by
 have h1 := h.df
 subst h1
 refine ⟨by simpa using hi, ?_⟩
 simp [Ld.df]
theorem gram_right {s : List UInt8} (hs : ¬ 65536 < s.length) (h : (gramP s).2.2 = 0) : ∀ d ∈ (gramP s).1, rightT d.body = true := by
 obtain ⟨W, l, cs, hg⟩ := good_of hs h
 rw [hg.gram]
 intro d hd
 obtain ⟨p, hp, rfl⟩ := List.mem_map.1 hd
 exact (rightT_iff _).2 (right_treeOf (make_ok (hg.reads.ofs p hp).2.1).1)
theorem toListJ {a b : ByteArray} (h : a.toList = b.toList) : a = b := by
 rw [Lib.toList_data, Lib.toList_data] at h
 exact str_ext h
def Hit (la lb : List Ld) (i : Nat) : Prop := ∃ x ∈ la.take i, ∃ y ∈ lb, x.name = y.name
def Hit2 (la lb : List Ld) (i k : Nat) : Prop := Hit la lb i ∨ ∃ x, la[i]? = some x ∧ ∃ y ∈ lb.take k, x.name = y.name
theorem hit_0 (la lb : List Ld) : ¬ Hit la lb 0 := by rintro ⟨x, hx, _⟩; simp at hx
theorem hit2_0 (la lb : List Ld) (i : Nat) : Hit2 la lb i 0 ↔ Hit la lb i := ⟨fun h => h.elim id (fun ⟨x, _, y, hy, _⟩ => by simp at hy), .inl⟩
theorem hit2_s {la lb : List Ld} {i k : Nat} (hi : i < la.length) (hk : k < lb.length) : Hit2 la lb i (k + 1) ↔ Hit2 la lb i k ∨ la[i].name = lb[k].name := by
 unfold Hit2
 rw [List.take_succ_eq_append_getElem hk, List.getElem?_eq_getElem hi]
 constructor
 ·rintro (h | ⟨x, hx, y, hy, e⟩)
  ·exact .inl (.inl h)
  ·cases hx
   rcases List.mem_append.1 hy with hy | hy
   ·exact .inl (.inr ⟨_, rfl, y, hy, e⟩)
   ·rw [List.mem_singleton.1 hy] at e; exact .inr e
 ·rintro ((h | ⟨x, hx, y, hy, e⟩) | h)
  ·exact .inl h
  ·exact .inr ⟨x, hx, y, List.mem_append_left _ hy, e⟩
  ·exact .inr ⟨_, rfl, lb[k], List.mem_append_right _ (List.mem_singleton.2 rfl), h⟩
theorem hit2_end {la lb : List Ld} {i : Nat} (hi : i < la.length) : Hit2 la lb i lb.length ↔ Hit la lb (i + 1) := by
 unfold Hit2 Hit
 rw [List.take_length, List.getElem?_eq_getElem hi, List.take_succ_eq_append_getElem hi]
 constructor
 ·rintro (⟨x, hx, h⟩ | ⟨x, hx, h⟩)
  ·exact ⟨x, List.mem_append_left _ hx, h⟩
  ·cases hx; exact ⟨_, List.mem_append_right _ (by simp), h⟩
 ·rintro ⟨x, hx, h⟩
  rcases List.mem_append.1 hx with hx | hx
  ·exact .inl ⟨x, hx, h⟩
  ·rw [List.mem_singleton.1 hx] at h; exact .inr ⟨_, rfl, h⟩
theorem hit_all {la lb : List Ld} {f g : List Df} (hf : la.map Ld.df = f) (hg : lb.map Ld.df = g) : Hit la lb la.length ↔ ∃ x ∈ f, ∃ y ∈ g, x.name = y.name := by
 subst hf hg
 unfold Hit
 rw [List.take_length]
 constructor
 ·rintro ⟨x, hx, y, hy, e⟩; exact ⟨x.df, List.mem_map_of_mem hx, y.df, List.mem_map_of_mem hy, e⟩
 ·rintro ⟨x, hx, y, hy, e⟩
  obtain ⟨x', hx', rfl⟩ := List.mem_map.1 hx
  obtain ⟨y', hy', rfl⟩ := List.mem_map.1 hy
  exact ⟨x', hx', y', hy', e⟩
set_option maxRecDepth 100000 in
set_option maxHeartbeats 12800000 in
theorem parserows_walk (s t : ByteArray) (w : World) (hs : s.size ≤ 281474976710656) (ht : t.size ≤ 281474976710656) (hc : CntTab w) :
  Calls Tryd.prog 3 #[.string s, .string t] w fun e w' => e = .returned (.bool true) ∧ Below w.heap.size w w' := by
 have HCT := Lib.hid hc
 have HAW := Lib.hid (show ∀ w', Below w.heap.size w w' → Calls Tryd.prog 4 #[] w' fun e w'' => e = .returned (.bool true) ∧ Below w'.heap.size w' w'' from fun w' hb => awake7_any w' (HCT.out.below hb))
 have HB0 := Lib.hid (Below.refl w.heap.size w)
 have e1 : IntKind.i64.wrap ((s.size : Int) + (t.size : Int)) = (s.size : Int) + (t.size : Int) := IntWalk.i64_in _ (by omega)
 clear hc
 by_cases hbig : 2000 < s.size + t.size
 ·have i1 : (2000 : Int) < (s.size : Int) + (t.size : Int) := by omega
  go_enter Tryd.func3, Tryd.ntmps3
  go_wp2_with (first
   | (go_at_call 4; (with_reducible refine (HAW.out _ HB0.out).mono ?_); rintro e w1 ⟨rfl, hb⟩; have HB1 := Lib.hid hb; clear hb)
   | fail)
  go_ret
  exact ⟨rfl, HB1.out⟩
 ·have i1 : ¬ (2000 : Int) < (s.size : Int) + (t.size : Int) := by omega
  have hsz : s.size ≤ 2000 ∧ t.size ≤ 2000 := by omega
  have HSZ := Lib.hid hsz
  have HG := Lib.hid (fun (u : ByteArray) (wx : World) (hu : u.size ≤ 281474976710656) (hx : CntTab wx) => pg_at u wx hu hx)
  have hsl : s.data.toList.length = s.size := Array.length_toList
  have htl : t.data.toList.length = t.size := Array.length_toList
  have HSL := Lib.hid (And.intro hsl htl)
  have HGL := Lib.hid (show (gramP s.data.toList).1.length ≤ 64 ∧ (gramP t.data.toList).1.length ≤ 64 from ⟨gram_len (by omega), gram_len (by omega)⟩)
  clear hsl htl hsz hbig
  generalize hls : s.data.toList = ls at *
  generalize hlt : t.data.toList = lt at *
  have HGS := Lib.hid (show ∀ wx, CntTab wx → Calls Tryd.prog 5 #[.string s] wx fun e w' => ∃ A c ds, e = .returned (.tuple #[.agg #[.slice A ds.length c], .int .i64 ((gramP ls).2.1 : Int), .int .i64 ((gramP ls).2.2 : Int)]) ∧ GrAt w' (gramP ls).1 A ds ∧ Below wx.heap.size wx w' from fun wx hx => by have h := HG.out s wx hs hx; rw [hls] at h; exact h)
  have HGT := Lib.hid (show ∀ wx, CntTab wx → Calls Tryd.prog 5 #[.string t] wx fun e w' => ∃ A c ds, e = .returned (.tuple #[.agg #[.slice A ds.length c], .int .i64 ((gramP lt).2.1 : Int), .int .i64 ((gramP lt).2.2 : Int)]) ∧ GrAt w' (gramP lt).1 A ds ∧ Below wx.heap.size wx w' from fun wx hx => by have h := HG.out t wx ht hx; rw [hlt] at h; exact h)
  have HLS := Lib.hid (And.intro hls hlt)
  clear hls hlt
  obtain ⟨as', has⟩ : ∃ a, (gramP ls).2.1 = a := ⟨_, rfl⟩
  obtain ⟨es, hes⟩ : ∃ a, (gramP ls).2.2 = a := ⟨_, rfl⟩
  obtain ⟨at', hat⟩ : ∃ a, (gramP lt).2.1 = a := ⟨_, rfl⟩
  obtain ⟨et, het⟩ : ∃ a, (gramP lt).2.2 = a := ⟨_, rfl⟩
  rw [has, hes] at HGS
  rw [hat, het] at HGT
  have HES := Lib.hid (And.intro hes het)
  clear has hes hat het
  go_enter Tryd.func3, Tryd.ntmps3
  go_upto_region 5 with (first
   | (go_at_call 4; (with_reducible refine (HAW.out _ HB0.out).mono ?_); rintro e w1 ⟨rfl, hb⟩; have HB1 := Lib.hid hb; clear hb)
   | (go_at_call 5; (with_reducible refine (HGS.out _ (HCT.out.below HB1.out)).mono ?_); rintro e w2 ⟨A, c, la, rfl, h1, h2⟩; have HA2 := Lib.hid h1; have HB2 := Lib.hid (Below.step HB1.out h2); clear h1 h2; have HA3 := Lib.hid (HA2.out.below (bx1 w2 (.cells #[.slice A la.length c] 25))); have HB3 := Lib.hid (Below.step HB2.out (bx1 w2 (.cells #[.slice A la.length c] 25))); have HK3 := Lib.hid (bx_new w2 (.cells #[.slice A la.length c] 25)))
   | (go_at_call 5; (with_reducible refine (HGT.out _ (HCT.out.below HB3.out)).mono ?_); rintro e w4 ⟨B, d, lb, rfl, h1, h2⟩; have HP4 := Lib.hid h1; have HA4 := Lib.hid (HA3.out.below h2); have HK4 := Lib.hid (bx_kept h2 HK3.out); have HB4 := Lib.hid (Below.step HB3.out h2); clear h1 h2)
   | fail)
  have hb5 := bx1 w4 (.cells #[.slice B lb.length d] 25)
  have HA := Lib.hid (HA4.out.below hb5)
  have HP := Lib.hid (HP4.out.below hb5)
  have HKA := Lib.hid (bx_kept hb5 HK4.out)
  have HKP := Lib.hid (bx_new w4 (.cells #[.slice B lb.length d] 25))
  have HB5 := Lib.hid (Below.step HB4.out hb5)
  clear hb5 HA4 HP4 HK4 HB4 HA3 HB3 HK3 HA2 HB2 HB1
  generalize hga : w2.heap.size = ga at *
  generalize (w4.alloc (.cells #[.slice B lb.length d] 25)) = w5 at *
  generalize w4.heap.size = gb at *
  clear hga w4
  have hla : la.length = (gramP ls).1.length := by rw [← HA.out.df]; simp
  have hlb : lb.length = (gramP lt).1.length := by rw [← HP.out.df]; simp
  have HLA := Lib.hid (And.intro hla hlb)
  have hl64 : la.length ≤ 64 ∧ lb.length ≤ 64 := by rw [hla, hlb]; exact HGL.out
  clear hla hlb
  obtain ⟨pa, _⟩ := blk1 HKA.out
  obtain ⟨pb, _⟩ := blk1 HKP.out
  by_cases he : es = 0
  ·subst he
   by_cases hf : et = 0
   ·subst hf
    have e2 : IntKind.i64.wrap ((la.length : Int) + (lb.length : Int)) = (la.length : Int) + (lb.length : Int) := IntWalk.i64_in _ (by omega)
    by_cases h64 : 64 < la.length + lb.length
    ·have i2 : (64 : Int) < (la.length : Int) + (lb.length : Int) := by omega
     go_wp2_with fail
     go_ret
     exact ⟨rfl, HB5.out⟩
    ·have i2 : ¬ (64 : Int) < (la.length : Int) + (lb.length : Int) := by omega
     have HRP := Lib.hid (rows_p (s := ls) (t := lt) (by have := HSL.out; have := HSZ.out; omega) HES.out.1 HES.out.2 (by have := HLA.out; omega))
     obtain ⟨au, hau⟩ : ∃ a, (gramP (ls ++ 10 :: lt)).2.1 = a := ⟨_, rfl⟩
     obtain ⟨eu, heu⟩ : ∃ a, (gramP (ls ++ 10 :: lt)).2.2 = a := ⟨_, rfl⟩
     have HGU := Lib.hid (show Calls Tryd.prog 5 #[.string (s ++ ⟨#[10]⟩ ++ t)] w5 fun e w' => ∃ A c ds, e = .returned (.tuple #[.agg #[.slice A ds.length c], .int .i64 (au : Int), .int .i64 (eu : Int)]) ∧ GrAt w' (gramP (ls ++ 10 :: lt)).1 A ds ∧ Below w5.heap.size w5 w' from by
      have hu : (s ++ ⟨#[10]⟩ ++ t : ByteArray).data.toList = ls ++ 10 :: lt := by rw [← HLS.out.1, ← HLS.out.2]; simp [ByteArray.data_append]
      have hus : (s ++ ⟨#[10]⟩ ++ t : ByteArray).size ≤ 281474976710656 := by
       have h1 : (s ++ ⟨#[10]⟩ ++ t : ByteArray).size = (s ++ ⟨#[10]⟩ ++ t : ByteArray).data.toList.length := Array.length_toList.symm
       rw [h1, hu]; have := HSL.out; have := HSZ.out; simp; omega
      have h := HG.out (s ++ ⟨#[10]⟩ ++ t) w5 hus (HCT.out.below HB5.out)
      rw [hu, hau, heu] at h; exact h)
     have HEU := Lib.hid (And.intro hau heu)
     clear hau heu
     go_upto_region 8 with (first
      | (go_at_call 5; (with_reducible refine HGU.out.mono ?_); rintro e w6 ⟨U, cu, lu, rfl, h1, h2⟩; have HU6 := Lib.hid h1; have HB6 := Lib.hid h2; clear h1 h2)
      | fail)
     have hb7 := bx1 w6 (.cells #[.slice U lu.length cu] 25)
     have HB7 := Lib.hid (Below.step HB6.out hb7)
     have HU := Lib.hid (HU6.out.below hb7)
     have HKU := Lib.hid (bx_new w6 (.cells #[.slice U lu.length cu] 25))
     have HA7 := Lib.hid (HA.out.below HB7.out)
     have HP7 := Lib.hid (HP.out.below HB7.out)
     have HKA7 := Lib.hid (bx_kept HB7.out HKA.out)
     have HKP7 := Lib.hid (bx_kept HB7.out HKP.out)
     have HBW := Lib.hid (Below.step HB5.out HB7.out)
     clear hb7 HB6 HU6 HA HP HKA HKP HB5 HB7 pa pb
     generalize (w6.alloc (.cells #[.slice U lu.length cu] 25)) = w7 at *
     generalize w6.heap.size = gu at *
     have HCL := Lib.hid (show ∀ w', Below w7.heap.size w7 w' → w'.cell? ⟨ga, 0, none⟩ = some (.slice A la.length c) ∧ w'.cell? ⟨gb, 0, none⟩ = some (.slice B lb.length d) ∧ w'.cell? ⟨gu, 0, none⟩ = some (.slice U lu.length cu) from fun w' hb => ⟨(blk1 (bx_kept hb HKA7.out)).1, (blk1 (bx_kept hb HKP7.out)).1, (blk1 (bx_kept hb HKU.out)).1⟩)
     have HB0' := Lib.hid (Below.refl w7.heap.size w7)
     clear e2 i2
     go_upto_region 10 with (fail)
     go_loopw [14, 15] (fun v14 v15 wr => ∃ (i : Nat) (tw : Bool), i ≤ la.length ∧ v15 = .int .i64 i ∧ v14 = .bool tw ∧ Hid (tw = true ↔ Hit la lb i) ∧ Hid (Below w7.heap.size w7 wr)) (fun _ v15 _ => la.length - (intOf v15).toNat)
     case atStart => exact ⟨0, false, by omega, rfl, rfl, Lib.hid ⟨fun h => (by cases h), fun h => absurd h (hit_0 la lb)⟩, HB0'⟩
     case round =>
      obtain ⟨i, tw, hi, rfl, rfl, HTW, HB⟩ := hrel
      obtain ⟨pa, pb, pu⟩ := HCL.out wr HB.out
      by_cases hil : i < la.length
      ·have i2 : (i : Int) < (la.length : Int) := by omega
       go_upto_region 13 with (fail)
       obtain ⟨wo, rfl⟩ : ∃ wo : World, wo = wr := ⟨_, rfl⟩
       go_loopw [14, 16] (fun v14 v16 wr => ∃ (k : Nat) (tw : Bool), k ≤ lb.length ∧ v16 = .int .i64 k ∧ v14 = .bool tw ∧ Hid (tw = true ↔ Hit2 la lb i k) ∧ Hid (Below w7.heap.size w7 wr)) (fun _ v16 _ => lb.length - (intOf v16).toNat)
       case atStart => exact ⟨0, tw, by omega, rfl, rfl, Lib.hid (HTW.out.trans (hit2_0 la lb i).symm), HB⟩
       case round =>
        obtain ⟨k, tw2, hk, rfl, rfl, HTK, HBk⟩ := hrel
        clear pa pb pu
        obtain ⟨pa, pb, pu⟩ := HCL.out wr HBk.out
        by_cases hkl : k < lb.length
        ·have i3 : (k : Int) < (lb.length : Int) := by omega
         have HST := Lib.hid (hit2_s hil hkl)
         obtain ⟨ba, oa, rfl, _, _, x0, _, _⟩ := dfRow (HA7.out.row.below HBk.out) i hil
         obtain ⟨bb, ob, rfl, _, _, y0, _, _⟩ := dfRow (HP7.out.row.below HBk.out) k hkl
         generalize la[i].name = x at *
         generalize lb[k].name = y at *
         go_upto_region 15 with (fail)
         cases tw2
         ·by_cases hxy : x = y
          ·subst hxy
           go_quiet (fail)
           go_wp2_with fail
           refine ⟨⟨k + 1, true, by omega, by go_num, rfl, Lib.hid ⟨fun _ => HST.out.2 (.inr rfl), fun _ => rfl⟩, Lib.hid (Below.drewN'' HBk.out nq)⟩, by simp only [intOf]; omega⟩
          ·have HXY := Lib.hid hxy
           have q2 : (x.toList == y.toList) = false := by
            rw [beq_eq_false_iff_ne]
            exact fun e => hxy (toListJ e)
           go_quiet (fail)
           go_wp2_with fail
           refine ⟨⟨k + 1, false, by omega, by go_num, rfl, Lib.hid ⟨fun h => (by cases h), fun h => ((HST.out.1 h).elim (fun h => HTK.out.2 h) (fun h => absurd h HXY.out))⟩, Lib.hid (Below.drewN'' HBk.out nq)⟩, by simp only [intOf]; omega⟩
         ·go_quiet (fail)
          go_wp2_with fail
          refine ⟨⟨k + 1, true, by omega, by go_num, rfl, Lib.hid ⟨fun _ => HST.out.2 (.inl (HTK.out.1 rfl)), fun _ => rfl⟩, Lib.hid (Below.drewN'' HBk.out nq)⟩, by simp only [intOf]; omega⟩
        ·obtain rfl : k = lb.length := by omega
         have i3 : ¬ (lb.length : Int) < (lb.length : Int) := by omega
         go_wp2_with fail
         refine ⟨⟨i + 1, tw2, by omega, by go_num, rfl, Lib.hid (HTK.out.trans (hit2_end hil)), HBk⟩, by simp only [intOf]; omega⟩
      ·obtain rfl : i = la.length := by omega
       have i2 : ¬ (la.length : Int) < (la.length : Int) := by omega
       have HTE := Lib.hid (HTW.out.trans (hit_all HA7.out.df HP7.out.df))
       cases tw
       ·have hno : ¬ ∃ x ∈ (gramP ls).1, ∃ y ∈ (gramP lt).1, x.name = y.name := fun h => by have := HTE.out.2 h; cases this
        have hg := HRP.out.2 hno
        have hau : au = 0 := by rw [← HEU.out.1, hg]
        have heu : eu = 0 := by rw [← HEU.out.2, hg]
        subst hau heu
        have HGG := Lib.hid hg
        have hul : lu.length = la.length + lb.length := by
         have h1 := congrArg List.length HU.out.df
         rw [List.length_map, hg] at h1
         rw [h1, ← HA7.out.df, ← HP7.out.df]; simp
        have HUL := Lib.hid hul
        have e2 : IntKind.i64.wrap ((la.length : Int) + (lb.length : Int)) = (la.length : Int) + (lb.length : Int) := IntWalk.i64_in _ (by omega)
        have e3 : (lu.length : Int) = (la.length : Int) + (lb.length : Int) := by omega
        clear hno hg
        go_upto_region 21 with (fail)
        obtain ⟨wo, rfl⟩ : ∃ wo : World, wo = wr := ⟨_, rfl⟩
        go_loopw [17] (fun v17 wr => ∃ q : Nat, q ≤ lu.length ∧ v17 = .int .i64 q ∧ Hid (Below w7.heap.size w7 wr)) (fun v17 _ => lu.length - (intOf v17).toNat)
        case atStart => exact ⟨0, by omega, rfl, HB⟩
        case round =>
         clear pa pb pu
         obtain ⟨q, hq, rfl, HBq⟩ := hrel
         obtain ⟨pa, pb, pu⟩ := HCL.out wr HBq.out
         by_cases hql : q < lu.length
         ·have i3 : (q : Int) < (la.length : Int) + (lb.length : Int) := by omega
          have i3' : (q : Int) < (lu.length : Int) := by omega
          obtain ⟨bu, ou, rfl, _, _, u0, u1, u2⟩ := dfRow (HU.out.row.below HBq.out) q hql
          have hdfl := HU.out.df
          rw [HGG.out, ← HA7.out.df, ← HP7.out.df, ← List.map_append] at hdfl
          have hdq : (lu.map Ld.df)[q]? = ((la ++ lb).map Ld.df)[q]? := by rw [hdfl]
          by_cases hil : q < la.length
          ·have hdf : lu[q].df = la[q].df := by
            simp only [List.getElem?_map, List.getElem?_eq_getElem hql, List.getElem?_append_left hil, List.getElem?_eq_getElem hil, Option.map_some, Option.some.injEq] at hdq
            exact hdq
           have hright := gram_right (s := ls) (by have := HSL.out; have := HSZ.out; omega) HES.out.1
           have i5 : (q : Int) < (la.length : Int) := by omega
           clear hdq hdfl
           obtain ⟨bx, ox, rfl, _, _, y0, y1, y2⟩ := dfRow (HA7.out.row.below HBq.out) q hil
           have hnm : lu[q].name = la[q].name := congrArg Df.name hdf
           have hbd : lu[q].t.tr = la[q].t.tr := congrArg Df.body hdf
           have HRI := Lib.hid (show rightT la[q].t.tr = true from hright _ (HA7.out.df ▸ List.mem_map_of_mem (List.getElem_mem hil)))
           have HIU := Lib.hid (((HU.out.row.below HBq.out).2 _ (List.getElem_mem hql)).2)
           have HIX := Lib.hid (((HA7.out.row.below HBq.out).2 _ (List.getElem_mem hil)).2)
           have hlu := HU.out.len _ (List.getElem_mem hql)
           have hlx := HA7.out.len _ (List.getElem_mem hil)
           rw [hnm] at u0
           clear hnm hdf hright
           generalize la[q] = dx at *
           generalize lu[q] = du at *
           obtain ⟨xn, ⟨xA, xc, xls, xr⟩⟩ := dx
           obtain ⟨un, ⟨uA, uc, uls, ur⟩⟩ := du
           simp only at u0 u1 u2 y0 y1 y2 hlu hlx
           have l1 : ga < wr.heap.size := cellLt pa
           have l2 : gb < wr.heap.size := cellLt pb
           have l3 : gu < wr.heap.size := cellLt pu
           have l4 : bx < wr.heap.size := cellLt y0
           go_upto_region 27 with (fail)
           clear l1 l2 l3 l4
           have hbw := bx1 wr (.cells #[.string xn, .slice xA xls.length xc, .int .i64 xr] 33)
           have HKW := Lib.hid (bx_new wr (.cells #[.string xn, .slice xA xls.length xc, .int .i64 xr] 33))
           have HBZ := Lib.hid (Below.step HBq.out hbw)
           have HSM := Lib.hid (show ∀ w', Below wr.heap.size wr w' → CntTab w' → Calls Tryd.prog 6 #[.agg #[.slice uA uls.length uc, .int .i64 ur], .agg #[.slice xA xls.length xc, .int .i64 xr]] w' fun e w'' => e = .returned (.bool true) ∧ Below w'.heap.size w' w'' from fun w' hb hct => by
            have h3 := tsame_any uA xA uc xc uls xls ur xr _ _ w' (HIU.out.below hb).2 (HIX.out.below hb).2 (by omega) (by omega) hct
            have e : sameT ⟨uls.map Ln.nd, ur⟩ ⟨xls.map Ln.nd, xr⟩ = true := by
             have e1 : (⟨uls.map Ln.nd, ur⟩ : Tr) = ⟨xls.map Ln.nd, xr⟩ := hbd
             rw [e1]; exact sameT_refl HRI.out
            rw [e] at h3; exact h3)
           have HSM2 := Lib.hid (show ∀ w', Below (wr.alloc (.cells #[.string xn, .slice xA xls.length xc, .int .i64 xr] 33)).heap.size (wr.alloc (.cells #[.string xn, .slice xA xls.length xc, .int .i64 xr] 33)) w' → Calls Tryd.prog 6 #[.agg #[.slice uA uls.length uc, .int .i64 ur], .agg #[.slice xA xls.length xc, .int .i64 xr]] w' fun e w'' => e = .returned (.bool true) ∧ Below w'.heap.size w' w'' from fun w' hb => HSM.out w' (Below.step hbw hb) (HCT.out.below (Below.step HBW.out (Below.step HBZ.out hb))))
           have HSC := Lib.hid (show ∀ w', Below (wr.alloc (.cells #[.string xn, .slice xA xls.length xc, .int .i64 xr] 33)).heap.size (wr.alloc (.cells #[.string xn, .slice xA xls.length xc, .int .i64 xr] 33)) w' → w'.cell? ⟨gu, 0, none⟩ = some (.slice (some ⟨bu, ou, none⟩) lu.length cu) ∧ w'.cell? ⟨bu, ou + (q) * 3, none⟩ = some (.string xn) ∧ w'.cell? ⟨bu, ou + (q) * 3 + 1, none⟩ = some (.slice uA uls.length uc) ∧ w'.cell? ⟨bu, ou + (q) * 3 + 2, none⟩ = some (.int .i64 ur) ∧ w'.cell? ⟨wr.heap.size, 0, none⟩ = some (.string xn) ∧ w'.cell? ⟨wr.heap.size, 1, none⟩ = some (.slice xA xls.length xc) ∧ w'.cell? ⟨wr.heap.size, 2, none⟩ = some (.int .i64 xr) from fun w' hb => by
            have hbb := Below.step hbw hb
            obtain ⟨z0, z1, z2⟩ := blk3' (bx_kept hb HKW.out)
            exact ⟨(HCL.out w' (Below.step HBq.out hbb)).2.2, (hbb.cell (cellLt u0)).trans u0, (hbb.cell (cellLt u1)).trans u1, (hbb.cell (cellLt u2)).trans u2, z0, z1, z2⟩)
           clear pa pb pu u0 u1 u2 y0 y1 y2 HSM HIU HIX hbw HKW hbd
           generalize hwz : (wr.alloc (.cells #[.string xn, .slice xA xls.length xc, .int .i64 xr] 33)) = wz at *
           generalize wr.heap.size = bz at *
           clear hwz
           have HC := Lib.hid (Below.refl wz.heap.size wz)
           go_region_held3 (fun w' => w'.cell? ⟨gu, 0, none⟩ = some (.slice (some ⟨bu, ou, none⟩) lu.length cu) ∧ w'.cell? ⟨bu, ou + (q) * 3, none⟩ = some (.string xn) ∧ w'.cell? ⟨bu, ou + (q) * 3 + 1, none⟩ = some (.slice uA uls.length uc) ∧ w'.cell? ⟨bu, ou + (q) * 3 + 2, none⟩ = some (.int .i64 ur) ∧ w'.cell? ⟨bz, 0, none⟩ = some (.string xn) ∧ w'.cell? ⟨bz, 1, none⟩ = some (.slice xA xls.length xc) ∧ w'.cell? ⟨bz, 2, none⟩ = some (.int .i64 xr))
            (exact HSC.out _ (by first | exact HC.out | exact HC.out.drew))
            (first
             | (go_at_call 6; (with_reducible refine (HSM2.out _ (by first | exact HC.out | exact HC.out.drew)).mono ?_); rintro e wx ⟨rfl, hb⟩; have HC' := Lib.hid (Below.step (by first | exact HC.out | exact HC.out.drew) hb); clear HC; have HC := HC'; clear HC' hb)
             | fail)
           all_goals
            go_wp2_with fail
            exact ⟨⟨q + 1, by omega, by go_num, Lib.hid (Below.step HBZ.out HC.out)⟩, by simp only [intOf]; omega⟩
          ·obtain ⟨p, hp⟩ : ∃ p, q = la.length + p := ⟨q - la.length, by omega⟩
           have i5 : ¬ (q : Int) < (la.length : Int) := by omega
           clear hil
           have hil : p < lb.length := by omega
           have hdf : lu[q].df = lb[p].df := by
            rw [List.getElem?_map, List.getElem?_map, List.getElem?_eq_getElem hql, List.getElem?_append_right (by omega), show q - la.length = p by omega, List.getElem?_eq_getElem hil] at hdq
            exact Option.some.inj hdq
           have hright := gram_right (s := lt) (by have := HSL.out; have := HSZ.out; omega) HES.out.2
           have e5 : IntKind.i64.wrap ((q : Int) - (la.length : Int)) = (p : Int) := by rw [IntWalk.i64_in _ (by omega)]; omega
           have i6 : (p : Int) < (lb.length : Int) := by omega
           clear hdq hdfl hp
           obtain ⟨bx, ox, rfl, _, _, y0, y1, y2⟩ := dfRow (HP7.out.row.below HBq.out) p hil
           have hnm : lu[q].name = lb[p].name := congrArg Df.name hdf
           have hbd : lu[q].t.tr = lb[p].t.tr := congrArg Df.body hdf
           have HRI := Lib.hid (show rightT lb[p].t.tr = true from hright _ (HP7.out.df ▸ List.mem_map_of_mem (List.getElem_mem hil)))
           have HIU := Lib.hid (((HU.out.row.below HBq.out).2 _ (List.getElem_mem hql)).2)
           have HIX := Lib.hid (((HP7.out.row.below HBq.out).2 _ (List.getElem_mem hil)).2)
           have hlu := HU.out.len _ (List.getElem_mem hql)
           have hlx := HP7.out.len _ (List.getElem_mem hil)
           rw [hnm] at u0
           clear hnm hdf hright
           generalize lb[p] = dx at *
           generalize lu[q] = du at *
           obtain ⟨xn, ⟨xA, xc, xls, xr⟩⟩ := dx
           obtain ⟨un, ⟨uA, uc, uls, ur⟩⟩ := du
           simp only at u0 u1 u2 y0 y1 y2 hlu hlx
           have l1 : ga < wr.heap.size := cellLt pa
           have l2 : gb < wr.heap.size := cellLt pb
           have l3 : gu < wr.heap.size := cellLt pu
           have l4 : bx < wr.heap.size := cellLt y0
           go_upto_region 27 with (fail)
           clear l1 l2 l3 l4
           have hbw := bx1 wr (.cells #[.string xn, .slice xA xls.length xc, .int .i64 xr] 33)
           have HKW := Lib.hid (bx_new wr (.cells #[.string xn, .slice xA xls.length xc, .int .i64 xr] 33))
           have HBZ := Lib.hid (Below.step HBq.out hbw)
           have HSM := Lib.hid (show ∀ w', Below wr.heap.size wr w' → CntTab w' → Calls Tryd.prog 6 #[.agg #[.slice uA uls.length uc, .int .i64 ur], .agg #[.slice xA xls.length xc, .int .i64 xr]] w' fun e w'' => e = .returned (.bool true) ∧ Below w'.heap.size w' w'' from fun w' hb hct => by
            have h3 := tsame_any uA xA uc xc uls xls ur xr _ _ w' (HIU.out.below hb).2 (HIX.out.below hb).2 (by omega) (by omega) hct
            have e : sameT ⟨uls.map Ln.nd, ur⟩ ⟨xls.map Ln.nd, xr⟩ = true := by
             have e1 : (⟨uls.map Ln.nd, ur⟩ : Tr) = ⟨xls.map Ln.nd, xr⟩ := hbd
             rw [e1]; exact sameT_refl HRI.out
            rw [e] at h3; exact h3)
           have HSM2 := Lib.hid (show ∀ w', Below (wr.alloc (.cells #[.string xn, .slice xA xls.length xc, .int .i64 xr] 33)).heap.size (wr.alloc (.cells #[.string xn, .slice xA xls.length xc, .int .i64 xr] 33)) w' → Calls Tryd.prog 6 #[.agg #[.slice uA uls.length uc, .int .i64 ur], .agg #[.slice xA xls.length xc, .int .i64 xr]] w' fun e w'' => e = .returned (.bool true) ∧ Below w'.heap.size w' w'' from fun w' hb => HSM.out w' (Below.step hbw hb) (HCT.out.below (Below.step HBW.out (Below.step HBZ.out hb))))
           have HSC := Lib.hid (show ∀ w', Below (wr.alloc (.cells #[.string xn, .slice xA xls.length xc, .int .i64 xr] 33)).heap.size (wr.alloc (.cells #[.string xn, .slice xA xls.length xc, .int .i64 xr] 33)) w' → w'.cell? ⟨gu, 0, none⟩ = some (.slice (some ⟨bu, ou, none⟩) lu.length cu) ∧ w'.cell? ⟨bu, ou + (q) * 3, none⟩ = some (.string xn) ∧ w'.cell? ⟨bu, ou + (q) * 3 + 1, none⟩ = some (.slice uA uls.length uc) ∧ w'.cell? ⟨bu, ou + (q) * 3 + 2, none⟩ = some (.int .i64 ur) ∧ w'.cell? ⟨wr.heap.size, 0, none⟩ = some (.string xn) ∧ w'.cell? ⟨wr.heap.size, 1, none⟩ = some (.slice xA xls.length xc) ∧ w'.cell? ⟨wr.heap.size, 2, none⟩ = some (.int .i64 xr) from fun w' hb => by
            have hbb := Below.step hbw hb
            obtain ⟨z0, z1, z2⟩ := blk3' (bx_kept hb HKW.out)
            exact ⟨(HCL.out w' (Below.step HBq.out hbb)).2.2, (hbb.cell (cellLt u0)).trans u0, (hbb.cell (cellLt u1)).trans u1, (hbb.cell (cellLt u2)).trans u2, z0, z1, z2⟩)
           clear pa pb pu u0 u1 u2 y0 y1 y2 HSM HIU HIX hbw HKW hbd
           generalize hwz : (wr.alloc (.cells #[.string xn, .slice xA xls.length xc, .int .i64 xr] 33)) = wz at *
           generalize wr.heap.size = bz at *
           clear hwz
           have HC := Lib.hid (Below.refl wz.heap.size wz)
           go_region_held3 (fun w' => w'.cell? ⟨gu, 0, none⟩ = some (.slice (some ⟨bu, ou, none⟩) lu.length cu) ∧ w'.cell? ⟨bu, ou + (q) * 3, none⟩ = some (.string xn) ∧ w'.cell? ⟨bu, ou + (q) * 3 + 1, none⟩ = some (.slice uA uls.length uc) ∧ w'.cell? ⟨bu, ou + (q) * 3 + 2, none⟩ = some (.int .i64 ur) ∧ w'.cell? ⟨bz, 0, none⟩ = some (.string xn) ∧ w'.cell? ⟨bz, 1, none⟩ = some (.slice xA xls.length xc) ∧ w'.cell? ⟨bz, 2, none⟩ = some (.int .i64 xr))
            (exact HSC.out _ (by first | exact HC.out | exact HC.out.drew))
            (first
             | (go_at_call 6; (with_reducible refine (HSM2.out _ (by first | exact HC.out | exact HC.out.drew)).mono ?_); rintro e wx ⟨rfl, hb⟩; have HC' := Lib.hid (Below.step (by first | exact HC.out | exact HC.out.drew) hb); clear HC; have HC := HC'; clear HC' hb)
             | fail)
           all_goals
            go_wp2_with fail
            exact ⟨⟨q + 1, by omega, by go_num, Lib.hid (Below.step HBZ.out HC.out)⟩, by simp only [intOf]; omega⟩
         ·obtain rfl : q = lu.length := by omega
          have i3 : ¬ (lu.length : Int) < (lu.length : Int) := by omega
          go_wp2_with fail
          go_ret
          exact ⟨rfl, Below.step HBW.out HBq.out⟩
       ·obtain ⟨h6, hlt⟩ := HRP.out.1 (HTE.out.1 rfl)
        rw [HEU.out.2] at h6
        rw [HEU.out.1, HSL.out.1] at hlt
        subst h6
        have i4 : (s.size : Int) < (au : Int) := by omega
        go_wp2_with fail
        go_ret
        exact ⟨rfl, Below.step HBW.out HB.out⟩
   ·have i2 : ((et : Int) == 0) = false := by simp; omega
    go_wp2_with fail
    go_ret
    exact ⟨rfl, HB5.out⟩
  ·have i2 : ((es : Int) == 0) = false := by simp; omega
   go_wp2_with fail
   go_ret
   exact ⟨rfl, HB5.out⟩
end Go.Proofs.YtpfokabdpmjobaaDoor
