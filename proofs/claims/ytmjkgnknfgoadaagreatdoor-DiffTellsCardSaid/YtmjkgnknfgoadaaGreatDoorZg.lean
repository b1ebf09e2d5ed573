/- The contract of diff.Report. -/
import Derived.Test.YtmjkgnknfgoadaaGreatDoorNr
import Derived.Test.YtmjkgnknfgoadaaGreatDoorEm
import Derived.Test.YtmjkgnknfgoadaaGreatDoorIh
import Derived.Test.YtmjkgnknfgoadaaGreatDoorQp
namespace Go.Proofs.YtmjkgnknfgoadaaGreatDoor
open Go.RowKit
set_option linter.unusedSimpArgs false
set_option linter.unusedVariables false
def Plain (w : World) (x : Nat) : Prop := ∃ cs T, w.heap[x]? = some (.cells cs T (0, 0)) ∧ T ≠ 117 ∧ T ≠ 5
theorem plain_keeps {w w' : World} (h : Keeps w w') : Agree (Plain w) w w' := fun x ⟨cs, T, hx, h1, h2⟩ _ => (h x cs T (0, 0) hx h1 h2).trans hx.symm
theorem own_plain {w : World} {S : Nat → Prop} {e : TypeId} {size n c : Nat} {V : Option Addr} {xs : List Value} (h : OwnS w S e size V n c xs) (h1 : e ≠ 117) (h2 : e ≠ 5) : OwnS w (Plain w) e size V n c xs :=
  ⟨h.1, fun k hk => by
    rcases h.1.2 with ⟨hv, _⟩ | ⟨g, cap, cur, hv, hb, hh, _⟩
    · cases hv; cases hk
    · cases hv; cases hk; exact ⟨cur, e, hh, h1, h2⟩⟩
theorem tree_plain {w : World} {S : Nat → Prop} {t : Lt} (h : TreeOwn w S t) : TreeOwn w (Plain w) t :=
  ⟨h.len, own_plain h.row (by decide) (by decide), fun l hl => ⟨(h.kids l hl).1, own_plain (h.kids l hl).2 (by decide) (by decide)⟩⟩
theorem eds_plain {w : World} {S : Nat → Prop} {A : Option Addr} {c : Nat} {es : List Le} (h : EdsOwn w S A c es) : edL.row w (Plain w) A es := by
  obtain ⟨Q, h1, h2, _⟩ := h.kids
  refine ⟨(own_plain h.row (by decide) (by decide)).row, fun d hd => ?_⟩
  obtain ⟨i, hi, rfl⟩ := List.mem_iff_getElem.1 hd
  exact ⟨(h1 i hi).1, (h1 i hi).2.1, (tree_plain (h1 i hi).2.2).inn⟩
theorem below_keeps {w w' : World} (hb : Below w.heap.size w w') : Keeps w w' := fun k _ _ _ h _ _ => (hb.block k (Array.getElem?_eq_some_iff.1 h).1).trans h
theorem bx_new2 (w : World) {xs ys : Array Value} {S T : TypeId} : ((w.alloc (.cells xs S)).alloc (.cells ys T)).heap[w.heap.size + 1]? = some (.cells ys T (0, 0)) := by
  have h := bx_new (w.alloc (.cells xs S)) (.cells ys T)
  rwa [World.size_alloc] at h
theorem set3h {wr W : World} {o : Obj} {x0 y0 z0 : Value} (h0 : W.heap[wr.heap.size]? = some o) (hh : W.heap[wr.heap.size + 1]? = some (.cells #[x0, y0, z0] 50 (0, 0))) (hb : Below wr.heap.size wr W) (x y z : Value) :
    (((W.setCell ⟨wr.heap.size + 1, 0, none⟩ x).setCell ⟨wr.heap.size + 1, 1, none⟩ y).setCell ⟨wr.heap.size + 1, 2, none⟩ z).drew.heap[wr.heap.size]? = some o ∧ (((W.setCell ⟨wr.heap.size + 1, 0, none⟩ x).setCell ⟨wr.heap.size + 1, 1, none⟩ y).setCell ⟨wr.heap.size + 1, 2, none⟩ z).drew.heap[wr.heap.size + 1]? = some (.cells #[x, y, z] 50 (0, 0)) ∧ Below wr.heap.size wr (((W.setCell ⟨wr.heap.size + 1, 0, none⟩ x).setCell ⟨wr.heap.size + 1, 1, none⟩ y).setCell ⟨wr.heap.size + 1, 2, none⟩ z).drew := by
  have hne : wr.heap.size ≠ wr.heap.size + 1 := by omega
  have e1 := heap_setCell_same W (wr.heap.size + 1) 0 _ 50 x hh
  have e2 := heap_setCell_same _ (wr.heap.size + 1) 1 _ 50 y e1
  have e3 := heap_setCell_same _ (wr.heap.size + 1) 2 _ 50 z e2
  refine ⟨((Below.heap_setCell _ _ _ _ hne).trans ((Below.heap_setCell _ _ _ _ hne).trans (Below.heap_setCell _ _ _ _ hne))).trans h0, (by simp at e3; exact e3), ?_⟩
  exact (((hb.setCell (p := ⟨wr.heap.size + 1, 0, none⟩) (by show wr.heap.size ≤ wr.heap.size + 1; omega) _).setCell (p := ⟨wr.heap.size + 1, 1, none⟩) (by show wr.heap.size ≤ wr.heap.size + 1; omega) _).setCell (p := ⟨wr.heap.size + 1, 2, none⟩) (by show wr.heap.size ≤ wr.heap.size + 1; omega) _).drew
theorem defB_smallB {l : List Ld} (h : SmallG l) : ∀ d ∈ l.map Ld.df, (defB d).length ≤ 2400000037 := fun d hd => by
  obtain ⟨x, hx, rfl⟩ := List.mem_map.1 hd
  have h1 := defB_len x.df
  have h2 : x.df.body.nodes.length ≤ 500 := by simpa [Ld.df, Lt.tr] using (h.2 x hx).1
  omega
def RepRel (w w3 : World) (H : Nat) (a b : List Df) (es : List Le) (i at_ : Value) (wr : World) : Prop :=
  ∃ (k p : Nat) (out : List UInt8), k ≤ es.length ∧ i = .int .i64 k ∧ at_ = .int .i64 p ∧ Hid (RepSt a b (es.map Le.ed) k p out) ∧ Hid (IsB H H out wr) ∧ Hid (Keeps w3 wr) ∧ Hid (Below H w wr) ∧ Hid (H + 1 ≤ wr.heap.size)
set_option maxRecDepth 100000 in
set_option maxHeartbeats 6400000 in
theorem report_any (la lb : List Ld) (A B : Option Addr) (c d : Nat) (S T : Nat → Prop) (w : World) (hA : dfL.row w S A la) (hB : dfL.row w T B lb) (h1 : SmallG la) (h2 : SmallG lb) (hp : PTabs w) :
    Calls Tryz.prog 30 #[.agg #[.slice A la.length c], .agg #[.slice B lb.length d]] w (TextPost (repG (la.map Ld.df) (lb.map Ld.df)) w) := by
  have HTA := Lib.hid hA; have HTB := Lib.hid hB; have HP := Lib.hid hp
  have HBA := Lib.hid (defB_smallB h1); have HBB := Lib.hid (defB_smallB h2)
  have hl := h1.1; have hm := h2.1
  have HSA := Lib.hid h1.2; have HSB0 := Lib.hid h2.2
  have HN0 := Lib.hid (show (ofL (la.map Ld.df) (lb.map Ld.df)).length ≤ 1000 from by
    have := of_counts _ (la.map Ld.df) (lb.map Ld.df) (Nat.le_refl _)
    simp only [List.length_map] at this
    omega)
  clear hA hB hp h1 h2
  unfold TextPost repG
  have HM1 := Lib.hid (show ∀ w', Below w.heap.size w w' → Calls Tryz.prog 14 #[.agg #[.slice A la.length c]] w' fun e w'' => e = .returned (.int .i64 (mayG (la.map Ld.df))) ∧ Below w'.heap.size w' w'' from fun w' hb => gmay_any A c la S w' (HTA.out.below hb) (by omega) (fun d hd => by have := (HSA.out d hd).1; omega) (HP.out.below hb))
  have HM2 := Lib.hid (show ∀ w', Below w.heap.size w w' → Calls Tryz.prog 14 #[.agg #[.slice B lb.length d]] w' fun e w'' => e = .returned (.int .i64 (mayG (lb.map Ld.df))) ∧ Below w'.heap.size w' w'' from fun w' hb => gmay_any B d lb T w' (HTB.out.below hb) (by omega) (fun d hd => by have := (HSB0.out d hd).1; omega) (HP.out.below hb))
  generalize mayG (la.map Ld.df) = ma at *
  generalize mayG (lb.map Ld.df) = mb at *
  go_enter Tryz.func30, Tryz.ntmps30
  have HB0 := Lib.hid (bx2 w (.cells #[.slice A la.length c] 24) (.cells #[.slice B lb.length d] 24))
  have HKA := Lib.hid (bx_old (p := .cells #[.slice B lb.length d] 24) (bx_new w (.cells #[.slice A la.length c] 24)))
  have HKB := Lib.hid (show ((w.alloc (.cells #[.slice A la.length c] 24)).alloc (.cells #[.slice B lb.length d] 24)).heap[w.heap.size + 1]? = some (.cells #[.slice B lb.length d] 24 (0, 0)) from by
    have h := bx_new (w.alloc (.cells #[.slice A la.length c] 24)) (.cells #[.slice B lb.length d] 24)
    rwa [World.size_alloc] at h)
  by_cases h1 : ma = 0
  · have e1 : (ma != 0) = false := by simp [h1]
    by_cases h2 : mb = 0
    · have e2 : (mb != 0) = false := by simp [h2]
      rw [if_pos ⟨h1, h2⟩]
      clear h1 h2
      go_wp2_with (first
        | (go_at_call 14; (with_reducible refine (HM1.out _ HB0.out).mono ?_); rintro e w1 ⟨rfl, hb⟩; have HB1 := Lib.hid (Below.step HB0.out hb); have HK1 := Lib.hid (bx_kept hb HKA.out); have HK2 := Lib.hid (bx_kept hb HKB.out); clear hb; obtain ⟨p0, _⟩ := blk1 HK1.out; obtain ⟨q0, _⟩ := blk1 HK2.out)
        | (go_at_call 14; (with_reducible refine (HM2.out _ HB1.out).mono ?_); rintro e w2 ⟨rfl, hb⟩; have HB2 := Lib.hid (Below.step HB1.out hb); have HK3 := Lib.hid (bx_kept hb HK1.out); have HK4 := Lib.hid (bx_kept hb HK2.out); clear hb p0 q0; obtain ⟨p0, _⟩ := blk1 (bx_old (p := .cells #[.pointer none, .slice none 0 0] 117) HK3.out); obtain ⟨q0, _⟩ := blk1 (bx_old (p := .cells #[.pointer none, .slice none 0 0] 117) HK4.out); have HI2 := Lib.hid (IsB.new w2 (Nat.le_refl _)); have HB2' := Lib.hid (Below.step HB2.out (bx1 w2 (.cells #[.pointer none, .slice none 0 0] 117))))
        | (go_at_call 24; refine (of_any la lb A B c d S T _ (HTA.out.below HB2'.out) (HTB.out.below HB2'.out) (by omega) (by omega) (fun x hx => by have := (HSA.out x hx).1; omega) (fun x hx => (HSB0.out x hx).mod) (HP.out.below HB2'.out).cn).mono ?_; rintro e w3 ⟨V, vc, es, rfl, hes, heo, hb⟩; have HES := Lib.hid hes; have HRW := Lib.hid (eds_plain heo); have HI3 := Lib.hid (HI2.out.below hb); have HB3 := Lib.hid (Below.step HB2'.out hb); have HK5 := Lib.hid (bx_kept hb (bx_old HK3.out)); have HZ3 := Lib.hid (show w2.heap.size + 1 ≤ w3.heap.size from by have := hb.size; simpa using this); have HB33 := Lib.hid (show Below w2.heap.size w2 w3 from Below.step (bx1 w2 _) hb); clear hes heo hb p0 q0)
        | fail)
      have hes := HES.out
      have HEN := Lib.hid (show es.length ≤ 1000 from by
        have h := HN0.out
        rw [← hes] at h
        simpa only [List.length_map] using h)
      have HST := Lib.hid (RepSt.start hes)
      clear hes HM1 HM2 HN0
      go_loopw [6, 23] (fun at_ i wr => RepRel w2 w3 w2.heap.size (la.map Ld.df) (lb.map Ld.df) es i at_ wr) (fun _ i _ => es.length - (intOf i).toNat)
      case atStart => exact ⟨0, 0, [], Nat.zero_le _, rfl, rfl, HST, HI3, Lib.hid (fun _ _ _ _ h _ _ => h), HB33, HZ3⟩
      case round =>
        clear HST
        obtain ⟨k, p, out, hk, rfl, rfl, HS, HI, HKP, HB, HZ⟩ := hrel
        have HBR := Lib.hid (Below.step HB2.out HB.out)
        by_cases hlt : k < es.length
        · have i1 : (k : Int) < (es.length : Int) := by omega
          have i2 : (0 : Int) ≤ (k : Int) := by omega
          have HKW := Lib.hid (show ∀ w', Below wr.heap.size wr w' → w'.heap[w.heap.size]? = some (.cells #[.slice A la.length c] 24 (0, 0)) from fun w' hb => (((HB.out.trans (hb.mono (by have := HZ.out; omega))).block _ (heap_lt' HK3.out)).trans HK3.out))
          have HRX := Lib.hid (show edL.row wr (Plain w3) V es from HRW.out.agree (plain_keeps HKP.out))
          obtain ⟨vb, vo, rfl, _, _, x0, x1, x2, x3⟩ := edRow HRX.out k hlt
          have HLO := Lib.hid HS.out.len
          have hstep := HS.out.step (by simpa using hlt) HBA.out HBB.out
          simp only [List.getElem_map, List.length_map] at hstep
          go_upto_region 8 with (fail)
          have HSB := Lib.hid (HRX.out.sub k hlt)
          have HSB2 := Lib.hid (show ∀ w', Keeps w3 w' → edL.inn w' (Plain w3) es[k] from fun w' hk => (HRW.out.agree (plain_keeps hk)).sub k hlt)
          have HSM := Lib.hid (show es[k].ed ∈ ofL (la.map Ld.df) (lb.map Ld.df) from by rw [← HES.out]; exact List.mem_map_of_mem (List.getElem_mem hlt))
          generalize es[k] = ee at *
          obtain ⟨kd, ⟨nm, ⟨dA, dc, dl, dr⟩⟩⟩ := ee
          simp only [Le.ed, Ld.df, Lt.tr] at x0 x1 x2 x3 hstep HSB HSM
          go_cut [9, 10] (fun v9 v10 wx => v9 = .string ⟨#[43, 32]⟩ ∧ v10 = .pointer (some ⟨wr.heap.size + 1, 0, none⟩) ∧ Hid (wx.heap[wr.heap.size]? = some (.cells #[.int .u8 kd, .string nm, .slice dA dl.length dc, .int .i64 dr] 52 (0, 0)) ∧ wx.heap[wr.heap.size + 1]? = some (.cells #[.string nm, .slice dA dl.length dc, .int .i64 dr] 50 (0, 0))) ∧ Hid (Below wr.heap.size wr wx))
          case first =>
            obtain ⟨a0, a1, a2, a3⟩ := blk4 (bx_new wr (.cells #[.int .u8 kd, .string nm, .slice dA dl.length dc, .int .i64 dr] 52))
            obtain ⟨b0, b1, b2, b3⟩ := blk4 (bx_old (p := .cells #[.string ByteArray.empty, .slice none 0 0, .int .i64 0] 50) (bx_new wr (.cells #[.int .u8 kd, .string nm, .slice dA dl.length dc, .int .i64 dr] 52)))
            go_region
            all_goals (try go_wp2_with fail)
            all_goals go_meet
            exact ⟨rfl, rfl, Lib.hid ⟨bx_old (bx_new wr _), bx_new2 wr⟩, Lib.hid (bx2 wr _ _).drew⟩
          case rest =>
            obtain ⟨rfl, rfl, HKE, HBC⟩ := hcut
            rcases hstep with ⟨h1, hp, h2⟩ | ⟨h1, hp, h2⟩ | ⟨h1, h2, h3⟩
            · obtain rfl : kd = 0 := h1
              have hp' : p < la.length := by simpa using hp
              have j1 : (p : Int) < (la.length : Int) := by omega
              have j2 : (0 : Int) ≤ (p : Int) := by omega
              have e6 : IntKind.i64.wrap ((p : Int) + 1) = (p : Int) + 1 := IntWalk.i64_in _ (by omega)
              have HBW := Lib.hid (Below.step HBR.out HBC.out)
              obtain ⟨ab, ao, rfl, _, _, y0, y1, y2⟩ := dfRow (HTA.out.agree (below_all HBW.out)) p hp'
              obtain ⟨q0, _⟩ := blk1 (HKW.out wc HBC.out)
              have HDA := Lib.hid (show ∀ w', Below w2.heap.size w2 w' → Keeps w3 w' → Calls Tryz.prog 80 #[.agg #[.string la[p].name, .slice la[p].t.A la[p].t.ls.length la[p].t.c, .int .i64 la[p].t.root]] w' (TextPost (defB la[p].df) w') from fun w' hb _ => def_any la[p] S w' (dfSub (HTA.out.agree (below_all (Below.step HB2.out hb))) p hp') (by have := (HSA.out _ (List.getElem_mem hp')).1; omega) (HTA.out.sub p hp').1 (HP.out.below (Below.step HB2.out hb)))
              have hdl := HBA.out (la[p].df) (List.mem_map_of_mem (List.getElem_mem hp'))
              have H2 := Lib.hid (show RepSt (la.map Ld.df) (lb.map Ld.df) (es.map Le.ed) (k + 1) (p + 1) (out ++ [32, 32] ++ defB la[p].df) from h2)
              clear hp h2
              generalize defB la[p].df = db at *
              generalize la[p] = dp at *
              obtain ⟨pn, ⟨pA, pc, pl, pr⟩⟩ := dp
              simp only at y0 y1 y2 HDA
              obtain ⟨a0, a1, a2, a3⟩ := blk4 HKE.out.1
              obtain ⟨b0, b1, b2, b3, b4, b5⟩ := blk3f HKE.out.2
              go_upto_region 10 with (fail)
              go_cut [9] (fun v9 wx => v9 = .string ⟨#[32, 32]⟩ ∧ Hid (wx.heap[wr.heap.size]? = some (.cells #[.int .u8 0, .string nm, .slice dA dl.length dc, .int .i64 dr] 52 (0, 0))) ∧ Hid (wx.heap[wr.heap.size + 1]? = some (.cells #[.string pn, .slice pA pl.length pc, .int .i64 pr] 50 (0, 0))) ∧ Hid (Below wr.heap.size wr wx))
              case first =>
                have HS3 := Lib.hid (show ∀ x y z, (((wc.setCell ⟨wr.heap.size + 1, 0, none⟩ x).setCell ⟨wr.heap.size + 1, 1, none⟩ y).setCell ⟨wr.heap.size + 1, 2, none⟩ z).drew.heap[wr.heap.size]? = some (.cells #[.int .u8 0, .string nm, .slice dA dl.length dc, .int .i64 dr] 52 (0, 0)) ∧ (((wc.setCell ⟨wr.heap.size + 1, 0, none⟩ x).setCell ⟨wr.heap.size + 1, 1, none⟩ y).setCell ⟨wr.heap.size + 1, 2, none⟩ z).drew.heap[wr.heap.size + 1]? = some (.cells #[x, y, z] 50 (0, 0)) ∧ Below wr.heap.size wr (((wc.setCell ⟨wr.heap.size + 1, 0, none⟩ x).setCell ⟨wr.heap.size + 1, 1, none⟩ y).setCell ⟨wr.heap.size + 1, 2, none⟩ z).drew from fun x y z => set3h HKE.out.1 HKE.out.2 HBC.out x y z)
                clear HKE HRX HI HKP HS HDA HTA HTB HRW HI2 HI3 HSA HSB HBA HBB
                go_region
                all_goals (try go_wp2_with fail)
                all_goals go_meet
                exact ⟨rfl, Lib.hid (HS3.out _ _ _).1, Lib.hid (HS3.out _ _ _).2.1, Lib.hid (HS3.out _ _ _).2.2⟩
              case rest =>
                obtain ⟨rfl, HKF, HDX, HBX0⟩ := hcut
                obtain ⟨wx, rfl⟩ : ∃ wx : World, wx = wc := ⟨_, rfl⟩
                obtain ⟨a0, a1, a2, a3⟩ := blk4 HKF.out
                have HIX := Lib.hid (HI.out.below HBX0.out); have HBX := Lib.hid (HB.out.trans (HBX0.out.mono (by have := HZ.out; omega))); have HZX := Lib.hid (show w2.heap.size ≤ wx.heap.size from by have h1 := HZ.out; have h2 := HBX0.out.size; omega); have HZX1 := Lib.hid (show w2.heap.size + 1 ≤ wx.heap.size from Nat.le_trans HZ.out HBX0.out.size); have HKX := Lib.hid (HKP.out.trans (below_keeps HBX0.out))
                have hlo := HLO.out; have hen := HEN.out
                have e5 : IntKind.i64.wrap ((k : Int) + 1) = (k : Int) + 1 := IntWalk.i64_in _ (by omega)
                have HL1 := Lib.hid (show out.length + (ByteArray.mk #[32, 32]).size ≤ 140737488355328 from by have : (ByteArray.mk #[32, 32]).size = 2 := rfl; omega)
                have HL2 := Lib.hid (show (out ++ (ByteArray.mk #[32, 32]).data.toList).length + (ByteArray.mk db.toArray).size ≤ 140737488355328 from by rw [size_mk, List.length_append]; show out.length + 2 + db.length ≤ _; omega)
                clear hlo hen hdl
                as_aux_lemma =>
                  go_wp2_with (first
                    | (go_at_call 79; (with_reducible refine (write_any w2.heap.size w2.heap.size out ⟨#[32, 32]⟩ wx HIX.out HL1.out HZX.out).mono ?_); rintro e w4 ⟨rfl, h1, h2, h3⟩; have HI4 := Lib.hid h1; have HB4 := Lib.hid (HBX.out.trans h2); have HZ4 := Lib.hid (Nat.le_trans HZX.out h2.size); have HZ4W := Lib.hid h2.size; have HK4 := Lib.hid (HKX.out.trans h3); obtain ⟨c0, c1, c2⟩ := blk3' (h3 _ _ _ _ HDX.out (by decide) (by decide)); clear h1 h2 h3)
                    | (go_at_call 80; (with_reducible refine (HDA.out _ HB4.out HK4.out).mono ?_); rintro e w5 ⟨rfl, hb⟩; have HI5 := Lib.hid (HI4.out.below hb); have HB5 := Lib.hid (HB4.out.trans (hb.mono (by have := HZ4.out; omega))); have HZ5 := Lib.hid (Nat.le_trans HZ4.out hb.size); have HZ45 := Lib.hid (Nat.le_trans HZ4W.out hb.size); have HK5 := Lib.hid (HK4.out.trans (below_keeps hb)); clear hb c0 c1 c2)
                    | (go_at_call 79; (with_reducible refine (write_any w2.heap.size w2.heap.size _ ⟨db.toArray⟩ w5 HI5.out HL2.out HZ5.out).mono ?_); rintro e w6 ⟨rfl, h1, h2, h3⟩; have HI6 := Lib.hid h1; have HB6 := Lib.hid (HB5.out.trans h2); have HZ6 := Lib.hid (Nat.le_trans HZX1.out (Nat.le_trans HZ45.out h2.size)); have HK6 := Lib.hid (HK5.out.trans h3); clear h1 h2 h3)
                    | fail)
                  exact ⟨⟨k + 1, p + 1, out ++ [32, 32] ++ db, by omega, by go_num, by go_num, H2, HI6, HK6, HB6, HZ6⟩, by simp only [intOf]; omega⟩
            · obtain rfl : kd = 1 := h1
              have hp' : p < la.length := by simpa using hp
              have j1 : (p : Int) < (la.length : Int) := by omega
              have j2 : (0 : Int) ≤ (p : Int) := by omega
              have e6 : IntKind.i64.wrap ((p : Int) + 1) = (p : Int) + 1 := IntWalk.i64_in _ (by omega)
              have HBW := Lib.hid (Below.step HBR.out HBC.out)
              obtain ⟨ab, ao, rfl, _, _, y0, y1, y2⟩ := dfRow (HTA.out.agree (below_all HBW.out)) p hp'
              obtain ⟨q0, _⟩ := blk1 (HKW.out wc HBC.out)
              have HDA := Lib.hid (show ∀ w', Below w2.heap.size w2 w' → Keeps w3 w' → Calls Tryz.prog 80 #[.agg #[.string la[p].name, .slice la[p].t.A la[p].t.ls.length la[p].t.c, .int .i64 la[p].t.root]] w' (TextPost (defB la[p].df) w') from fun w' hb _ => def_any la[p] S w' (dfSub (HTA.out.agree (below_all (Below.step HB2.out hb))) p hp') (by have := (HSA.out _ (List.getElem_mem hp')).1; omega) (HTA.out.sub p hp').1 (HP.out.below (Below.step HB2.out hb)))
              have hdl := HBA.out (la[p].df) (List.mem_map_of_mem (List.getElem_mem hp'))
              have H2 := Lib.hid (show RepSt (la.map Ld.df) (lb.map Ld.df) (es.map Le.ed) (k + 1) (p + 1) (out ++ [45, 32] ++ defB la[p].df) from h2)
              clear hp h2
              generalize defB la[p].df = db at *
              generalize la[p] = dp at *
              obtain ⟨pn, ⟨pA, pc, pl, pr⟩⟩ := dp
              simp only at y0 y1 y2 HDA
              obtain ⟨a0, a1, a2, a3⟩ := blk4 HKE.out.1
              obtain ⟨b0, b1, b2, b3, b4, b5⟩ := blk3f HKE.out.2
              go_upto_region 10 with (fail)
              go_cut [9] (fun v9 wx => v9 = .string ⟨#[32, 32]⟩ ∧ Hid (wx.heap[wr.heap.size]? = some (.cells #[.int .u8 1, .string nm, .slice dA dl.length dc, .int .i64 dr] 52 (0, 0))) ∧ Hid (wx.heap[wr.heap.size + 1]? = some (.cells #[.string pn, .slice pA pl.length pc, .int .i64 pr] 50 (0, 0))) ∧ Hid (Below wr.heap.size wr wx))
              case first =>
                have HS3 := Lib.hid (show ∀ x y z, (((wc.setCell ⟨wr.heap.size + 1, 0, none⟩ x).setCell ⟨wr.heap.size + 1, 1, none⟩ y).setCell ⟨wr.heap.size + 1, 2, none⟩ z).drew.heap[wr.heap.size]? = some (.cells #[.int .u8 1, .string nm, .slice dA dl.length dc, .int .i64 dr] 52 (0, 0)) ∧ (((wc.setCell ⟨wr.heap.size + 1, 0, none⟩ x).setCell ⟨wr.heap.size + 1, 1, none⟩ y).setCell ⟨wr.heap.size + 1, 2, none⟩ z).drew.heap[wr.heap.size + 1]? = some (.cells #[x, y, z] 50 (0, 0)) ∧ Below wr.heap.size wr (((wc.setCell ⟨wr.heap.size + 1, 0, none⟩ x).setCell ⟨wr.heap.size + 1, 1, none⟩ y).setCell ⟨wr.heap.size + 1, 2, none⟩ z).drew from fun x y z => set3h HKE.out.1 HKE.out.2 HBC.out x y z)
                clear HKE HRX HI HKP HS HDA HTA HTB HRW HI2 HI3 HSA HSB HBA HBB
                go_region
                all_goals (try go_wp2_with fail)
                all_goals go_meet
                exact ⟨rfl, Lib.hid (HS3.out _ _ _).1, Lib.hid (HS3.out _ _ _).2.1, Lib.hid (HS3.out _ _ _).2.2⟩
              case rest =>
                obtain ⟨rfl, HKF, HDX, HBX0⟩ := hcut
                obtain ⟨wx, rfl⟩ : ∃ wx : World, wx = wc := ⟨_, rfl⟩
                obtain ⟨a0, a1, a2, a3⟩ := blk4 HKF.out
                have HIX := Lib.hid (HI.out.below HBX0.out); have HBX := Lib.hid (HB.out.trans (HBX0.out.mono (by have := HZ.out; omega))); have HZX := Lib.hid (show w2.heap.size ≤ wx.heap.size from by have h1 := HZ.out; have h2 := HBX0.out.size; omega); have HZX1 := Lib.hid (show w2.heap.size + 1 ≤ wx.heap.size from Nat.le_trans HZ.out HBX0.out.size); have HKX := Lib.hid (HKP.out.trans (below_keeps HBX0.out))
                have hlo := HLO.out; have hen := HEN.out
                have e5 : IntKind.i64.wrap ((k : Int) + 1) = (k : Int) + 1 := IntWalk.i64_in _ (by omega)
                have HL1 := Lib.hid (show out.length + (ByteArray.mk #[45, 32]).size ≤ 140737488355328 from by have : (ByteArray.mk #[45, 32]).size = 2 := rfl; omega)
                have HL2 := Lib.hid (show (out ++ (ByteArray.mk #[45, 32]).data.toList).length + (ByteArray.mk db.toArray).size ≤ 140737488355328 from by rw [size_mk, List.length_append]; show out.length + 2 + db.length ≤ _; omega)
                clear hlo hen hdl
                as_aux_lemma =>
                  go_wp2_with (first
                    | (go_at_call 79; (with_reducible refine (write_any w2.heap.size w2.heap.size out ⟨#[45, 32]⟩ wx HIX.out HL1.out HZX.out).mono ?_); rintro e w4 ⟨rfl, h1, h2, h3⟩; have HI4 := Lib.hid h1; have HB4 := Lib.hid (HBX.out.trans h2); have HZ4 := Lib.hid (Nat.le_trans HZX.out h2.size); have HZ4W := Lib.hid h2.size; have HK4 := Lib.hid (HKX.out.trans h3); obtain ⟨c0, c1, c2⟩ := blk3' (h3 _ _ _ _ HDX.out (by decide) (by decide)); clear h1 h2 h3)
                    | (go_at_call 80; (with_reducible refine (HDA.out _ HB4.out HK4.out).mono ?_); rintro e w5 ⟨rfl, hb⟩; have HI5 := Lib.hid (HI4.out.below hb); have HB5 := Lib.hid (HB4.out.trans (hb.mono (by have := HZ4.out; omega))); have HZ5 := Lib.hid (Nat.le_trans HZ4.out hb.size); have HZ45 := Lib.hid (Nat.le_trans HZ4W.out hb.size); have HK5 := Lib.hid (HK4.out.trans (below_keeps hb)); clear hb c0 c1 c2)
                    | (go_at_call 79; (with_reducible refine (write_any w2.heap.size w2.heap.size _ ⟨db.toArray⟩ w5 HI5.out HL2.out HZ5.out).mono ?_); rintro e w6 ⟨rfl, h1, h2, h3⟩; have HI6 := Lib.hid h1; have HB6 := Lib.hid (HB5.out.trans h2); have HZ6 := Lib.hid (Nat.le_trans HZX1.out (Nat.le_trans HZ45.out h2.size)); have HK6 := Lib.hid (HK5.out.trans h3); clear h1 h2 h3)
                    | fail)
                  exact ⟨⟨k + 1, p + 1, out ++ [45, 32] ++ db, by omega, by go_num, by go_num, H2, HI6, HK6, HB6, HZ6⟩, by simp only [intOf]; omega⟩
            · obtain rfl : kd = 2 := h1
              have SBL := Lib.hid (show dl.length ≤ 500 from by
                obtain ⟨x, hx, hxe⟩ := List.mem_map.1 h3
                have h4 := (HSB0.out x hx).1
                have h5 := congrArg (fun d : Df => d.body.nodes.length) hxe
                simp only [Ld.df, Lt.tr, List.length_map] at h5
                omega)
              have HDA := Lib.hid (show ∀ w', Below w2.heap.size w2 w' → Keeps w3 w' → Calls Tryz.prog 80 #[.agg #[.string nm, .slice dA dl.length dc, .int .i64 dr]] w' (TextPost (defB ⟨nm, ⟨dl.map Ln.nd, dr⟩⟩) w') from fun w' hb hk => def_any ⟨nm, ⟨dA, dc, dl, dr⟩⟩ (Plain w3) w' (HSB2.out w' hk).2.2 (Nat.le_trans SBL.out (by decide)) HSB.out.2.1 (HP.out.below (Below.step HB2.out hb)))
              have hdl : (defB ⟨nm, ⟨dl.map Ln.nd, dr⟩⟩).length ≤ 2400000037 := HBB.out _ h3
              have H2 := Lib.hid (show RepSt (la.map Ld.df) (lb.map Ld.df) (es.map Le.ed) (k + 1) p (out ++ [43, 32] ++ defB ⟨nm, ⟨dl.map Ln.nd, dr⟩⟩) from h2)
              clear h2 h3
              generalize defB ⟨nm, ⟨dl.map Ln.nd, dr⟩⟩ = db at *
              have HDX := Lib.hid HKE.out.2; have HBX0 := HBC
              obtain ⟨a0, a1, a2, a3⟩ := blk4 HKE.out.1
              obtain ⟨wx, rfl⟩ : ∃ wx : World, wx = wc := ⟨_, rfl⟩
              have HIX := Lib.hid (HI.out.below HBX0.out); have HBX := Lib.hid (HB.out.trans (HBX0.out.mono (by have := HZ.out; omega))); have HZX := Lib.hid (show w2.heap.size ≤ wx.heap.size from by have h1 := HZ.out; have h2 := HBX0.out.size; omega); have HZX1 := Lib.hid (show w2.heap.size + 1 ≤ wx.heap.size from Nat.le_trans HZ.out HBX0.out.size); have HKX := Lib.hid (HKP.out.trans (below_keeps HBX0.out))
              have hlo := HLO.out; have hen := HEN.out
              have e5 : IntKind.i64.wrap ((k : Int) + 1) = (k : Int) + 1 := IntWalk.i64_in _ (by omega)
              have HL1 := Lib.hid (show out.length + (ByteArray.mk #[43, 32]).size ≤ 140737488355328 from by have : (ByteArray.mk #[43, 32]).size = 2 := rfl; omega)
              have HL2 := Lib.hid (show (out ++ (ByteArray.mk #[43, 32]).data.toList).length + (ByteArray.mk db.toArray).size ≤ 140737488355328 from by rw [size_mk, List.length_append]; show out.length + 2 + db.length ≤ _; omega)
              clear hlo hen hdl
              as_aux_lemma =>
                go_wp2_with (first
                  | (go_at_call 79; (with_reducible refine (write_any w2.heap.size w2.heap.size out ⟨#[43, 32]⟩ wx HIX.out HL1.out HZX.out).mono ?_); rintro e w4 ⟨rfl, h1, h2, h3⟩; have HI4 := Lib.hid h1; have HB4 := Lib.hid (HBX.out.trans h2); have HZ4 := Lib.hid (Nat.le_trans HZX.out h2.size); have HZ4W := Lib.hid h2.size; have HK4 := Lib.hid (HKX.out.trans h3); obtain ⟨c0, c1, c2⟩ := blk3' (h3 _ _ _ _ HDX.out (by decide) (by decide)); clear h1 h2 h3)
                  | (go_at_call 80; (with_reducible refine (HDA.out _ HB4.out HK4.out).mono ?_); rintro e w5 ⟨rfl, hb⟩; have HI5 := Lib.hid (HI4.out.below hb); have HB5 := Lib.hid (HB4.out.trans (hb.mono (by have := HZ4.out; omega))); have HZ5 := Lib.hid (Nat.le_trans HZ4.out hb.size); have HZ45 := Lib.hid (Nat.le_trans HZ4W.out hb.size); have HK5 := Lib.hid (HK4.out.trans (below_keeps hb)); clear hb c0 c1 c2)
                  | (go_at_call 79; (with_reducible refine (write_any w2.heap.size w2.heap.size _ ⟨db.toArray⟩ w5 HI5.out HL2.out HZ5.out).mono ?_); rintro e w6 ⟨rfl, h1, h2, h3⟩; have HI6 := Lib.hid h1; have HB6 := Lib.hid (HB5.out.trans h2); have HZ6 := Lib.hid (Nat.le_trans HZX1.out (Nat.le_trans HZ45.out h2.size)); have HK6 := Lib.hid (HK5.out.trans h3); clear h1 h2 h3)
                  | fail)
                exact ⟨⟨k + 1, p, out ++ [43, 32] ++ db, by omega, by go_num, by go_num, H2, HI6, HK6, HB6, HZ6⟩, by simp only [intOf]; omega⟩
        · have hke : k = es.length := by omega
          subst hke
          have HE := Lib.hid (RepSt.done (es := es.map Le.ed) (a := la.map Ld.df) (b := lb.map Ld.df) (by rw [List.length_map]; exact HS.out))
          go_wp2_with (first
            | (go_at_call 81; (with_reducible refine (Tryz.Builder_String_any w2.heap.size w2.heap.size _ _ HI.out (by have := HZ.out; omega)).mono ?_); rintro e w7 ⟨rfl, hb7⟩; have HB7 := Lib.hid (Below.step HB2.out (HB.out.trans hb7)); clear hb7)
            | fail)
          go_ret
          exact ⟨by rw [← HES.out, ← HE.out]; rfl, HB7.out⟩
    · have e2 : (mb != 0) = true := by simp [h2]
      rw [if_neg (fun h => h2 h.2)]
      clear h1 h2
      go_wp2_with (first
        | (go_at_call 14; (with_reducible refine (HM1.out _ HB0.out).mono ?_); rintro e w1 ⟨rfl, hb⟩; have HB1 := Lib.hid (Below.step HB0.out hb); have HK1 := Lib.hid (bx_kept hb HKA.out); have HK2 := Lib.hid (bx_kept hb HKB.out); clear hb; obtain ⟨p0, _⟩ := blk1 HK1.out; obtain ⟨q0, _⟩ := blk1 HK2.out)
        | (go_at_call 14; (with_reducible refine (HM2.out _ HB1.out).mono ?_); rintro e w2 ⟨rfl, hb⟩; have HB2 := Lib.hid (Below.step HB1.out hb); clear hb)
        | fail)
      go_ret
      exact ⟨rfl, HB2.out⟩
  · have e1 : (ma != 0) = true := by simp [h1]
    rw [if_neg (fun h => h1 h.1)]
    clear h1
    go_wp2_with (first
      | (go_at_call 14; (with_reducible refine (HM1.out _ HB0.out).mono ?_); rintro e w1 ⟨rfl, hb⟩; have HB1 := Lib.hid (Below.step HB0.out hb); clear hb)
      | fail)
    go_ret
    exact ⟨rfl, HB1.out⟩
end Go.Proofs.YtmjkgnknfgoadaaGreatDoor
