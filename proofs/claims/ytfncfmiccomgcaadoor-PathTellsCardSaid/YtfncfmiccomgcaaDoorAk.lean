/- The contract of expr.Make. -/
import Derived.Test.YtfncfmiccomgcaaDoorAj
namespace Go.Proofs.YtfncfmiccomgcaaDoor
open Go.RowKit
set_option linter.unusedSimpArgs false
set_option linter.unusedVariables false

attribute [local go_sem] run_store_func
def keepF : Value := .func (.func 51) #[] #[]
def seqF : Value := .func (.func 52) #[] #[]
def choF : Value := .func (.func 53) #[] #[]
def joinsA : Array Value := #[.func (.func 51) #[] #[], .func (.func 51) #[] #[], .func (.func 51) #[] #[], .func (.func 51) #[] #[], .func (.func 52) #[] #[], .func (.func 53) #[] #[], .func (.func 51) #[] #[], .func (.func 51) #[] #[], .func (.func 51) #[] #[], .func (.func 51) #[] #[]]
set_option maxRecDepth 100000 in
set_option maxHeartbeats 1600000 in
theorem joiners_any (w : World) : Calls Tryd.prog 35 #[] w fun e w' => e = .returned (.agg joinsA) ∧ Below w.heap.size w w' := by
  go_enter Tryd.func35, Tryd.ntmps35
  go_wp2_with fail
  exact bodyPost_ret (v := .agg joinsA) (by simp [results, Tryd.results35, go_sem, joinsA]) rfl ⟨rfl, bx1 w _⟩
def MkRel (W : World) (b cb g n : Nat) (t : Tr) (i : Value) (wr : World) : Prop :=
  ∃ (k : Nat) (lsA : List Ln) (pl : Nat → Int) (vals : List Value), k ≤ n ∧ i = .int .i64 (k : Int) ∧ Hid (ArenaS wr b (fun x => b < x ∧ x ≠ g) lsA) ∧ Hid (lsA.length ≤ k) ∧ Hid (MakeInv t k (lsA.map Ln.nd) pl) ∧ Hid (wr.ownsRow (b + 1) 3 1 (.slice (some ⟨g, 0, none⟩) n n) n vals) ∧
    Hid (∀ j, j < k → vals[j]? = some (.int .i64 (pl j))) ∧ Hid (wr.heap[cb]? = some (.cells joinsA 74 (0, 0))) ∧ Hid (Below b W wr)
theorem stepJ_len (al : List Nd) (n : Nd) (ks : List Int) : (stepJ al n ks).1.length ≤ al.length + 1 := by
  obtain ⟨L, _, h⟩ := stepJ_shape al n ks
  rcases h with ⟨x, _, e⟩ | ⟨m, _, e⟩ <;> rw [e] <;> simp
/-- A round's end. -/
theorem mk_fin {W wx w3 : World} {b cb g n k : Nat} {t : Tr} {lsA lsB : List Ln} {pl : Nat → Int} {vals : List Value} {nd : Nd} {ks : List Int} {r : Int} (hk : k < n) (hbg : b < g) (hcg : cb < g) (hbc : b < cb) (hal : lsA.length ≤ k)
    (hst : MakeInv t (k + 1) (stepJ (lsA.map Ln.nd) nd ks).1 (fun j => if j = k then (stepJ (lsA.map Ln.nd) nd ks).2 else pl j)) (hB : lsB.map Ln.nd = (stepJ (lsA.map Ln.nd) nd ks).1) (hr : r = (stepJ (lsA.map Ln.nd) nd ks).2)
    (hA : ArenaS w3 b (fun x => b < x ∧ x ≠ g) lsB) (hK : KeptA b wx w3) (hP : wx.ownsRow (b + 1) 3 1 (.slice (some ⟨g, 0, none⟩) n n) n vals) (hv : ∀ j, j < k → vals[j]? = some (.int .i64 (pl j)))
    (hc : wx.heap[cb]? = some (.cells joinsA 74 (0, 0))) (hW : Below b W wx) : MkRel W b cb g n t (.int .i64 ((k : Int) + 1)) (w3.setCell ⟨g, k, none⟩ (.int .i64 r)) := by
  have hgb : blkOf (some (⟨g, 0, none⟩ : Addr)) ≠ some b := fun e => by simp only [blkOf, Option.map_some, Option.some.injEq] at e; omega
  have hP3 := (hK.int (own_ownS hP) hgb).own
  have hvl := hP.1
  refine ⟨k + 1, lsB, _, vals.set k (.int .i64 r), hk, congrArg (Value.int .i64) (by omega), Lib.hid ?_, Lib.hid ?_, Lib.hid (hB ▸ hst), Lib.hid (World.ownsRow.stored hP3 k (.int .i64 r)).1, Lib.hid fun j hj => ?_, Lib.hid ?_, Lib.hid ((hW.trans hK.1).setCell (p := ⟨g, k, none⟩) (Nat.le_of_lt hbg) _)⟩
  · exact hA.grown hP3 (fun x hx hne => Below.heap_setCell _ _ _ _ fun e => hne (by rw [e]; rfl)) fun x hx hs => ⟨hs, fun e => by simp only [blkOf, Option.map_some, Option.some.injEq] at e; exact hs.2 e.symm⟩
  · have h := congrArg List.length hB
    have h2 := stepJ_len (lsA.map Ln.nd) nd ks
    rw [List.length_map] at h h2; omega
  · by_cases e : j = k
    · subst e
      rw [List.getElem?_set_self (by omega)]
      simp [hr]
    · rw [List.getElem?_set_ne (by omega), hv j (by omega)]
      simp [e]
  · refine (Below.heap_setCell _ _ _ _ (by show cb ≠ g; omega)).trans ((hK.2 cb (heap_lt' hc) (by omega) fun ⟨cs, m, e⟩ => ?_).trans hc)
    rw [hc] at e
    simp only [Option.some.injEq, Obj.cells.injEq] at e
    exact absurd e.2.1 (by decide)
def MakePost (t : Tr) (w : World) (e : Ending) (w' : World) : Prop :=
  (rightT t = true → ∃ v : Lt, e = .returned (.tuple #[v.val, .bool true]) ∧ v.tr = treeOf (makeTT (den t.nodes t.root.toNat)) ∧ TreeOwn w' (w.heap.size ≤ ·) v ∧ Below w.heap.size w w') ∧
  (rightT t = false → e = .returned (.tuple #[.agg #[.slice none 0 0, .int .i64 0], .bool false]) ∧ Below w.heap.size w w')
set_option maxRecDepth 100000 in
set_option maxHeartbeats 6400000 in
theorem make_any (A : Option Addr) (c : Nat) (ls : List Ln) (root : Int) (S : Nat → Prop) (w : World) (hT : ndL.row w S A ls) (hl : ls.length ≤ 16777216) (ht : CntTab w) :
    Calls Tryd.prog 19 #[.agg #[.slice A ls.length c, .int .i64 root]] w (MakePost ⟨ls.map Ln.nd, root⟩ w) := by
  obtain ⟨i0, hi0, hz0, hz1, hz2⟩ := info_parts infoInt
  have HT := Lib.hid hT; have HCT := Lib.hid ht; clear hT ht
  have HRG := Lib.hid (fun w' hT ht => right_any A c ls root S w' hT (by omega) ht)
  have HB0 := Lib.hid (bx2 w (.cells #[.slice A ls.length c, .int .i64 root] 24) (.cells #[.slice none 0 0, .int .i64 0] 24))
  have HK0 := Lib.hid (show ((w.alloc (.cells #[.slice A ls.length c, .int .i64 root] 24)).alloc (.cells #[.slice none 0 0, .int .i64 0] 24)).heap[w.heap.size]? = some (.cells #[.slice A ls.length c, .int .i64 root] 24 (0, 0)) ∧ ((w.alloc (.cells #[.slice A ls.length c, .int .i64 root] 24)).alloc (.cells #[.slice none 0 0, .int .i64 0] 24)).heap[w.heap.size + 1]? = some (.cells #[.slice none 0 0, .int .i64 0] 24 (0, 0)) from by
    refine ⟨bx_old (bx_new w _), ?_⟩
    have h := bx_new (w.alloc (.cells #[.slice A ls.length c, .int .i64 root] 24)) (.cells #[.slice none 0 0, .int .i64 0] 24)
    rw [World.size_alloc] at h; exact h)
  have HZ0 := Lib.hid (show ((w.alloc (.cells #[.slice A ls.length c, .int .i64 root] 24)).alloc (.cells #[.slice none 0 0, .int .i64 0] 24)).heap.size = w.heap.size + 2 from by simp)
  rcases hr : rightT ⟨ls.map Ln.nd, root⟩ with _ | _
  · rw [hr] at HRG
    go_enter Tryd.func19, Tryd.ntmps19
    go_wp2_with (first
      | (go_at_call 17; refine (HRG.out _ (HT.out.below HB0.out) (HCT.out.below HB0.out)).mono ?_; rintro e w1 ⟨rfl, hb⟩; have HB1 := Lib.hid (Below.step HB0.out hb); have HK1 := Lib.hid (And.intro (bx_kept hb HK0.out.1) (bx_kept hb HK0.out.2)); clear hb; obtain ⟨k0, k1, k2, k3⟩ := blk2 HK1.out.2)
      | fail)
    have HB2 := Lib.hid ((HB1.out.setCell (p := ⟨w.heap.size + 1, 0, none⟩) (Nat.le_succ _) (.slice none 0 0)).setCell (p := ⟨w.heap.size + 1, 1, none⟩) (Nat.le_succ _) (.int .i64 0))
    refine bodyPost_ret (v := .tuple #[.agg #[.slice none 0 0, .int .i64 0], .bool false]) (by simp [results, Tryd.results19, go_sem, k0, k1]) rfl ?_
    unfold MakePost
    exact ⟨fun h => (by rw [hr] at h; cases h), fun _ => ⟨rfl, HB2.out⟩⟩
  · rw [hr] at HRG
    have HR := Lib.hid ((rightT_iff _).1 hr)
    have F1 := Lib.hid (show i0.bytes * ls.length ≤ 281474976710656 ∧ ls.length ≤ maxLen from ⟨by rw [hz2]; omega, by unfold maxLen; omega⟩)
    go_enter Tryd.func19, Tryd.ntmps19
    go_upto_region 5 with (first
      | (go_at_call 17; refine (HRG.out _ (HT.out.below HB0.out) (HCT.out.below HB0.out)).mono ?_; rintro e w1 ⟨rfl, hb⟩; have HB1 := Lib.hid (Below.step HB0.out hb); have HK1 := Lib.hid (And.intro (bx_kept hb HK0.out.1) (bx_kept hb HK0.out.2)); have HZ1 := Lib.hid (show w.heap.size + 2 ≤ w1.heap.size from by have := hb.size; have := HZ0.out; omega); clear hb)
      | (go_at_call 35; refine (joiners_any _).mono ?_; rintro e w2 ⟨rfl, hb⟩; unfold joinsA; have HB2 := Lib.hid hb; clear hb)
      | fail)
    have hW := bx_new w2 (.cells joinsA 74)
    have hWB := bx1 w2 (.cells joinsA 74)
    have hWz : (w2.alloc (.cells joinsA 74)).heap.size = w2.heap.size + 1 := by simp
    unfold joinsA at hW hWB hWz
    generalize w2.alloc _ = W at *
    have ha1 := bx_new w1 (.cells #[.slice none 0 0] 72)
    have HAR0 := Lib.hid (bx_kept (Below.step HB2.out hWB) ha1)
    have HBW := Lib.hid (show Below w.heap.size w W from Below.step (Below.step (Below.step HB1.out (bx1 w1 _)) HB2.out) hWB)
    have HKW := Lib.hid (show W.heap[w.heap.size]? = some (.cells #[.slice A ls.length c, .int .i64 root] 24 (0, 0)) ∧ W.heap[w.heap.size + 1]? = some (.cells #[.slice none 0 0, .int .i64 0] 24 (0, 0)) from
      ⟨bx_kept (Below.step (Below.step (bx1 w1 _) HB2.out) hWB) HK1.out.1, bx_kept (Below.step (Below.step (bx1 w1 _) HB2.out) hWB) HK1.out.2⟩)
    have hbcb : w1.heap.size < w2.heap.size := by have := HB2.out.size; simp at this; omega
    have HWJ := Lib.hid hW
    have hz1' := HZ1.out
    clear HB1 HK1 HB2 ha1 hW hWB HB0 HK0 HZ0 HZ1
    generalize w1.heap.size = b at *
    generalize w2.heap.size = cb at *
    have hgcb : cb < W.heap.size := by omega
    clear hWz
    obtain ⟨k0, k1, k2, k3⟩ := blk2 HKW.out.1
    go_wp2_with (first
      | (at_make; refine wpList_make_full _ rfl _ _ 25 rfl (b + 1) 3 i0 _ 1 Tryd.underlying25 hi0 hz0 hz1 .i64 .i64 _ _ ls.length rfl rfl rfl rfl F1.out.1 F1.out.2 (by omega) ?_; intro w3 hown3 hgrow3; have HO3 := Lib.hid hown3; have HB3 := Lib.hid (show Below W.heap.size W w3 from (Below.refl _ _).grown hgrow3 (Nat.le_refl _) (fun k e => by cases e)); clear hown3 hgrow3; have q0 := (HB3.out.cell (p := ⟨w.heap.size, 0, none⟩) (by show w.heap.size < _; omega)).trans k0)
      | fail)
    have HZ3 := Lib.hid (show cb + 2 ≤ w3.heap.size from by have := (own_lt HO3.out).2; omega)
    have HS0 := Lib.hid (show MkRel W b cb W.heap.size ls.length ⟨ls.map Ln.nd, root⟩ (.int .i64 0) w3 from
      ⟨0, [], fun _ => 0, _, Nat.zero_le _, rfl, Lib.hid ⟨none, 0, (HB3.out.block b (by omega)).trans HAR0.out, World.ownsRow_nil _ _ _ _, by simp⟩, Lib.hid (Nat.le_refl _), Lib.hid (MakeInv.start _ _), HO3, Lib.hid (fun j h => by omega), Lib.hid ((HB3.out.block cb (by omega)).trans HWJ.out), Lib.hid (HB3.out.mono (by omega))⟩)
    have HBW2 := Lib.hid (show ∀ wx, Below b W wx → Below w.heap.size w wx from fun wx h => HBW.out.trans (h.mono (by omega)))
    clear HO3 HB3 HAR0 HWJ q0 k0 k1 k2 k3 HZ3
    generalize W.heap.size = g at *
    go_loopw [24] (fun i wr => MkRel W b cb g ls.length ⟨ls.map Ln.nd, root⟩ i wr) (fun i _ => ls.length - (intOf i).toNat)
    case atStart => exact HS0.out
    case round =>
      clear HS0
      obtain ⟨wo, rfl⟩ : ∃ wo : World, wo = wr := ⟨_, rfl⟩
      obtain ⟨k, lsA, pl, vals, hk, rfl, HAA, HAL, HMI, HPV, HPLV, HCB, HB⟩ := hrel
      by_cases hlt : k < ls.length
      · obtain ⟨ab, ao, hA, _, hab2, x0, x1, x2, x3, x4, x5, x6, x7, x8⟩ := ndRow (HT.out.below (HBW2.out _ HB.out)) k hlt
        have HWF := Lib.hid (ndWf HT.out k hlt)
        have HKR := Lib.hid (show ∀ wx, Below b W wx → intL.row wx S ls[k].A ls[k].nd.kids from fun wx h => ndSub (HT.out.below (HBW2.out _ h)) k hlt)
        have HST := Lib.hid (HMI.out.step HR.out (i := k) (n := ls[k].nd) (by simp [hlt]))
        have HKZ := Lib.hid (show ∀ z ∈ ls[k].nd.kids, 0 ≤ z ∧ z < (k : Int) from fun z hz => rightP_kid HR.out (i := k) (n := ls[k].nd) (by simp [hlt]) hz)
        have HKL := Lib.hid (show ls[k].nd.kids.length ≤ k from right_kids_len HR.out (i := k) (n := ls[k].nd) (by simp [hlt]))
        have HFIT := Lib.hid (show 0 ≤ ls[k].nd.kind ∧ ls[k].nd.kind ≤ 9 from by
          have h := rightP_fit HR.out (i := k) (n := ls[k].nd) (by simp [hlt])
          unfold fitN at h
          by_cases h9 : 0 ≤ ls[k].nd.kind ∧ ls[k].nd.kind ≤ 9
          · exact h9
          · rw [if_neg (by omega), if_neg (by omega), if_neg (by omega), if_neg (by omega), if_neg (by omega), if_neg (by omega), if_neg (by omega), if_neg (by omega), if_neg (by omega), if_neg (by omega)] at h
            cases h)
        have d1 : (k : Int) < (ls.length : Int) := by omega
        have d2 : (0 : Int) ≤ (k : Int) := by omega
        have HNA := Lib.hid (show wo.heap.size = wo.heap.size from rfl)
        generalize ls[k] = x at *
        have HBX := Lib.hid (bx_new wo (.cells #[.int .u8 x.nd.kind, .int .u64 x.nd.s0, .int .u64 x.nd.s1, .int .u64 x.nd.s2, .int .u64 x.nd.s3, .string x.nd.text, .int .i64 x.nd.mn, .int .i64 x.nd.mx, .slice x.A x.nd.kids.length x.c] 56))
        have HB5 := Lib.hid (bx1 wo (.cells #[.int .u8 x.nd.kind, .int .u64 x.nd.s0, .int .u64 x.nd.s1, .int .u64 x.nd.s2, .int .u64 x.nd.s3, .string x.nd.text, .int .i64 x.nd.mn, .int .i64 x.nd.mx, .slice x.A x.nd.kids.length x.c] 56))
        have HZ5 := Lib.hid (show (wo.alloc (.cells #[.int .u8 x.nd.kind, .int .u64 x.nd.s0, .int .u64 x.nd.s1, .int .u64 x.nd.s2, .int .u64 x.nd.s3, .string x.nd.text, .int .i64 x.nd.mn, .int .i64 x.nd.mx, .slice x.A x.nd.kids.length x.c] 56)).heap.size = wo.heap.size + 1 from by simp)
        subst hA
        go_upto_region 9 with (fail)
        generalize wo.alloc (.cells #[.int .u8 x.nd.kind, .int .u64 x.nd.s0, .int .u64 x.nd.s1, .int .u64 x.nd.s2, .int .u64 x.nd.s3, .string x.nd.text, .int .i64 x.nd.mn, .int .i64 x.nd.mx, .slice x.A x.nd.kids.length x.c] 56) = W5 at *
        clear x0 x1 x2 x3 x4 x5 x6 x7 x8
        obtain ⟨_, _, _, _, _, _, _, _, y8, _⟩ := blk9 HBX.out
        go_wp2_with fail
        clear y8
        generalize hnb : wo.heap.size = nb at *
        have HNBE := Lib.hid hnb
        clear hnb HNA
        have hgnb : g < nb := by have := (own_lt HPV.out).2; have := HNBE.out; omega
        have hcbnb : cb < nb := by have := heap_lt' HCB.out; have := HNBE.out; omega
        have hbnb : b < nb := by omega
        have hksl : (intL.all (x.nd.kids.map fun z => pl z.toNat)).length = x.nd.kids.length := by rw [intL.all_length]; show (x.nd.kids.map _).length * 1 = _; simp
        have HKSL := Lib.hid hksl; clear hksl
        go_loopw [9, 32] (fun v13 v14 wx => ListRel W5 nb (intL.all (x.nd.kids.map fun z => pl z.toNat)) v13 v14 wx) (fun _ v14 _ => x.nd.kids.length - (intOf v14).toNat)
        case atStart => exact ⟨0, none, 0, Nat.zero_le _, rfl, rfl, Lib.hid (World.ownsRow_nil _ _ _ _), Lib.hid (Below.refl _ _), Lib.hid (by have := HZ5.out; omega)⟩
        case round =>
          obtain ⟨wx, rfl⟩ : ∃ wx : World, wx = wr := ⟨_, rfl⟩
          obtain ⟨q, U, uc, hq, rfl, rfl, HU, HBXx, HZX⟩ := hrel
          rw [HKSL.out] at hq
          have HBx2 := Lib.hid (show Below b W wx from HB.out.trans ((HB5.out.mono (by omega)).trans (HBXx.out.mono (by omega))))
          have HPX := Lib.hid (show wx.ownsRow (b + 1) 3 1 (.slice (some ⟨g, 0, none⟩) ls.length ls.length) ls.length vals from own_agree HPV.out fun y hy => by
            cases hy; exact (HBXx.out.block g (by omega)).trans (HB5.out.block g hgnb))
          by_cases hql : q < x.nd.kids.length
          · obtain ⟨kb, ko, hkA, _, hkb, y0⟩ := intRow (HKR.out wx HBx2.out) q hql
            have HZQ := Lib.hid (HKZ.out x.nd.kids[q] (List.getElem_mem hql))
            have HTQ := Lib.hid (show (intL.all (x.nd.kids.map fun z => pl z.toNat)).take (q + 1) = (intL.all (x.nd.kids.map fun z => pl z.toNat)).take q ++ [.int .i64 (pl x.nd.kids[q].toNat)] from by
              rw [List.take_succ_eq_append_getElem (by rw [HKSL.out]; exact hql)]
              congr 1
              simp [intL_all])
            generalize x.nd.kids[q] = z at *
            obtain ⟨zz, rfl⟩ := Int.eq_ofNat_of_zero_le HZQ.out.1
            have hzp : zz < k := by have := HZQ.out.2; omega
            simp only [Int.toNat_natCast] at HTQ
            have c0 := own_cell HPX.out zz (by omega) (HPLV.out zz hzp)
            have i3 : (q : Int) < (x.nd.kids.length : Int) := by omega
            have i4 : (0 : Int) ≤ (q : Int) := by omega
            have i5 : (zz : Int) < (ls.length : Int) := by omega
            have i6 : (0 : Int) ≤ (zz : Int) := by omega
            have hkl2 := HKL.out
            generalize pl zz = pz at *
            have F4 := Lib.hid (show q + 1 ≤ maxLen ∧ (q + 1) * 8 ≤ 140737488355328 ∧ nb + 1 ≤ (wx.alloc (.cells #[.int .i64 pz] 3)).heap.size from ⟨by unfold maxLen; omega, by omega, by have := HZX.out; simp; omega⟩)
            rw [hkA]
            clear hkA
            go_wp2_with (at_builtin; refine wpList_append_at _ rfl (.tmp 36) (.tmp 41) 25 rfl (nb + 1) 3 i0 (.int .i64 0) 1 8 Tryd.underlying25 hi0 hz0 hz1 hz2 rfl (by decide) U uc q ((intL.all (x.nd.kids.map fun z => pl z.toNat)).take q) rfl (World.ownsRow.alloc HU.out _) (some ⟨wx.heap.size, 0, none⟩) 1 1 [.int .i64 pz] rfl rfl (row_blk (bx_new wx _)) (fun u hu => by simp only [List.mem_singleton] at hu; subst hu; rfl) F4.out.1 F4.out.2.1 F4.out.2.2 ?_; intro U' uc' w6 HU6 HG6 HA6)
            exact ⟨⟨q + 1, U', uc', by rw [HKSL.out]; omega, by go_num, rfl, Lib.hid (by rw [HTQ.out]; exact HU6.out), Lib.hid (HBXx.out.trans (((Below.refl _ wx).alloc HZX.out _).trans (below_grownA (World.ownsRow.alloc HU.out _) HG6.out (Nat.le_refl _) F4.out.2.2))), Lib.hid (by have := HG6.out.size; have := F4.out.2.2; omega)⟩, by simp [intOf]; omega⟩
          · obtain rfl : q = x.nd.kids.length := by omega
            have HNX := Lib.hid ((HBXx.out.block nb (by omega)).trans HBX.out)
            have HCX := Lib.hid (show wx.heap[cb]? = some (.cells joinsA 74 (0, 0)) from (HBXx.out.block cb (by omega)).trans ((HB5.out.block cb hcbnb).trans HCB.out))
            have HAX := Lib.hid (show ArenaS wx b (fun x => b < x ∧ x ≠ g) lsA from (HAA.out.below (by rw [HNBE.out]; exact HB5.out)).below (Below.mono HBXx.out (by have := HZ5.out; omega)))
            have hul : (x.nd.kids.map fun z => pl z.toNat).length = x.nd.kids.length := by simp
            have HOU := Lib.hid (show OwnS wx (fun x => b < x ∧ x ≠ g) 3 1 U x.nd.kids.length uc (intL.all (x.nd.kids.map fun z => pl z.toNat)) from by
              have h := HU.out
              rw [List.take_of_length_le (by rw [HKSL.out]; exact Nat.le_refl _)] at h
              exact ⟨own_mono h (Nat.zero_le _), fun y hy => by have := (own_blk h y hy).1; exact ⟨by omega, by omega⟩⟩)
            have HKB := Lib.hid (show ∀ z ∈ (x.nd.kids.map fun z => pl z.toNat), 0 ≤ z ∧ z < (lsA.length : Int) from fun z hz => by
              obtain ⟨y, hy, rfl⟩ := List.mem_map.1 hz
              have h1 := HKZ.out y hy
              have h2 := HMI.out.nonneg y.toNat (by omega)
              have h3 := (HMI.out.rep y.toNat (by omega)).lt
              rw [List.length_map] at h3; omega)
            have hal := HAL.out
            have hkl := HKL.out
            have hkn := HFIT.out
            obtain ⟨plp, hplp⟩ : ∃ u, vals[k]? = some u := ⟨_, List.getElem?_eq_getElem (show k < vals.length by have := HPV.out.1; omega)⟩
            obtain ⟨y0, y1, y2, y3, y4, y5, y6, y7, y8, _⟩ := blk9 HNX.out
            have n1 : (0 : Int) ≤ x.nd.kind := hkn.1
            have n2 : x.nd.kind < 10 := by omega
            generalize hks : (x.nd.kids.map fun z => pl z.toNat) = ks at *
            have hgb : blkOf (some (⟨g, 0, none⟩ : Addr)) ≠ some b := fun e => by simp only [blkOf, Option.map_some, Option.some.injEq] at e; omega
            have hSS : ∀ y, (fun y => b < y ∧ y ≠ g) y → b < y := fun y hy => hy.1
            have HSS := Lib.hid hSS
            have HAXD := Lib.hid (show ArenaS wx.drew b (fun x => b < x ∧ x ≠ g) lsA from HAX.out.below (Below.refl wx.heap.size wx).drew)
            have HPXD := Lib.hid (show OwnS wx.drew (b + 1 ≤ ·) 3 1 (some ⟨g, 0, none⟩) ls.length ls.length vals from own_ownS (show wx.drew.ownsRow _ _ _ _ _ _ from HPX.out))
            have HFIN := Lib.hid (fun w3 lsB r h1 h2 h3 h4 => mk_fin (W := W) (wx := wx.drew) (w3 := w3) (lsB := lsB) (r := r) hlt (by omega) hgcb hbcb hal HST.out h1 h2 h3 h4 (show wx.drew.ownsRow _ _ _ _ _ _ from HPX.out) HPLV.out (show wx.drew.heap[cb]? = _ from HCX.out) HBx2.out.drew)
            have hbg : b < g := by omega
            have hgx : g < wx.heap.size := (own_lt HPX.out).2
            have HIR := Lib.hid (show intL.row wx.drew (fun x => b < x ∧ x ≠ g) U ks from by
              have h := HOU.out
              exact ⟨(h.agree (w' := wx.drew) (drew_agree _ wx)).row, fun _ _ => trivial⟩)
            clear hSS
            by_cases h4 : x.nd.kind = 4
            · have H4 := Lib.hid h4
              clear h4
              have cj : wx.cell? ⟨cb, x.nd.kind.toNat, none⟩ = some (.func (.func 52) #[] #[]) := by
                rw [cell_of_row _ _ _ _ _ _ HCX.out]
                rw [H4.out]; rfl
              have HKE := Lib.hid (seq_any b (fun x => b < x ∧ x ≠ g) HSS.out lsA x.nd (.slice x.A x.nd.kids.length x.c) ks U uc _ wx.drew (fun y hy => ⟨by have hy : wx.heap.size ≤ y := hy; omega, by have hy : wx.heap.size ≤ y := hy; omega⟩) HAXD.out HWF.out HIR.out (by omega) HKB.out (by omega))
              rw [hul] at HKE
              unfold StepPost at HKE
              go_upto_region 15 with (fail)
              go_region_law ((go_simp; go_at_call 52; refine (HKE.out).mono ?_; rintro e w3 ⟨lsB, rfl, h1, h2, h3⟩; have HQ1 := Lib.hid h1; have HQ2 := Lib.hid h2; have HQ3 := Lib.hid h3; have HP3 := Lib.hid (h3.int HPXD.out hgb).own; have cp := own_cell HP3.out k (by omega) hplp; have cf := World.ownsRow.frozenAt HP3.out k; clear h1 h2 h3))
              all_goals
                go_wp2_with fail
                refine ⟨HFIN.out _ lsB _ ?_ ?_ HQ2.out HQ3.out, by simp only [intOf]; omega⟩
                · rw [HQ1.out]; unfold stepJ; rw [if_pos H4.out]
                · unfold stepJ; rw [if_pos H4.out]
            · by_cases h5 : x.nd.kind = 5
              · have H5 := Lib.hid h5
                clear h5
                have cj : wx.cell? ⟨cb, x.nd.kind.toNat, none⟩ = some (.func (.func 53) #[] #[]) := by
                  rw [cell_of_row _ _ _ _ _ _ HCX.out]
                  rw [H5.out]; rfl
                have HKE := Lib.hid (choice_any b (fun x => b < x ∧ x ≠ g) HSS.out lsA x.nd (.slice x.A x.nd.kids.length x.c) ks U uc _ wx.drew (fun y hy => ⟨by have hy : wx.heap.size ≤ y := hy; omega, by have hy : wx.heap.size ≤ y := hy; omega⟩) HAXD.out HWF.out HIR.out (by omega) HKB.out (by omega))
                rw [hul] at HKE
                unfold StepPost at HKE
                go_upto_region 15 with (fail)
                go_region_law ((go_simp; go_at_call 53; refine (HKE.out).mono ?_; rintro e w3 ⟨lsB, rfl, h1, h2, h3⟩; have HQ1 := Lib.hid h1; have HQ2 := Lib.hid h2; have HQ3 := Lib.hid h3; have HP3 := Lib.hid (h3.int HPXD.out hgb).own; have cp := own_cell HP3.out k (by omega) hplp; have cf := World.ownsRow.frozenAt HP3.out k; clear h1 h2 h3))
                all_goals
                  go_wp2_with fail
                  refine ⟨HFIN.out _ lsB _ ?_ ?_ HQ2.out HQ3.out, by simp only [intOf]; omega⟩
                  · rw [HQ1.out]; unfold stepJ; rw [if_neg h4, if_pos H5.out]
                  · unfold stepJ; rw [if_neg h4, if_pos H5.out]
              · skip
                have cj : wx.cell? ⟨cb, x.nd.kind.toNat, none⟩ = some (.func (.func 51) #[] #[]) := by
                  rw [cell_of_row _ _ _ _ _ _ HCX.out]
                  obtain ⟨m, hm⟩ := Int.eq_ofNat_of_zero_le n1
                  rw [hm, Int.toNat_natCast]
                  have : m = 0 ∨ m = 1 ∨ m = 2 ∨ m = 3 ∨ m = 6 ∨ m = 7 ∨ m = 8 ∨ m = 9 := by omega
                  rcases this with rfl | rfl | rfl | rfl | rfl | rfl | rfl | rfl <;> rfl
                have HNO := Lib.hid (show NdOwn wx.drew (fun x => b < x ∧ x ≠ g) ⟨{ x.nd with kids := ks }, U, uc⟩ from ⟨⟨HWF.out.1, HWF.out.2.1, by show ks.length ≤ _; omega, HWF.out.2.2.2⟩, by show OwnS wx.drew _ _ 1 U ks.length uc (intL.all ks); rw [hul]; exact HOU.out.agree (drew_agree _ wx)⟩)
                have HKE := Lib.hid (keep_any b (fun x => b < x ∧ x ≠ g) HSS.out lsA ⟨{ x.nd with kids := ks }, U, uc⟩ (.slice x.A x.nd.kids.length x.c) wx.drew HAXD.out HNO.out (by omega))
                unfold StepPost at HKE
                simp only [Ln.kv] at HKE
                rw [hul] at HKE
                go_upto_region 15 with (fail)
                go_region_law ((go_simp; go_at_call 51; refine (HKE.out).mono ?_; rintro e w3 ⟨lsB, rfl, h1, h2, h3⟩; have HQ1 := Lib.hid h1; have HQ2 := Lib.hid h2; have HQ3 := Lib.hid h3; have HP3 := Lib.hid (h3.int HPXD.out hgb).own; have cp := own_cell HP3.out k (by omega) hplp; have cf := World.ownsRow.frozenAt HP3.out k; clear h1 h2 h3))
                all_goals
                  go_wp2_with fail
                  refine ⟨HFIN.out _ lsB _ ?_ ?_ HQ2.out HQ3.out, by simp only [intOf]; omega⟩
                  · rw [HQ1.out]; unfold stepJ; rw [if_neg h4, if_neg h5]
                  · unfold stepJ; rw [if_neg h4, if_neg h5, List.length_map]
      · obtain rfl : k = ls.length := by omega
        have hroot := HR.out.1
        simp only [List.length_map] at hroot
        obtain ⟨ro, hro⟩ := Int.eq_ofNat_of_zero_le hroot.1
        subst hro
        have hrl : ro < ls.length := by omega
        have HMI2 := Lib.hid (show MakeInv ⟨ls.map Ln.nd, (ro : Int)⟩ (ls.map Ln.nd).length (lsA.map Ln.nd) pl from by rw [List.length_map]; exact HMI.out)
        have HDN := Lib.hid (HMI2.out.done HR.out (right_fit HR.out _ (by simpa using hrl)))
        have HNP := Lib.hid (HMI2.out.nodup HR.out)
        simp only [Int.toNat_natCast] at HDN HNP
        have hpz := HMI2.out.nonneg ro (by simpa using hrl)
        have hplt := (HMI2.out.rep ro (by simpa using hrl)).lt
        rw [List.length_map] at hplt
        have c0 := own_cell HPV.out ro hrl (HPLV.out ro hrl)
        obtain ⟨pp, hpp⟩ := Int.eq_ofNat_of_zero_le hpz
        rw [hpp] at c0 HDN HNP hplt
        simp only [Int.toNat_natCast] at HDN HNP hplt
        have hal := HAL.out
        have HTK := Lib.hid (ataken_any b lsA pp wo (HAA.out.at fun y hy => hy.1) HMI2.out.ahead (by omega) hplt HNP.out)
        rw [HDN.out.2] at HTK
        unfold TakenPost at HTK
        have HKO := Lib.hid (And.intro ((HB.out.block w.heap.size (by omega)).trans HKW.out.1) ((HB.out.block (w.heap.size + 1) (by omega)).trans HKW.out.2))
        obtain ⟨k0, k1, k2, k3⟩ := blk2 HKO.out.1
        have d1 : ¬ (ls.length : Int) < (ls.length : Int) := by omega
        have i5 : (ro : Int) < (ls.length : Int) := by omega
        have i6 : (0 : Int) ≤ (ro : Int) := by omega
        clear hpp hpz
        go_wp2_with (first
          | (go_at_call 36; (with_reducible refine (HTK.out).mono ?_); rintro e w5 ⟨v, rfl, h1, h2, h3⟩; have HQ1 := Lib.hid h1; have HQ2 := Lib.hid h2; have HQ3 := Lib.hid h3; have HK5 := Lib.hid ((h3.block (w.heap.size + 1) (by omega)).trans HKO.out.2); clear h1 h2 h3; obtain ⟨s0, s1, s2, s3⟩ := blk2 HK5.out)
          | fail)
        have HRS := Lib.hid (show ∀ y, y ≠ w.heap.size + 1 → ((w5.setCell ⟨w.heap.size + 1, 0, none⟩ (.slice v.A v.ls.length v.c)).setCell ⟨w.heap.size + 1, 1, none⟩ (.int .i64 v.root)).heap[y]? = w5.heap[y]? from fun y hy => (Below.heap_setCell _ _ _ _ hy).trans (Below.heap_setCell _ _ _ _ hy))
        refine bodyPost_ret (v := .tuple #[v.val, .bool true]) (by simp [results, Tryd.results19, go_sem, s0, s1]) rfl ?_
        unfold MakePost
        refine ⟨fun _ => ⟨v, rfl, HQ1.out, (HQ2.out.agree (fun y hy _ => HRS.out y (by have hy : b < y := hy; omega))).mono (fun y _ hy => by have hy : b < y := hy; show w.heap.size ≤ y; omega), ?_⟩, fun h => (by rw [hr] at h; cases h)⟩
        exact (((HBW.out.trans (HB.out.mono (by omega))).trans (HQ3.out.mono (by omega))).setCell (p := ⟨w.heap.size + 1, 0, none⟩) (Nat.le_succ _) _).setCell (p := ⟨w.heap.size + 1, 1, none⟩) (Nat.le_succ _) _
end Go.Proofs.YtfncfmiccomgcaaDoor
