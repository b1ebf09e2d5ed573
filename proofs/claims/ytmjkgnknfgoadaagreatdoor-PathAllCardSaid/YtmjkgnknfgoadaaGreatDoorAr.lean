/- The contract of path.graft. -/
import Derived.Test.YtmjkgnknfgoadaaGreatDoorAn
namespace Go.Proofs.YtmjkgnknfgoadaaGreatDoor
open Go.RowKit
set_option linter.unusedSimpArgs false
set_option linter.unusedVariables false

/-- All but one row's block stays. -/
def KeptV (b : Nat) (V : Option Addr) (w w' : World) : Prop := Below b w w' ∧ ∀ x, x < w.heap.size → blkOf V ≠ some x → w'.heap[x]? = w.heap[x]?
def Suc (V V' : Option Addr) (w : World) : Prop := blkOf V' = blkOf V ∨ ∀ x, blkOf V' = some x → w.heap.size ≤ x
theorem KeptV.trans {b : Nat} {V V' : Option Addr} {w1 w2 w3 : World} (h : KeptV b V w1 w2) (hs : Suc V V' w1) (k : KeptV b V' w2 w3) : KeptV b V w1 w3 := ⟨h.1.trans k.1, fun x hx hV => by
  have h1 := h.1.size
  refine (k.2 x (by omega) fun e => ?_).trans (h.2 x hx hV)
  rcases hs with hs | hs
  · exact hV (hs ▸ e)
  · have := hs x e; omega⟩
theorem Suc.trans {V V' V2 : Option Addr} {w1 w2 : World} (h : Suc V V' w1) (hz : w1.heap.size ≤ w2.heap.size) (k : Suc V' V2 w2) : Suc V V2 w1 := by
  rcases k with k | k
  · rcases h with h | h
    · exact .inl (k.trans h)
    · exact .inr fun x e => h x (k ▸ e)
  · exact .inr fun x e => Nat.le_trans hz (k x e)
theorem Below.keptV {b : Nat} {V : Option Addr} {w w' : World} (h : Below w.heap.size w w') (hb : b ≤ w.heap.size) : KeptV b V w w' := ⟨h.mono hb, fun x hx _ => h.block x hx⟩
theorem KeptV.int {b : Nat} {V : Option Addr} {w w' : World} {B B' n c n' c' : Nat} {U : Option Addr} {ns xs : List Value} (h : KeptV b V w w') (hN : w.ownsRow B 71 9 (.slice V n c) n ns) (ho : w.ownsRow B' 3 1 (.slice U n' c') n' xs) : w'.ownsRow B' 3 1 (.slice U n' c') n' xs := by
  refine own_agree ho fun x hx => h.2 x (own_blk ho x hx).2 fun e => ?_
  obtain ⟨cs, m, e1⟩ := own_nodeBlk hN x e
  obtain ⟨cur, e2⟩ := own_cells ho hx
  rw [e2] at e1
  simp only [Option.some.injEq, Obj.cells.injEq] at e1
  exact node_ne_int e1.2.1.symm
theorem KeptV.nd {b B n c : Nat} {V : Option Addr} {w w' : World} {ns : List Value} {S : Nat → Prop} {l : Ln} (h : KeptV b V w w') (hN : w.ownsRow B 71 9 (.slice V n c) n ns) (hl : NdOwn w S l) : NdOwn w' S l :=
  ⟨hl.1, h.int hN hl.2.1, hl.2.2⟩
theorem gNode_eq {T : List Nd} {row : List Nat} {base i p : Nat} {nd : Nd} (h : row[i]? = some p) (hp : T[p]? = some nd) : gNode T row base i = { nd with kids := (List.range nd.kids.length).map fun (j : Nat) => (base : Int) + ((row.length : Int) - 1) - ((endE T row i : Int) + (j : Int)) } := by
  unfold gNode ndAt
  rw [h, Option.getD_some, hp]; rfl
def GraftPost (b : Nat) (S' : Nat → Prop) (N T : List Nd) (r : Nat) (V : Option Addr) (w : World) (e : Ending) (w' : World) : Prop :=
  ∃ (ls : List Ln) (V' : Option Addr) (c : Nat), e = .returned (.tuple #[.slice V' ls.length c, .int .i64 ((ls.length : Int) - 1)]) ∧ Grafted N T r (ls.map Ln.nd) ∧ w'.ownsRow b 71 9 (.slice V' ls.length c) ls.length (ndL.all ls) ∧ (∀ l ∈ ls, NdOwn w' S' l) ∧ KeptV b V w w' ∧ Suc V V' w
def GrRel1 (W : World) (T : List Nd) (r H : Nat) (v8 v9 : Value) (wr : World) : Prop :=
  ∃ (row : List Nat) (i : Nat) (V8 : Option Addr) (c8 : Nat), v8 = .slice V8 row.length c8 ∧ v9 = .int .i64 (i : Int) ∧ Hid (BInv T r row i) ∧ Hid (wr.ownsRow (H + 1) 3 1 (.slice V8 row.length c8) row.length (natsV row)) ∧ Hid (Below (H + 1) W wr) ∧ Hid (H + 1 ≤ wr.heap.size)
def GrRel2 (b : Nat) (S' : Nat → Prop) (W : World) (N T : List Nd) (row : List Nat) (V : Option Addr) (v0 v10 v11 : Value) (wr : World) : Prop :=
  ∃ (m : Nat) (ls : List Ln) (V' : Option Addr) (c : Nat), v0 = .slice V' ls.length c ∧ v10 = .int .i64 (endE T row (row.length - m)) ∧ v11 = .int .i64 ((row.length : Int) - 1 - (m : Int)) ∧ Hid (GInv N T row m (ls.map Ln.nd)) ∧
    Hid (wr.ownsRow b 71 9 (.slice V' ls.length c) ls.length (ndL.all ls)) ∧ Hid (∀ l ∈ ls, NdOwn wr S' l) ∧ Hid (KeptV b V W wr) ∧ Hid (Suc V V' W)
def GrRel3 (W : World) (nb g n : Nat) (f : Nat → Int) (v61 : Value) (wr : World) : Prop :=
  ∃ (j : Nat) (vals : List Value), j ≤ n ∧ v61 = .int .i64 (j : Int) ∧ Hid (wr.ownsRow (nb + 1) 3 1 (.slice (some ⟨g, 0, none⟩) n n) n vals) ∧ Hid (∀ q, q < j → vals[q]? = some (.int .i64 (f q))) ∧ Hid (Below (nb + 1) W wr)
set_option maxRecDepth 100000 in
set_option maxHeartbeats 6400000 in
theorem graft_any (b : Nat) (lsN : List Ln) (V : Option Addr) (vc : Nat) (A : Option Addr) (c : Nat) (ls : List Ln) (root : Int) (r : Nat) (S S' : Nat → Prop) (w : World) (hb : b ≤ w.heap.size) (hS' : ∀ x, w.heap.size ≤ x → S' x)
    (hN : w.ownsRow b 71 9 (.slice V lsN.length vc) lsN.length (ndL.all lsN)) (hK : ∀ l ∈ lsN, NdOwn w S' l) (hT : ∀ w', Below b w w' → ndL.row w' S A ls) (hok : ∀ i n, (ls.map Ln.nd)[i]? = some n → ndOk i n = true)
    (hA : Ahead (ls.map Ln.nd)) (hr : r < ls.length) (hl : ls.length ≤ 4294967296) (hsz : lsN.length + (postN (ls.map Ln.nd) r).length ≤ 4294967296) :
    Calls Tryz.prog 92 #[.slice V lsN.length vc, .agg #[.slice A ls.length c, .int .i64 root], .int .i64 r] w (GraftPost b S' (lsN.map Ln.nd) (ls.map Ln.nd) r V w) := by
  obtain ⟨i0, hi, hz0, hz1, hz2⟩ := info_parts infoInt
  obtain ⟨j0, hj, hy0, hy1, hy2⟩ := info_parts infoNode
  have hzc : (Value.agg #[.int .u8 0, .int .u64 0, .int .u64 0, .int .u64 0, .int .u64 0, .string ByteArray.empty, .int .i64 0, .int .i64 0, .slice none 0 0]).cells.size = 9 := rfl
  have HN := Lib.hid hN; have HK := Lib.hid hK; have HT := Lib.hid hT; have HOK := Lib.hid hok; have HA := Lib.hid hA; clear hN hK hT hok hA
  have HBX := Lib.hid (bx_new w (.cells #[.slice A ls.length c, .int .i64 root] 48))
  have HB0 := Lib.hid (bx1 w (.cells #[.slice A ls.length c, .int .i64 root] 48))
  have HW0 := Lib.hid (show (w.alloc (.cells #[.slice A ls.length c, .int .i64 root] 48)).heap.size = w.heap.size + 1 from by simp)
  have HVB := Lib.hid (own_blk HN.out)
  have HSS := Lib.hid hS'
  clear hS'
  go_enter Tryz.func92, Tryz.ntmps92
  go_upto_region 1 with (fail)
  generalize w.alloc (.cells #[.slice A ls.length c, .int .i64 root] 48) = W at *
  go_upto_region 3 with (fail)
  have HR1 := Lib.hid (bx_new W (.cells #[.int .i64 (r : Int)] 3))
  have HB1 := Lib.hid (bx1 W (.cells #[.int .i64 (r : Int)] 3))
  have HZ1 := Lib.hid (show (W.alloc (.cells #[.int .i64 (r : Int)] 3)).heap.size = W.heap.size + 1 from by simp)
  generalize W.alloc (.cells #[.int .i64 (r : Int)] 3) = W1 at *
  go_loopw [8, 9] (fun v8 v9 wr => GrRel1 W (ls.map Ln.nd) r w.heap.size v8 v9 wr) (fun _ v9 _ => (postN (ls.map Ln.nd) r).length - (intOf v9).toNat)
  case atStart =>
    refine ⟨[r], 0, some ⟨W.heap.size, 0, none⟩, 1, rfl, rfl, Lib.hid (BInv.start _ _), Lib.hid (own_of_full (by exact HR1.out) rfl (by have := HW0.out; omega) (by simp [maxLen])), Lib.hid (HB1.out.mono (by have := HW0.out; omega)), Lib.hid (by have := HW0.out; have := HZ1.out; omega)⟩
  case round =>
    clear HR1 HB1 HZ1
    obtain ⟨wo, rfl⟩ : ∃ wo : World, wo = wr := ⟨_, rfl⟩
    obtain ⟨row, i, V8, c8, rfl, rfl, HI, HO, HB, HWS⟩ := hrel
    have HBw := Lib.hid (show Below w.heap.size w wo from HB0.out.trans (HB.out.mono (Nat.le_succ _)))
    have hKB := (HB.out.block w.heap.size (Nat.lt_succ_self _)).trans HBX.out
    obtain ⟨k0, k1, k2, k3⟩ := blk2 hKB
    clear hKB
    have hbd := HI.out.bound
    have hle := HI.out.le
    by_cases hil : i < row.length
    · have HST := Lib.hid (HI.out.step HA.out hil)
      have hk : row[i] < ls.length := by have := HI.out.lt _ (List.getElem_mem hil); omega
      obtain ⟨g, rfl, hg1, hg2⟩ := own_some HO.out (by omega)
      have c0 := own_cell HO.out i hil (u := .int .i64 (row[i] : Int)) (by simp [natsV, hil])
      obtain ⟨ab, ao, hab, _, hab2, x0, x1, x2, x3, x4, x5, x6, x7, x8⟩ := ndRow (HT.out wo (HBw.out.mono hb)) row[i] hk
      have HKR := Lib.hid (ndSub (HT.out wo (HBw.out.mono hb)) row[i] hk)
      have HKV := Lib.hid (show intL.all ls[row[i]].nd.kids = natsV (kidsAt (ls.map Ln.nd) row[i]) from by
        have := kids_nats (ls.map Ln.nd) row[i] (by simpa using hk) (fun k hk' => by
          have h := HOK.out row[i] ls[row[i]].nd (by simp [hk])
          simp only [ndOk, Bool.and_eq_true, List.all_eq_true, decide_eq_true_eq] at h
          exact (h.2 k (by simpa using hk')).1)
        simpa using this)
      have hkn : (kidsAt (ls.map Ln.nd) row[i]).length = ls[row[i]].nd.kids.length := by simp [kidsAt, hk]
      have hbd2 := HST.out.bound
      rw [List.length_append, hkn] at hbd2
      have HKN := Lib.hid hkn
      clear hkn x0 x1 x2 x3 x4 x5 x6 x7
      subst hab
      have i1 : (i : Int) < (row.length : Int) := by omega
      have i2 : (0 : Int) ≤ (i : Int) := by omega
      have i3 : (row[i] : Int) < (ls.length : Int) := by omega
      have i4 : (0 : Int) ≤ (row[i] : Int) := by omega
      generalize hrv : row[i] = ri at *
      have HF := Lib.hid (show row.length + ls[ri].nd.kids.length ≤ maxLen ∧ (row.length + ls[ri].nd.kids.length) * 8 ≤ 140737488355328 ∧ w.heap.size + 1 ≤ wo.drew.heap.size from ⟨by unfold maxLen; omega, by omega, HWS.out⟩)
      have HOD := Lib.hid (show wo.drew.ownsRow (w.heap.size + 1) 3 1 (.slice (some ⟨g, 0, none⟩) row.length c8) row.length (natsV row) from HO.out)
      go_upto_region 5 with (fail)
      go_region_law ((refine step_append_at (by rfl) (.tmp 23) (.tmp 32) 54 (by rfl) (w.heap.size + 1) 3 i0 (.int .i64 0) 1 8 Tryz.underlying54 hi hz0 hz1 hz2 rfl (by decide) (some ⟨g, 0, none⟩) c8 row.length (natsV row) (by rfl) HOD.out ls[ri].A ls[ri].nd.kids.length ls[ri].c (intL.all ls[ri].nd.kids) (by rfl) (by rw [intL.all_length]; rfl) HKR.out.rowAt (intL.all_one' _) HF.out.1 HF.out.2.1 HF.out.2.2 ?_; intro V' vc' w2 HO2 HG2 HA2))
      all_goals
        go_wp2_with fail
        exact ⟨⟨row ++ kidsAt (ls.map Ln.nd) ri, i + 1, V', vc', by rw [List.length_append, HKN.out], by go_num, HST, Lib.hid (by rw [natsV_append, List.length_append, HKN.out, ← HKV.out]; exact HO2.out), Lib.hid (HB.out.trans ((Below.refl _ wo).drew.trans (below_grownA HOD.out HG2.out (Nat.le_refl _) HF.out.2.2))), Lib.hid (by have h := HG2.out.size; have := HWS.out; have h2 : wo.drew.heap.size = wo.heap.size := rfl; omega)⟩, by simp [intOf]; omega⟩
    · obtain rfl : i = row.length := by omega
      have HD := Lib.hid HI.out.done
      have i1 : ¬ (row.length : Int) < (row.length : Int) := by omega
      have hr0 := HD.out.first.1
      have HRL := Lib.hid HD.out.len
      obtain ⟨g, rfl, hg1, hg2⟩ := own_some HO.out hr0
      have HEN := Lib.hid HD.out.en
      clear k2 k3
      have HKBo := Lib.hid ((HB.out.block w.heap.size (Nat.lt_succ_self _)).trans HBX.out)
      clear k0 k1
      go_upto_region 8 with (fail)
      go_loopw [0, 10, 11] (fun v0 v10 v11 wr => GrRel2 b S' wo (lsN.map Ln.nd) (ls.map Ln.nd) row V v0 v10 v11 wr) (fun _ _ v11 _ => (intOf v11 + 1).toNat)
      case atStart =>
        exact ⟨0, lsN, V, vc, rfl, by rw [Nat.sub_zero, HEN.out], by simp, Lib.hid (GInv.start HD.out), Lib.hid (own_agree HN.out fun x hx => HBw.out.block x (HVB.out x hx).2), Lib.hid (fun l hl => (HK.out l hl).agree (below_all HBw.out)), Lib.hid ⟨Below.refl _ _, fun _ _ _ => rfl⟩, Lib.hid (.inl rfl)⟩
      case round =>
        obtain ⟨wx, rfl⟩ : ∃ wx : World, wx = wr := ⟨_, rfl⟩
        obtain ⟨m, lsC, V', c', rfl, rfl, rfl, HG, HNx, HKx, HKV, HSV⟩ := hrel
        have hm := HG.out.le
        have HLC := Lib.hid (show lsC.length = lsN.length + m from by have := HG.out.len; simpa using this)
        have HHw := Lib.hid (show w.heap.size < wo.heap.size from by have := HWS.out; omega)
        have HKBx := Lib.hid (show wx.heap[w.heap.size]? = some (.cells #[.slice A ls.length c, .int .i64 root] 48 (0, 0)) from (HKV.out.2 _ HHw.out (fun e => by have := (HVB.out _ e).2; omega)).trans HKBo.out)
        have HNo := Lib.hid (show wo.ownsRow b 71 9 (.slice V lsN.length vc) lsN.length (ndL.all lsN) from own_agree HN.out fun x hx => HBw.out.block x (HVB.out x hx).2)
        have HOx := Lib.hid (HKV.out.int HNo.out HO.out)
        have HBb := Lib.hid (show Below b w wx from (HBw.out.mono hb).trans HKV.out.1)
        by_cases hml : m < row.length
        · have HST := Lib.hid (HG.out.step HOK.out (by simpa using hr) HD.out hml)
          obtain ⟨i, hidef⟩ : ∃ i, i = row.length - 1 - m := ⟨_, rfl⟩
          have hil : i < row.length := by omega
          rw [← hidef] at HST
          have hv11 : ((row.length : Int) - 1 - (m : Int)) = (i : Int) := by omega
          have hsub : row.length - m = i + 1 := by omega
          rw [hv11, hsub]
          have HES := Lib.hid (HD.out.es i hil)
          have HEL := Lib.hid (HD.out.le (i + 1) (by omega))
          have hk : row[i] < ls.length := by have := HD.out.lt _ (List.getElem_mem hil); omega
          have c0 := own_cell HOx.out i hil (u := .int .i64 (row[i] : Int)) (by simp [natsV, hil])
          obtain ⟨ab, ao, hab, _, hab2, x0, x1, x2, x3, x4, x5, x6, x7, x8⟩ := ndRow (HT.out wx HBb.out) row[i] hk
          have HWF := Lib.hid (ndWf (HT.out wx HBb.out) row[i] hk)
          have HGN := Lib.hid (gNode_eq (T := ls.map Ln.nd) (row := row) (base := (lsN.map Ln.nd).length) (i := i) (p := row[i]) (nd := ls[row[i]].nd) (List.getElem?_eq_getElem hil) (by simp [hk]))
          have HKL := Lib.hid (show (kidsAt (ls.map Ln.nd) row[i]).length = ls[row[i]].nd.kids.length from by simp [kidsAt, hk])
          rw [HKL.out] at HES
          obtain ⟨k0, k1, k2, k3⟩ := blk2 HKBx.out
          subst hab
          have i2 : (i : Int) < (row.length : Int) := by omega
          have i3 : (0 : Int) ≤ (i : Int) := by omega
          have i4 : (row[i] : Int) < (ls.length : Int) := by omega
          have i5 : (0 : Int) ≤ (row[i] : Int) := by omega
          have i6 : (i : Int) ≥ 0 := i3
          generalize row[i] = ri at *
          generalize ls[ri] = x at *
          clear k2 k3
          have HID := Lib.hid (And.intro hidef (And.intro hv11 hsub))
          clear hidef hv11 hsub
          go_upto_region 10 with (fail)
          have hz9 : ∀ (p : Addr) (u : Value), wx.cell? p = some u → (wx.alloc (.cells #[.int .u8 0, .int .u64 0, .int .u64 0, .int .u64 0, .int .u64 0, .string ⟨#[]⟩, .int .i64 0, .int .i64 0, .slice none 0 0] 71)).cell? p = some u := fun p u h => ((bx1 wx _).cell (cellLt h)).trans h
          have c0z := hz9 _ _ c0
          have k0z := hz9 _ _ k0
          have k1z := hz9 _ _ k1
          have x0z := hz9 _ _ x0
          have x1z := hz9 _ _ x1
          have x2z := hz9 _ _ x2
          have x3z := hz9 _ _ x3
          have x4z := hz9 _ _ x4
          have x5z := hz9 _ _ x5
          have x6z := hz9 _ _ x6
          have x7z := hz9 _ _ x7
          have x8z := hz9 _ _ x8
          clear hz9
          go_region
          clear c0z k0z k1z x0z x1z x2z x3z x4z x5z x6z x7z x8z x0 x1 x2 x3 x4 x5 x6 x7 x8 c0 k0 k1
          have HX5 := Lib.hid (show (wx.alloc (.cells #[.int .u8 x.nd.kind, .int .u64 x.nd.s0, .int .u64 x.nd.s1, .int .u64 x.nd.s2, .int .u64 x.nd.s3, .string x.nd.text, .int .i64 x.nd.mn, .int .i64 x.nd.mx, .slice x.A x.nd.kids.length x.c] 71)).drew.heap[wx.heap.size]? = some (.cells #[.int .u8 x.nd.kind, .int .u64 x.nd.s0, .int .u64 x.nd.s1, .int .u64 x.nd.s2, .int .u64 x.nd.s3, .string x.nd.text, .int .i64 x.nd.mn, .int .i64 x.nd.mx, .slice x.A x.nd.kids.length x.c] 71 (0, 0)) from bx_new wx _)
          have HB5 := Lib.hid (show Below wx.heap.size wx (wx.alloc (.cells #[.int .u8 x.nd.kind, .int .u64 x.nd.s0, .int .u64 x.nd.s1, .int .u64 x.nd.s2, .int .u64 x.nd.s3, .string x.nd.text, .int .i64 x.nd.mn, .int .i64 x.nd.mx, .slice x.A x.nd.kids.length x.c] 71)).drew from (bx1 wx _).drew)
          have HZ5 := Lib.hid (show (wx.alloc (.cells #[.int .u8 x.nd.kind, .int .u64 x.nd.s0, .int .u64 x.nd.s1, .int .u64 x.nd.s2, .int .u64 x.nd.s3, .string x.nd.text, .int .i64 x.nd.mn, .int .i64 x.nd.mx, .slice x.A x.nd.kids.length x.c] 71)).drew.heap.size = wx.heap.size + 1 from by show (wx.alloc _).heap.size = _; simp)
          generalize (wx.alloc (.cells #[.int .u8 x.nd.kind, .int .u64 x.nd.s0, .int .u64 x.nd.s1, .int .u64 x.nd.s2, .int .u64 x.nd.s3, .string x.nd.text, .int .i64 x.nd.mn, .int .i64 x.nd.mx, .slice x.A x.nd.kids.length x.c] 71)).drew = W5 at *
          have hnk : x.nd.kids.length ≤ 4294967296 := by have := HES.out; have := HEL.out; omega
          have HFK := Lib.hid (show i0.bytes * x.nd.kids.length ≤ 281474976710656 ∧ x.nd.kids.length ≤ maxLen from ⟨by rw [hz2]; omega, by unfold maxLen; omega⟩)
          have hw : IntKind.i64.wrap ((endE (ls.map Ln.nd) row (i + 1) : Int) - (x.nd.kids.length : Int)) = (endE (ls.map Ln.nd) row i : Int) := by
            have := HES.out; have := HEL.out
            rw [IntWalk.i64_in _ (by omega)]; omega
          obtain ⟨_, _, _, _, _, _, _, _, y8, _⟩ := blk9 HX5.out
          go_upto_region 14 with (first
            | (at_make; refine wpList_make_full _ rfl _ _ 54 rfl (wx.heap.size + 1) 3 i0 _ 1 Tryz.underlying54 hi hz0 hz1 .i64 .i64 _ _ x.nd.kids.length rfl rfl rfl rfl HFK.out.1 HFK.out.2 (by have := HZ5.out; omega) ?_; intro w6 hown6 hgrow6; have HO6 := Lib.hid hown6; have HB6 := Lib.hid (show Below W5.heap.size W5 w6 from (Below.refl _ _).grown hgrow6 (Nat.le_refl _) (fun k e => by cases e)); clear hown6 hgrow6)
            | fail)
          clear y8 hw
          have HG3 := Lib.hid (show wx.heap.size < W5.heap.size from by have := HZ5.out; omega)
          have HKN := Lib.hid hnk
          have HLI := Lib.hid (show lsC.length + i + 1 = lsN.length + row.length ∧ lsN.length + row.length ≤ 4294967296 from by have := HLC.out; have := HID.out.1; have := HRL.out; omega)
          generalize hg3 : W5.heap.size = g3 at *
          have HG3E := Lib.hid hg3
          clear hg3
          go_loopw [61] (fun v61 wr => GrRel3 W5 wx.heap.size g3 x.nd.kids.length (fun j => (lsN.length : Int) + ((row.length : Int) - 1) - ((endE (ls.map Ln.nd) row i : Int) + (j : Int))) v61 wr) (fun v61 _ => x.nd.kids.length - (intOf v61).toNat)
          case atStart =>
            exact ⟨0, _, Nat.zero_le _, rfl, HO6, Lib.hid (fun q h => by omega), Lib.hid (HB6.out.mono (by have := HG3.out; omega))⟩
          case round =>
            clear HO6 HB6
            obtain ⟨wy, rfl⟩ : ∃ wy : World, wy = wr := ⟨_, rfl⟩
            obtain ⟨j, vals, hjn, rfl, HOy, HVy, HBy⟩ := hrel
            have hnk := HKN.out
            by_cases hjl : j < x.nd.kids.length
            · have hE1 := HES.out
              have hE2 := HEL.out
              have hE3 := HLI.out
              have F1 := Lib.hid (show (lsC.length : Int) + (i : Int) = (lsN.length : Int) + ((row.length : Int) - 1) ∧ IntKind.i64.wrap ((lsC.length : Int) + (i : Int)) = (lsN.length : Int) + ((row.length : Int) - 1) ∧ IntKind.i64.wrap ((endE (ls.map Ln.nd) row i : Int) + (j : Int)) = (endE (ls.map Ln.nd) row i : Int) + (j : Int) ∧ IntKind.i64.wrap ((lsN.length : Int) + ((row.length : Int) - 1) - ((endE (ls.map Ln.nd) row i : Int) + (j : Int))) = (lsN.length : Int) + ((row.length : Int) - 1) - ((endE (ls.map Ln.nd) row i : Int) + (j : Int)) from by
                refine ⟨by omega, ?_, ?_, ?_⟩ <;> rw [IntWalk.i64_in _ (by omega)] <;> omega)
              clear hE1 hE2 hE3
              have w1 := F1.out.2.1
              have w2 := F1.out.2.2.1
              obtain ⟨ff, hff⟩ : ∃ ff : Int, ff = (lsN.length : Int) + ((row.length : Int) - 1) - ((endE (ls.map Ln.nd) row i : Int) + (j : Int)) := ⟨_, rfl⟩
              have w3 := F1.out.2.2.2
              rw [← hff] at w3
              have w4 : IntKind.i64.wrap ((lsN.length : Int) + ((row.length : Int) - 1) - ((endE (ls.map Ln.nd) row i : Int) + (j : Int))) = ff := by rw [← hff]; exact w3
              clear w3
              have HFF := Lib.hid hff
              clear hff
              obtain ⟨u0, hu0⟩ : ∃ u, vals[j]? = some u := ⟨_, List.getElem?_eq_getElem (show j < vals.length by have := HOy.out.1; omega)⟩
              have cy := own_cell HOy.out j hjl hu0
              have cf := World.ownsRow.frozenAt HOy.out j
              have i7 : (j : Int) < (x.nd.kids.length : Int) := by omega
              have i8 : (0 : Int) ≤ (j : Int) := by omega
              have hvl := HOy.out.1
              have HNX := Lib.hid (World.ownsRow.stored HOy.out j (.int .i64 ff)).1
              go_wp2_with fail
              refine ⟨⟨j + 1, vals.set j (.int .i64 ff), hjl, congrArg (Value.int .i64) (by omega), HNX, Lib.hid fun q hq => ?_, Lib.hid (HBy.out.setCell (p := ⟨g3, j, none⟩) (by have := HG3.out; show _ ≤ g3; omega) _)⟩, by simp [intOf]; omega⟩
              by_cases e : q = j
              · subst e
                rw [List.getElem?_set_self (by omega), HFF.out]
              · rw [List.getElem?_set_ne (by omega)]
                exact HVy.out q (by omega)
            · obtain rfl : j = x.nd.kids.length := by omega
              have HNK := Lib.hid (show vals = intL.all ((List.range x.nd.kids.length).map fun (j : Nat) => ((lsN.map Ln.nd).length : Int) + ((row.length : Int) - 1) - ((endE (ls.map Ln.nd) row i : Int) + (j : Int))) from by
                have hvl := HOy.out.1
                rw [intL_all, List.map_map]
                refine List.ext_getElem? fun q => ?_
                by_cases hq : q < x.nd.kids.length
                · rw [HVy.out q hq]
                  simp [hq]
                · rw [List.getElem?_eq_none (by omega), List.getElem?_eq_none (by simp; omega)])
              generalize hkk : ((List.range x.nd.kids.length).map fun (j : Nat) => ((lsN.map Ln.nd).length : Int) + ((row.length : Int) - 1) - ((endE (ls.map Ln.nd) row i : Int) + (j : Int))) = kk at *
              have HKK := Lib.hid (show kk.length = x.nd.kids.length from by rw [← hkk]; simp)
              clear hkk
              have i7 : ¬ (x.nd.kids.length : Int) < (x.nd.kids.length : Int) := by omega
              have HBX6 := Lib.hid ((HBy.out.block wx.heap.size (Nat.lt_succ_self _)).trans HX5.out)
              obtain ⟨_, _, _, _, _, _, _, _, y8, _, _, _, _, _, _, _, _, z8⟩ := blk9 HBX6.out
              have HX7 := Lib.hid (set_blk9 (u := (.slice (some ⟨g3, 0, none⟩) x.nd.kids.length x.nd.kids.length)) HBX6.out)
              have HE7 := Lib.hid (show ∀ x', x' ≠ wx.heap.size → (wy.setCell ⟨wx.heap.size, 8, none⟩ (.slice (some ⟨g3, 0, none⟩) x.nd.kids.length x.nd.kids.length)).heap[x']? = wy.heap[x']? from fun x' hx => Below.heap_setCell _ _ _ _ hx)
              have HB7 := Lib.hid (show Below wx.heap.size wx (wy.setCell ⟨wx.heap.size, 8, none⟩ (.slice (some ⟨g3, 0, none⟩) x.nd.kids.length x.nd.kids.length)) from (HB5.out.trans (HBy.out.mono (Nat.le_succ _))).setCell (p := ⟨wx.heap.size, 8, none⟩) (Nat.le_refl _) _)
              have HZ7 := Lib.hid (show (wy.setCell ⟨wx.heap.size, 8, none⟩ (.slice (some ⟨g3, 0, none⟩) x.nd.kids.length x.nd.kids.length)).heap.size = wy.heap.size from by simp)
              go_upto_region 19 with (fail)
              generalize (wy.setCell ⟨wx.heap.size, 8, none⟩ (.slice (some ⟨g3, 0, none⟩) x.nd.kids.length x.nd.kids.length)) = w7 at *
              clear y8 z8
              have HOA := Lib.hid (show (w7.alloc (.cells #[.int .u8 x.nd.kind, .int .u64 x.nd.s0, .int .u64 x.nd.s1, .int .u64 x.nd.s2, .int .u64 x.nd.s3, .string x.nd.text, .int .i64 x.nd.mn, .int .i64 x.nd.mx, .slice (some ⟨g3, 0, none⟩) x.nd.kids.length x.nd.kids.length] 71)).ownsRow b 71 9 (.slice V' lsC.length c') lsC.length (ndL.all lsC) from World.ownsRow.alloc (own_agree HNx.out fun y hy => HB7.out.block y (own_blk HNx.out y hy).2) _)
              have F9 := Lib.hid (show lsC.length + 1 ≤ maxLen ∧ (lsC.length + 1) * 96 ≤ 140737488355328 ∧ b ≤ (w7.alloc (.cells #[.int .u8 x.nd.kind, .int .u64 x.nd.s0, .int .u64 x.nd.s1, .int .u64 x.nd.s2, .int .u64 x.nd.s3, .string x.nd.text, .int .i64 x.nd.mn, .int .i64 x.nd.mx, .slice (some ⟨g3, 0, none⟩) x.nd.kids.length x.nd.kids.length] 71)).heap.size from ⟨by have := HLI.out; unfold maxLen; omega, by have := HLI.out; omega, by have := HB7.out.size; have := HBb.out.size; simp; omega⟩)
              refine wp_region_list ?_
              refine wpList_val rfl (exec_move rfl rfl) ?_
              refine wpList_val rfl (exec_load rfl rfl (load9 w7 wx.heap.size _ _ _ _ _ _ _ _ _ _ HX7.out)) ?_
              refine wpList_val rfl (exec_build rfl rfl (build9 w7 _ _ _ _ _ _ _ _ _)) ?_
              refine wpList_append_at _ rfl (.tmp 78) (.tmp 80) 46 rfl b 71 j0 _ 9 96 Tryz.underlying46 hj hy0 hy1 hy2 hzc (by decide) V' c' lsC.length (ndL.all lsC) rfl HOA.out (some ⟨w7.heap.size, 0, none⟩) 1 1 [.int .u8 x.nd.kind, .int .u64 x.nd.s0, .int .u64 x.nd.s1, .int .u64 x.nd.s2, .int .u64 x.nd.s3, .string x.nd.text, .int .i64 x.nd.mn, .int .i64 x.nd.mx, .slice (some ⟨g3, 0, none⟩) x.nd.kids.length x.nd.kids.length] rfl rfl (row_blk (bx_new w7 _)) (fun u hu => by simp only [List.mem_cons, List.not_mem_nil, or_false] at hu; rcases hu with rfl | rfl | rfl | rfl | rfl | rfl | rfl | rfl | rfl <;> rfl) F9.out.1 F9.out.2.1 F9.out.2.2 ?_
              intro V2 c2 w8 HO8 HG8 HA8
              simp only [Act.put, List.setIfInBounds_toArray, List.set_cons_zero, List.set_cons_succ]
              go_wp2_with fail
              have HVx := Lib.hid (own_blk HNx.out)
              have HBx2 := Lib.hid (show w.heap.size ≤ wx.heap.size from by have := HKV.out.1.size; have := HHw.out; omega)
              have hg3w : g3 < wy.heap.size := (own_lt HOy.out).2
              have hg3x := HG3.out
              have hne : ∀ y, y < w7.heap.size → blkOf V' ≠ some y → w8.heap[y]? = w7.heap[y]? := fun y hy hV => (HG8.out.block y (by simp; omega) (fun e => hV e.symm)).trans (Below.heap_alloc _ _ y hy)
              have h78 : w7.heap.size ≤ w8.heap.size := by have := HG8.out.size; simp at this; omega
              have hV3 : blkOf V' ≠ some g3 := fun e => by have := (HVx.out _ e).2; omega
              have hg8 : w8.heap[g3]? = wy.heap[g3]? := (hne g3 (by have := HZ7.out; omega) hV3).trans (HE7.out g3 (by omega))
              have hKV2 : KeptV b V' wx w8 := by
                refine ⟨?_, fun y hy hV => (hne y (by have := HB7.out.size; omega) hV).trans (HB7.out.block y hy)⟩
                have hbx : b ≤ wx.heap.size := by have := HBb.out.size; omega
                exact (HB7.out.mono hbx).trans (((bx1 w7 _).mono (by have := HB7.out.size; omega)).trans (below_grownA HOA.out HG8.out (Nat.le_refl _) F9.out.2.2))
              have hsv2 : Suc V' V2 wx := by
                rcases HA8.out with h | h
                · exact .inl h
                · refine .inr fun y e => ?_
                  rw [h] at e
                  simp only [World.size_alloc, Option.some.injEq] at e
                  have := HB7.out.size; omega
              refine ⟨⟨m + 1, lsC ++ [⟨{ x.nd with kids := kk }, some ⟨g3, 0, none⟩, x.nd.kids.length⟩], V2, c2, ?_, ?_, ?_, Lib.hid ?_, Lib.hid ?_, Lib.hid fun l hl => ?_, Lib.hid (HKV.out.trans HSV.out hKV2), Lib.hid (HSV.out.trans (by have := HKV.out.1.size; exact this) hsv2)⟩, ?_⟩
              · rw [List.length_append]; rfl
              · rw [show row.length - (m + 1) = i from by have := HID.out.1; omega]
              · have := HID.out.1; go_num
              · rw [List.map_append, List.map_singleton]
                have h := HST.out
                rw [HGN.out] at h; exact h
              · have h := HO8.out
                rw [List.length_append]
                rw [show ndL.all (lsC ++ [⟨{ x.nd with kids := kk }, some ⟨g3, 0, none⟩, x.nd.kids.length⟩]) = ndL.all lsC ++ [.int .u8 x.nd.kind, .int .u64 x.nd.s0, .int .u64 x.nd.s1, .int .u64 x.nd.s2, .int .u64 x.nd.s3, .string x.nd.text, .int .i64 x.nd.mn, .int .i64 x.nd.mx, .slice (some ⟨g3, 0, none⟩) x.nd.kids.length x.nd.kids.length] from by rw [Lay.all_append, Lay.all_one]; simp [ndL, HKK.out]]
                exact h
              · rcases List.mem_append.1 hl with hl | hl
                · exact hKV2.nd HNx.out (HKx.out l hl)
                · simp only [List.mem_singleton] at hl
                  subst hl
                  refine ⟨⟨HWF.out.1, HWF.out.2.1, by show kk.length ≤ _; rw [HKK.out]; omega, HWF.out.2.2.2⟩, ?_⟩
                  show OwnS w8 _ _ 1 _ kk.length _ (intL.all kk)
                  rw [HKK.out, ← HNK.out]
                  exact ⟨own_mono (own_agree HOy.out fun y hy => by cases hy; exact hg8) (Nat.zero_le _), fun y hy => by cases hy; exact HSS.out g3 (by have := HBx2.out; omega)⟩
              · simp only [intOf]; omega
        · obtain rfl : m = row.length := by omega
          have HGR := Lib.hid (HG.out.done HD.out)
          have i7 : ¬ ((row.length : Int) - 1 - (row.length : Int)) ≥ 0 := by omega
          have hlc : lsC.length ≤ 4294967296 := by have := HLC.out; have := HRL.out; omega
          go_wp2_with fail
          refine bodyPost_ret (v := .tuple #[.slice V' lsC.length c', .int .i64 ((lsC.length : Int) - 1)]) (by simp [results, Tryz.results92, go_sem]) rfl ?_
          exact ⟨lsC, V', c', rfl, HGR.out, HNx.out, HKx.out, (Below.keptV HBw.out hb).trans (.inl rfl) HKV.out, Suc.trans (V := V) (V' := V) (.inl rfl) (by have := HHw.out; omega) HSV.out⟩
end Go.Proofs.YtmjkgnknfgoadaaGreatDoor

/- Plain: what path.up appends. -/
namespace Go.Proofs.YtmjkgnknfgoadaaGreatDoor
set_option linter.unusedSimpArgs false
set_option linter.unusedVariables false

theorem goDown_last {l : List Nd} {k : Nat} {p : List Int} {A : List (Nat × Nat)} {a : Nat × Nat} {c : Nat} (h : goDown l k p = some (A ++ [a], c)) : ∃ q z, p = q ++ [z] ∧ goDown l k q = some (A, a.1) ∧ (kidsAt l a.1)[a.2]? = some c := by
  rcases List.eq_nil_or_concat p with rfl | ⟨q, z, rfl⟩
  · simp [goDown] at h
  · rw [List.concat_eq_append] at *
    rw [goDown_append] at h
    obtain ⟨r, hr, h⟩ := Option.bind_eq_some_iff.1 h
    obtain ⟨s, hs, h⟩ := Option.map_eq_some_iff.1 h
    simp only [goDown] at hs
    split at hs
    · obtain ⟨c', hc, hs⟩ := Option.bind_eq_some_iff.1 hs
      simp only [Option.map_some, Option.some.injEq] at hs
      subst hs
      simp only [Prod.mk.injEq] at h
      obtain ⟨h1, h2⟩ := h
      obtain ⟨h3, h4⟩ := List.append_inj' h1 rfl
      simp only [List.cons.injEq, and_true] at h4
      subst h3 h4 h2
      exact ⟨q, z, rfl, hr, hc⟩
    · cases hs
theorem put_snoc {l : List Nd} (hA : Ahead l) {k : Nat} {q : List Int} {z : Int} {A : List (Nat × Nat)} {a : Nat × Nat} {c : Nat} {y : TT} (h : goDown l k (q ++ [z]) = some (A ++ [a], c)) (hq : goDown l k q = some (A, a.1)) :
    putTT (den l k) (q ++ [z]) y = putTT (den l k) q (.mk (bareN (ndAt l a.1)) (((kidsAt l a.1).map (den l)).set a.2 y)) := by
  rw [← plug_put hA _ _ _ _ h, ← plug_put hA _ _ _ _ hq]
  exact plug_snoc l a y A
structure UInv (T : List Nd) (ks : List Nat) (kid : Nat) (N0 : List Nd) (rt : Nat) (y : TT) (i : Nat) (N : List Nd) (P : Nat → Nat) : Prop where
  le : i ≤ ks.length
  pre : N0 <+: N
  rep : ∀ q (h : q < ks.length), q < i → Rep N (if q = kid then y else den T ks[q]) (P q)
  there : kid < i → P kid = rt
  ne : ∀ q, q < i → q ≠ kid → P q ≠ rt
  inj : ∀ q q', q < q' → q' < i → P q ≠ P q'
  grove : Grove N (fun p => p = rt ∨ ∃ q, q < i ∧ p = P q)
  len : N.length + ((ks.drop i).flatMap (postN T)).length + (if kid < i then (postN T (ks[kid]?.getD 0)).length else 0) = N0.length + (ks.flatMap (postN T)).length
theorem UInv.start {T : List Nd} {ks : List Nat} {kid : Nat} {N0 : List Nd} {rt : Nat} {y : TT} (h : Grove N0 (fun p => p = rt)) (P : Nat → Nat) : UInv T ks kid N0 rt y 0 N0 P :=
  ⟨Nat.zero_le _, List.prefix_refl _, fun q _ h => by omega, fun h => by omega, fun q h => by omega, fun q q' _ h => by omega, h.congr fun p => ⟨.inl, fun h => h.elim id fun ⟨q, h, _⟩ => by omega⟩, by simp⟩
theorem UInv.here {T : List Nd} {ks : List Nat} {kid : Nat} {N0 N : List Nd} {rt : Nat} {y : TT} {P : Nat → Nat} (h : UInv T ks kid N0 rt y kid N P) (hk : kid < ks.length) (hy : Rep N0 y rt) :
    UInv T ks kid N0 rt y (kid + 1) N (fun q => if q = kid then rt else P q) := by
  have hyN : Rep N y rt := by obtain ⟨s, rfl⟩ := h.pre; exact hy.append
  refine ⟨hk, h.pre, fun q hq hqi => ?_, fun _ => by simp, fun q hq hne => ?_, fun q q' hqq hq' => ?_, h.grove.congr fun p => ?_, ?_⟩
  · by_cases e : q = kid
    · subst e; simpa using hyN
    · have := h.rep q hq (by omega)
      simp only [if_neg e] at this ⊢; exact this
  · simp only [if_neg hne]; exact h.ne q (by omega) hne
  · by_cases e : q' = kid
    · subst e
      simp only [if_neg (show q ≠ q' by omega), if_true]
      exact h.ne q (by omega) (by omega)
    · simp only [if_neg e, if_neg (show q ≠ kid by omega)]
      exact h.inj q q' hqq (by omega)
  · constructor
    · rintro (h1 | ⟨q, hq, rfl⟩)
      · exact .inl h1
      · exact .inr ⟨q, by omega, by rw [if_neg (by omega)]⟩
    · rintro (h1 | ⟨q, hq, rfl⟩)
      · exact .inl h1
      · by_cases e : q = kid
        · subst e; exact .inl (by simp)
        · exact .inr ⟨q, by omega, by rw [if_neg e]⟩
  · have h1 := h.len
    rw [if_neg (Nat.lt_irrefl _), List.drop_eq_getElem_cons hk, List.flatMap_cons, List.length_append] at h1
    rw [if_pos (Nat.lt_succ_self _), List.getElem?_eq_getElem hk, Option.getD_some]
    omega
theorem UInv.graft {T : List Nd} {ks : List Nat} {kid i : Nat} {N0 N N' : List Nd} {rt : Nat} {y : TT} {P : Nat → Nat} (h : UInv T ks kid N0 rt y i N P) (hi : i < ks.length) (hne : i ≠ kid) (hg : Grafted N T ks[i] N') :
    UInv T ks kid N0 rt y (i + 1) N' (fun q => if q = i then N'.length - 1 else P q) := by
  obtain ⟨hp, hl, hr, hG⟩ := hg
  have hpos := postN_ne T ks[i]
  have hlt : ∀ q, q < i → P q < N.length := fun q hq => h.grove.lt _ (.inr ⟨q, hq, rfl⟩)
  have hrt : rt < N.length := h.grove.lt _ (.inl rfl)
  refine ⟨hi, h.pre.trans hp, fun q hq hqi => ?_, fun hk => ?_, fun q hq hqk => ?_, fun q q' hqq hq' => ?_, (hG _ h.grove).congr fun p => ?_, ?_⟩
  · by_cases e : q = i
    · subst e; simp only [if_true, if_neg hne]; exact hr
    · have := h.rep q hq (by omega)
      simp only [if_neg e]
      obtain ⟨s, rfl⟩ := hp
      exact this.append
  · simp only [if_neg (Ne.symm hne)]
    exact h.there (by omega)
  · by_cases e : q = i
    · subst e; simp only [if_true]; omega
    · simp only [if_neg e]; exact h.ne q (by omega) hqk
  · by_cases e : q' = i
    · subst e
      simp only [if_neg (show q ≠ q' by omega), if_true]
      have := hlt q (by omega); omega
    · simp only [if_neg e, if_neg (show q ≠ i by omega)]
      exact h.inj q q' hqq (by omega)
  · constructor
    · rintro ((h1 | ⟨q, hq, rfl⟩) | rfl)
      · exact .inl h1
      · exact .inr ⟨q, by omega, by rw [if_neg (by omega)]⟩
      · exact .inr ⟨i, by omega, by simp⟩
    · rintro (h1 | ⟨q, hq, rfl⟩)
      · exact .inl (.inl h1)
      · by_cases e : q = i
        · subst e; exact .inr (by simp)
        · exact .inl (.inr ⟨q, by omega, by rw [if_neg e]⟩)
  · have h1 := h.len
    rw [List.drop_eq_getElem_cons hi, List.flatMap_cons, List.length_append] at h1
    have e : (kid < i + 1) = (kid < i) := by apply propext; omega
    simp only [e]
    omega
/-- The kids that are told at the end. -/
def upKids (n : Nat) (P : Nat → Nat) : List Int := (List.range n).map fun q => (P q : Int)
theorem UInv.done {T : List Nd} {node kid : Nat} {N0 N : List Nd} {rt : Nat} {y : TT} {P : Nat → Nat} (h : UInv T (kidsAt T node) kid N0 rt y (kidsAt T node).length N P) (hA : Ahead T) (hk : kid < (kidsAt T node).length)
    (hf : fitN (ndAt T node) (ndAt T node).kids.length = true) : Grove (N ++ [{ ndAt T node with kids := upKids (ndAt T node).kids.length P }]) (fun p => p = N.length) ∧ N0 <+: N ∧
      Rep (N ++ [{ ndAt T node with kids := upKids (ndAt T node).kids.length P }]) (.mk (bareN (ndAt T node)) (((kidsAt T node).map (den T)).set kid y)) N.length ∧ N.length + 1 + (postN T ((kidsAt T node)[kid]?.getD 0)).length = N0.length + (postN T node).length := by
  have hkl := kidsAt_len T node
  refine ⟨(h.grove.push (n := { ndAt T node with kids := upKids (ndAt T node).kids.length P }) (by rw [fitN_kids]; simpa [upKids] using hf) (fun k hk' => ?_) ?_).congr fun p => ?_, h.pre, rep_iff.2 ⟨{ ndAt T node with kids := upKids (ndAt T node).kids.length P }, by simp, rfl, by simp [upKids, hkl], fun j h1 h2 => ?_⟩, ?_⟩
  · obtain ⟨q, hq, rfl⟩ := List.mem_map.1 hk'
    rw [List.mem_range] at hq
    exact ⟨by omega, .inr ⟨q, by omega, by simp⟩⟩
  · unfold upKids
    refine List.pairwise_map.2 ?_
    refine List.Pairwise.imp_of_mem (R := fun a b => a < b) (fun {a b} ha hb hab e => ?_) List.pairwise_lt_range
    rw [List.mem_range] at ha hb
    exact h.inj a b hab (by omega) (by omega)
  · constructor
    · rintro (h1 | ⟨h1, h2⟩)
      · exact h1
      · exfalso
        rcases h1 with rfl | ⟨q, hq, rfl⟩
        · exact h2 (List.mem_map.2 ⟨kid, List.mem_range.2 (by omega), by rw [h.there hk]⟩)
        · exact h2 (List.mem_map.2 ⟨q, List.mem_range.2 (by omega), rfl⟩)
    · exact .inl
  · simp only [upKids, List.length_map, List.length_range] at h1
    simp only [upKids, List.getElem_map, List.getElem_range, Int.toNat_natCast]
    refine ⟨by omega, ?_⟩
    have hr := (h.rep j (by omega) (by omega)).append (m := [{ ndAt T node with kids := upKids (ndAt T node).kids.length P }])
    by_cases e : j = kid
    · subst e
      rw [if_pos rfl] at hr
      rw [List.getElem_set_self]; exact hr
    · rw [if_neg e] at hr
      rw [List.getElem_set_ne (Ne.symm e), List.getElem_map]; exact hr
  · have h1 := h.len
    rw [List.drop_length, if_pos hk] at h1
    rw [postN_eq hA node, List.length_append]
    simp only [List.flatMap_nil, List.length_nil, List.length_singleton] at h1 ⊢
    omega
end Go.Proofs.YtmjkgnknfgoadaaGreatDoor

/- The contracts of path.last and path.up. -/
namespace Go.Proofs.YtmjkgnknfgoadaaGreatDoor
open Go.RowKit
set_option linter.unusedSimpArgs false
set_option linter.unusedVariables false

theorem set_two {W : World} {b : Nat} {u v x y : Value} {T : TypeId} (h : W.heap[b]? = some (.cells #[u, v] T (0, 0))) : ((W.setCell ⟨b, 0, none⟩ x).setCell ⟨b, 1, none⟩ y).heap[b]? = some (.cells #[x, y] T (0, 0)) := by
  have h1 := heap_setCell_same W b 0 _ T x h
  have h2 := heap_setCell_same _ b 1 _ T y h1
  simpa using h2
set_option maxRecDepth 100000 in
set_option maxHeartbeats 3200000 in
theorem last_any (g n c : Nat) (x y : Int) (w : World) (hn : n ≤ 4294967296) (hc : n + 1 ≤ c) (h0 : w.cell? ⟨g, n * 2, none⟩ = some (.int .i64 x)) (h1 : w.cell? ⟨g, n * 2 + 1, none⟩ = some (.int .i64 y)) :
    Calls Tryz.prog 126 #[.slice (some ⟨g, 0, none⟩) (n + 1) c] w fun e w' => e = .returned (.tuple #[.agg #[.int .i64 x, .int .i64 y], .slice (some ⟨g, 0, none⟩) n n]) ∧ Below w.heap.size w w' := by
  go_enter Tryz.func126, Tryz.ntmps126
  go_upto_region 1 with (fail)
  have HB := Lib.hid (bx1 w (.cells #[.int .i64 0, .int .i64 0] 161))
  have HX := Lib.hid (bx_new w (.cells #[.int .i64 0, .int .i64 0] 161))
  have c0 := (HB.out.cell (p := ⟨g, n * 2, none⟩) (cellLt h0)).trans h0
  have c1 := (HB.out.cell (p := ⟨g, n * 2 + 1, none⟩) (cellLt h1)).trans h1
  generalize w.alloc (.cells #[.int .i64 0, .int .i64 0] 161) = W at *
  clear h0 h1
  obtain ⟨k0, k1, k2, k3⟩ := blk2 HX.out
  have e1 : IntKind.i64.wrap (((n + 1 : Nat) : Int) - 1) = (n : Int) := by rw [IntWalk.i64_in _ (by omega)]; omega
  have e2 : IntKind.i64.wrap ((n : Int) + 1 - 1) = (n : Int) := by rw [IntWalk.i64_in _ (by omega)]; omega
  have i1 : (n : Int) < ((n + 1 : Nat) : Int) := by omega
  have i2 : (0 : Int) ≤ (n : Int) := by omega
  have i3 : (n : Int) ≤ (c : Int) := by omega
  have i4 : (n : Int) < (n : Int) + 1 := by omega
  go_upto_region 2 with (fail)
  go_region
  all_goals
    have HX2 := Lib.hid (show ((W.setCell ⟨w.heap.size, 0, none⟩ (.int .i64 x)).setCell ⟨w.heap.size, 1, none⟩ (.int .i64 y)).drew.heap[w.heap.size]? = _ from set_two (x := .int .i64 x) (y := .int .i64 y) HX.out)
    have HB2 := Lib.hid (show Below w.heap.size w ((W.setCell ⟨w.heap.size, 0, none⟩ (.int .i64 x)).setCell ⟨w.heap.size, 1, none⟩ (.int .i64 y)).drew from ((HB.out.setCell (p := ⟨w.heap.size, 0, none⟩) (Nat.le_refl _) _).setCell (p := ⟨w.heap.size, 1, none⟩) (Nat.le_refl _) _).drew)
    generalize ((W.setCell ⟨w.heap.size, 0, none⟩ (.int .i64 x)).setCell ⟨w.heap.size, 1, none⟩ (.int .i64 y)).drew = W2 at *
    clear k0 k1 k2 k3 c0 c1
    obtain ⟨k0, k1, k2, k3⟩ := blk2 HX2.out
    go_wp2_with fail
    refine bodyPost_ret (v := .tuple #[.agg #[.int .i64 x, .int .i64 y], .slice (some ⟨g, 0, none⟩) n n]) (by simp [results, Tryz.results126, go_sem, k0, k1]) rfl ?_
    exact ⟨rfl, HB2.out⟩
/-- The row of the nodes above lies there. -/
def AbRow (w : World) (VA : Option Addr) (a : List (Nat × Nat)) : Prop := ∀ j (h : j < a.length), ∃ g, VA = some ⟨g, 0, none⟩ ∧ w.cell? ⟨g, j * 2, none⟩ = some (.int .i64 (a[j].1 : Int)) ∧ w.cell? ⟨g, j * 2 + 1, none⟩ = some (.int .i64 (a[j].2 : Int))
def UpPost (b : Nat) (t : TT) (B : Nat) (w : World) (e : Ending) (w' : World) : Prop :=
  ∃ (ls : List Ln) (V' : Option Addr) (c : Nat) (r : Nat), e = .returned (.tuple #[.slice V' ls.length c, .int .i64 (r : Int)]) ∧ Grove (ls.map Ln.nd) (fun p => p = r) ∧ Rep (ls.map Ln.nd) t r ∧ ls.length ≤ B ∧ w'.ownsRow b 71 9 (.slice V' ls.length c) ls.length (ndL.all ls) ∧ (∀ l ∈ ls, NdOwn w' (b ≤ ·) l) ∧ Below b w w'
def UpRel1 (b : Nat) (W : World) (T : List Nd) (rt : Nat) (G : TT) (X : Nat) (a0 : List (Nat × Nat)) (VA V : Option Addr) (v0 v2 v3 : Value) (wr : World) : Prop :=
  ∃ (lsC : List Ln) (V' : Option Addr) (c' : Nat) (a : List (Nat × Nat)) (ac cn : Nat) (q : List Int) (r : Nat) (y : TT), v0 = .slice V' lsC.length c' ∧ v2 = .slice VA a.length ac ∧ v3 = .int .i64 (r : Int) ∧ Hid (a.length ≤ ac) ∧ Hid (∃ s, a ++ s = a0) ∧ Hid (goDown T rt q = some (a, cn)) ∧ Hid (putTT (den T rt) q y = G) ∧
    Hid (Grove (lsC.map Ln.nd) (fun p => p = r)) ∧ Hid (Rep (lsC.map Ln.nd) y r) ∧ Hid (lsC.length ≤ X + (postN T cn).length) ∧ Hid (wr.ownsRow b 71 9 (.slice V' lsC.length c') lsC.length (ndL.all lsC)) ∧ Hid (∀ l ∈ lsC, NdOwn wr (b ≤ ·) l) ∧ Hid (KeptV b V W wr) ∧ Hid (Suc V V' W)
def UpRel2 (b : Nat) (wo W2 : World) (T : List Nd) (ks : List Nat) (kid : Nat) (N0 : List Nd) (r : Nat) (y : TT) (V1 : Option Addr) (nb g n : Nat) (oa on : Obj) (v0 v36 : Value) (wr : World) : Prop :=
  ∃ (i : Nat) (lsC : List Ln) (V' : Option Addr) (c' : Nat) (P : Nat → Nat) (vals : List Value), i ≤ n ∧ v0 = .slice V' lsC.length c' ∧ v36 = .int .i64 (i : Int) ∧ Hid (UInv T ks kid N0 r y i (lsC.map Ln.nd) P) ∧
    Hid (wr.ownsRow b 71 9 (.slice V' lsC.length c') lsC.length (ndL.all lsC)) ∧ Hid (∀ l ∈ lsC, NdOwn wr (fun x => b ≤ x ∧ x ≠ g) l) ∧ Hid (KeptV b V1 wo wr) ∧ Hid (Suc V1 V' W2) ∧ Hid (wr.ownsRow (nb + 1) 3 1 (.slice (some ⟨g, 0, none⟩) n n) n vals) ∧ Hid (∀ q, q < i → vals[q]? = some (.int .i64 (P q : Int))) ∧
    Hid (wr.heap[wo.heap.size]? = some oa ∧ wr.heap[nb]? = some on ∧ W2.heap.size ≤ wr.heap.size)
set_option maxRecDepth 100000 in
set_option maxHeartbeats 6400000 in
theorem up_any (b : Nat) (lsN : List Ln) (V : Option Addr) (vc : Nat) (A : Option Addr) (c : Nat) (ls : List Ln) (rt : Nat) (S : Nat → Prop) (VA : Option Addr) (ac0 : Nat) (a0 : List (Nat × Nat)) (p : List Int) (c0 r0 : Nat) (y0 : TT) (w : World) (hb : b ≤ w.heap.size)
    (hN : w.ownsRow b 71 9 (.slice V lsN.length vc) lsN.length (ndL.all lsN)) (hK : ∀ l ∈ lsN, NdOwn w (b ≤ ·) l) (hT : ∀ w', Below b w w' → ndL.row w' S A ls) (hAB : ∀ w', Below b w w' → AbRow w' VA a0) (hac : a0.length ≤ ac0)
    (hok : ∀ i n, (ls.map Ln.nd)[i]? = some n → ndOk i n = true) (hA : Ahead (ls.map Ln.nd)) (hrt : rt < ls.length) (hnd : ∀ i, i < ls.length → (postN (ls.map Ln.nd) i).length ≤ ls.length) (hsz : lsN.length + 2 * ls.length ≤ 4294967296)
    (hd : goDown (ls.map Ln.nd) rt p = some (a0, c0)) (hG : Grove (lsN.map Ln.nd) (fun p => p = r0)) (hR : Rep (lsN.map Ln.nd) y0 r0) :
    Calls Tryz.prog 93 #[.slice V lsN.length vc, .agg #[.slice A ls.length c, .int .i64 (rt : Int)], .slice VA a0.length ac0, .int .i64 (r0 : Int)] w (UpPost b (putTT (den (ls.map Ln.nd) rt) p y0) (lsN.length + ls.length) w) := by
  obtain ⟨i0, hi, hz0, hz1, hz2⟩ := info_parts infoInt
  obtain ⟨j0, hj, hy0, hy1, hy2⟩ := info_parts infoNode
  have hzc : (Value.agg #[.int .u8 0, .int .u64 0, .int .u64 0, .int .u64 0, .int .u64 0, .string ByteArray.empty, .int .i64 0, .int .i64 0, .slice none 0 0]).cells.size = 9 := rfl
  have HN := Lib.hid hN; have HK := Lib.hid hK; have HT := Lib.hid hT; have HOK := Lib.hid hok; have HA := Lib.hid hA; have HAB := Lib.hid hAB; have HND := Lib.hid hnd; have HD0 := Lib.hid hd; have HG0 := Lib.hid hG; have HR0 := Lib.hid hR
  clear hN hK hT hok hA hAB hnd hd hG hR
  have HBX := Lib.hid (bx_new w (.cells #[.slice A ls.length c, .int .i64 (rt : Int)] 48))
  have HB0 := Lib.hid (bx1 w (.cells #[.slice A ls.length c, .int .i64 (rt : Int)] 48))
  have HW0 := Lib.hid (show (w.alloc (.cells #[.slice A ls.length c, .int .i64 (rt : Int)] 48)).heap.size = w.heap.size + 1 from by simp)
  have HVB := Lib.hid (own_blk HN.out)
  go_enter Tryz.func93, Tryz.ntmps93
  go_upto_region 1 with (fail)
  generalize w.alloc (.cells #[.slice A ls.length c, .int .i64 (rt : Int)] 48) = W at *
  go_loopw [0, 2, 3] (fun v0 v2 v3 wr => UpRel1 b W (ls.map Ln.nd) rt (putTT (den (ls.map Ln.nd) rt) p y0) lsN.length a0 VA V v0 v2 v3 wr) (fun _ v2 _ _ => sliceLen v2)
  case atStart =>
    exact ⟨lsN, V, vc, a0, ac0, c0, p, r0, y0, rfl, rfl, rfl, Lib.hid hac, Lib.hid ⟨[], by simp⟩, HD0, Lib.hid rfl, HG0, HR0, Lib.hid (Nat.le_add_right _ _), Lib.hid (own_agree HN.out fun x hx => HB0.out.block x (HVB.out x hx).2), Lib.hid (fun l hl => (HK.out l hl).agree (below_all HB0.out)), Lib.hid ⟨Below.refl _ _, fun _ _ _ => rfl⟩, Lib.hid (.inl rfl)⟩
  case round =>
    obtain ⟨wo, rfl⟩ : ∃ wo : World, wo = wr := ⟨_, rfl⟩
    obtain ⟨lsC, V1, c1, a, ac, cn, q, r, y, rfl, rfl, rfl, HAC, HPRE, HD, HPUT, HG, HR, HLEN, HNo, HKo, HKV, HSV⟩ := hrel
    have HWo := Lib.hid (show w.heap.size < wo.heap.size from by have := HKV.out.1.size; have := HW0.out; omega)
    have HBb := Lib.hid (show Below b w wo from (HB0.out.mono hb).trans HKV.out.1)
    have HKBo := Lib.hid (show wo.heap[w.heap.size]? = some (.cells #[.slice A ls.length c, .int .i64 (rt : Int)] 48 (0, 0)) from (HKV.out.2 _ (by have := HW0.out; omega) (fun e => by have := (HVB.out _ e).2; omega)).trans HBX.out)
    rcases List.eq_nil_or_concat a with ha | ⟨a', k, ha⟩
    · subst ha
      have i1 : ¬ (((0 : Nat) : Int) > 0) := by omega
      have HQ := Lib.hid (show q = [] from by
        have h := (goDown_lt HA.out _ _ _ HD.out).2.2
        exact List.eq_nil_of_length_eq_zero h.symm)
      have hcn := (goDown_lt HA.out _ _ _ HD.out).1
      simp only at hcn
      have hlb := HND.out cn (by omega)
      go_wp2_with fail
      refine bodyPost_ret (v := .tuple #[.slice V1 lsC.length c1, .int .i64 (r : Int)]) (by simp [results, Tryz.results93, go_sem]) rfl ?_
      refine ⟨lsC, V1, c1, r, rfl, HG.out, ?_, by have := HLEN.out; omega, HNo.out, HKo.out, HBb.out⟩
      have h := HPUT.out
      rw [HQ.out] at h
      simp only [putTT] at h
      rw [← h]; exact HR.out
    · rw [List.concat_eq_append] at ha
      obtain ⟨kn, ki⟩ := k
      subst ha
      obtain ⟨q', z', hq, HD', hkc⟩ := goDown_last HD.out
      have hlt := goDown_lt HA.out _ _ _ HD'
      have hk1 : kn < ls.length := by have := hlt.1; simp only at this; omega
      have HROW := Lib.hid (show ∃ g, VA = some ⟨g, 0, none⟩ ∧ wo.cell? ⟨g, a'.length * 2, none⟩ = some (.int .i64 (kn : Int)) ∧ wo.cell? ⟨g, a'.length * 2 + 1, none⟩ = some (.int .i64 (ki : Int)) from by
        obtain ⟨s, hs⟩ := HPRE.out
        have h := HAB.out wo HBb.out a'.length (by rw [← hs]; simp)
        have e : a0[a'.length]'(by rw [← hs]; simp) = (kn, ki) := by simp [← hs]
        rw [e] at h; exact h)
      obtain ⟨g, hg, hc1, hc2⟩ := HROW.out
      have hal : a'.length ≤ 4294967296 := by
        have := goDown_depth HA.out _ _ _ HD'
        simp only at this; omega
      have hac := HAC.out
      rw [List.length_append, List.length_singleton] at hac ⊢
      subst hg
      have HLA := Lib.hid (fun w' h1 h2 => last_any g a'.length ac kn ki w' hal hac h1 h2)
      have HNB := Lib.hid (bx1 wo (.cells #[.int .i64 0, .int .i64 0] 161))
      have HCC := Lib.hid (And.intro hc1 hc2)
      have HKC := Lib.hid hkc
      have HQ := Lib.hid (And.intro hq HD')
      clear hc1 hc2 hkc hq HD' hlt HROW
      have i1 : ((a'.length + 1 : Nat) : Int) > 0 := by omega
      have i2 : (a'.length : Int) + 1 > 0 := by omega
      have i3 : (0 : Int) < (a'.length : Int) + 1 := by omega
      go_upto_region 4 with (first
        | (go_at_call 126; refine (HLA.out _ (by exact (HNB.out.cell (p := ⟨g, a'.length * 2, none⟩) (cellLt HCC.out.1)).trans HCC.out.1) (by exact (HNB.out.cell (p := ⟨g, a'.length * 2 + 1, none⟩) (cellLt HCC.out.2)).trans HCC.out.2)).mono ?_; rintro e w3 ⟨rfl, hb3⟩; have HB3 := Lib.hid hb3; have HX3 := Lib.hid (bx_kept hb3 (bx_new wo _)); clear hb3; obtain ⟨k0, k1, k2, k3⟩ := blk2 HX3.out)
        | fail)
      have HX4 := Lib.hid (set_two (x := .int .i64 (kn : Int)) (y := .int .i64 (ki : Int)) HX3.out)
      have HB4 := Lib.hid (show Below wo.heap.size wo ((w3.setCell ⟨wo.heap.size, 0, none⟩ (.int .i64 (kn : Int))).setCell ⟨wo.heap.size, 1, none⟩ (.int .i64 (ki : Int))) from ((Below.step HNB.out HB3.out).setCell (p := ⟨wo.heap.size, 0, none⟩) (Nat.le_refl _) _).setCell (p := ⟨wo.heap.size, 1, none⟩) (Nat.le_refl _) _)
      have HZ4 := Lib.hid (show wo.heap.size < ((w3.setCell ⟨wo.heap.size, 0, none⟩ (.int .i64 (kn : Int))).setCell ⟨wo.heap.size, 1, none⟩ (.int .i64 (ki : Int))).heap.size from by have := HB3.out.size; simp at this ⊢; omega)
      generalize ((w3.setCell ⟨wo.heap.size, 0, none⟩ (.int .i64 (kn : Int))).setCell ⟨wo.heap.size, 1, none⟩ (.int .i64 (ki : Int))) = w4 at *
      clear k0 k1 k2 k3 HX3 HB3 HLA HNB HCC
      obtain ⟨k0, k1, k2, k3⟩ := blk2 HX4.out
      have HKB4 := Lib.hid ((HB4.out.block w.heap.size HWo.out).trans HKBo.out)
      obtain ⟨l0, l1, l2, l3⟩ := blk2 HKB4.out
      have hbwo : b ≤ wo.heap.size := by have := HBb.out.size; omega
      have HBWO := Lib.hid hbwo
      clear hbwo
      have HB4b := Lib.hid (show Below b w w4 from HBb.out.trans (HB4.out.mono HBWO.out))
      obtain ⟨ab, ao, hab, _, hab2, x0, x1, x2, x3, x4, x5, x6, x7, x8⟩ := ndRow (HT.out w4 HB4b.out) kn hk1
      have HWF := Lib.hid (ndWf (HT.out w4 HB4b.out) kn hk1)
      have HKR := Lib.hid (show ∀ w', Below b w w' → intL.row w' S ls[kn].A ls[kn].nd.kids from fun w' h => ndSub (HT.out w' h) kn hk1)
      have HNDK := Lib.hid (show ndAt (ls.map Ln.nd) kn = ls[kn].nd from by simp [ndAt, hk1])
      have HKAT := Lib.hid (show kidsAt (ls.map Ln.nd) kn = ls[kn].nd.kids.map Int.toNat from by simp [kidsAt, hk1])
      have HKOK := Lib.hid (HOK.out kn ls[kn].nd (by simp [hk1]))
      subst hab
      have i4 : (kn : Int) < (ls.length : Int) := by omega
      have i5 : (0 : Int) ≤ (kn : Int) := by omega
      generalize ls[kn] = x at *
      have HX5 := Lib.hid (bx_new w4 (.cells #[.int .u8 x.nd.kind, .int .u64 x.nd.s0, .int .u64 x.nd.s1, .int .u64 x.nd.s2, .int .u64 x.nd.s3, .string x.nd.text, .int .i64 x.nd.mn, .int .i64 x.nd.mx, .slice x.A x.nd.kids.length x.c] 71))
      have HB5 := Lib.hid (bx1 w4 (.cells #[.int .u8 x.nd.kind, .int .u64 x.nd.s0, .int .u64 x.nd.s1, .int .u64 x.nd.s2, .int .u64 x.nd.s3, .string x.nd.text, .int .i64 x.nd.mn, .int .i64 x.nd.mx, .slice x.A x.nd.kids.length x.c] 71))
      have HZ5 := Lib.hid (show (w4.alloc (.cells #[.int .u8 x.nd.kind, .int .u64 x.nd.s0, .int .u64 x.nd.s1, .int .u64 x.nd.s2, .int .u64 x.nd.s3, .string x.nd.text, .int .i64 x.nd.mn, .int .i64 x.nd.mx, .slice x.A x.nd.kids.length x.c] 71)).heap.size = w4.heap.size + 1 from by simp)
      go_upto_region 5 with (fail)
      generalize w4.alloc (.cells #[.int .u8 x.nd.kind, .int .u64 x.nd.s0, .int .u64 x.nd.s1, .int .u64 x.nd.s2, .int .u64 x.nd.s3, .string x.nd.text, .int .i64 x.nd.mn, .int .i64 x.nd.mx, .slice x.A x.nd.kids.length x.c] 71) = W5 at *
      clear x0 x1 x2 x3 x4 x5 x6 x7 x8 k0 k1 k2 k3 l0 l1 l2 l3
      have hkl : x.nd.kids.length ≤ 4294967296 := by
        have h1 := HND.out kn hk1
        have h2 := flat_le (ls.map Ln.nd) (kidsAt (ls.map Ln.nd) kn)
        rw [postN_eq HA.out, List.length_append] at h1
        rw [HKAT.out, List.length_map] at h2
        rw [HKAT.out] at h1
        omega
      have HFK := Lib.hid (show i0.bytes * x.nd.kids.length ≤ 281474976710656 ∧ x.nd.kids.length ≤ maxLen from ⟨by rw [hz2]; omega, by unfold maxLen; omega⟩)
      obtain ⟨_, _, _, _, _, _, _, _, y8, _⟩ := blk9 HX5.out
      go_upto_region 7 with (first
        | (at_make; refine wpList_make_full _ rfl _ _ 54 rfl (w4.heap.size + 1) 3 i0 _ 1 Tryz.underlying54 hi hz0 hz1 .i64 .i64 _ _ x.nd.kids.length rfl rfl rfl rfl HFK.out.1 HFK.out.2 (by have := HZ5.out; omega) ?_; intro w6 hown6 hgrow6; have HO6 := Lib.hid hown6; have HB6 := Lib.hid (show Below W5.heap.size W5 w6 from (Below.refl _ _).grown hgrow6 (Nat.le_refl _) (fun k e => by cases e)); clear hown6 hgrow6; have HX6 := Lib.hid (bx_kept HB6.out HX5.out); clear y8; obtain ⟨_, _, _, _, _, _, _, _, y8, _⟩ := blk9 HX6.out)
        | fail)
      clear y8
      have HB6w := Lib.hid (show Below wo.heap.size wo w6 from (HB4.out.trans (HB5.out.mono (by have := HZ4.out; omega))).trans (HB6.out.mono (by have := HZ5.out; have := HZ4.out; omega)))
      have HOA6 := Lib.hid (bx_kept HB6.out (bx_kept HB5.out HX4.out))
      generalize hnb : w4.heap.size = nb at *
      have HNBE := Lib.hid hnb
      clear hnb
      generalize hg3 : W5.heap.size = g3 at *
      have HG3E := Lib.hid hg3
      clear hg3
      have HKL := Lib.hid hkl
      have hg36 : g3 < w6.heap.size := (own_lt HO6.out).2
      have HG36 := Lib.hid hg36
      clear hg36
      go_loopw [0, 36] (fun v0 v36 wr => UpRel2 b wo w6 (ls.map Ln.nd) (kidsAt (ls.map Ln.nd) kn) ki (lsC.map Ln.nd) r y V1 nb g3 x.nd.kids.length (.cells #[.int .i64 (kn : Int), .int .i64 (ki : Int)] 161 (0, 0)) (.cells #[.int .u8 x.nd.kind, .int .u64 x.nd.s0, .int .u64 x.nd.s1, .int .u64 x.nd.s2, .int .u64 x.nd.s3, .string x.nd.text, .int .i64 x.nd.mn, .int .i64 x.nd.mx, .slice x.A x.nd.kids.length x.c] 71 (0, 0)) v0 v36 wr) (fun _ v36 _ => x.nd.kids.length - (intOf v36).toNat)
      case atStart =>
        exact ⟨0, lsC, V1, c1, fun _ => 0, _, Nat.zero_le _, rfl, rfl, Lib.hid (UInv.start HG.out _), Lib.hid (own_agree HNo.out fun y' hy => HB6w.out.block y' (own_blk HNo.out y' hy).2), Lib.hid (fun l hl => ((HKo.out l hl).mono (T := fun x => b ≤ x ∧ x ≠ g3) fun y' hy h => ⟨h, by have := HZ5.out; have := HZ4.out; have := HG3E.out; have := HNBE.out; omega⟩).agree (below_all HB6w.out)), Lib.hid (Below.keptV HB6w.out HBWO.out), Lib.hid (.inl rfl), HO6, Lib.hid (fun q h => by omega), Lib.hid ⟨HOA6.out, HX6.out, Nat.le_refl _⟩⟩
      case round =>
        obtain ⟨wx, rfl⟩ : ∃ wx : World, wx = wr := ⟨_, rfl⟩
        obtain ⟨i, lsD, V', c', P, vals, hin, rfl, rfl, HU, HNx, HKx, HKVx, HSVx, HOx, HVx, HBBx⟩ := hrel
        have hkl := HKL.out
        have HBx := Lib.hid (show Below b w wx from HBb.out.trans HKVx.out.1)
        have HWx := Lib.hid (show wo.heap.size < nb ∧ nb < g3 ∧ g3 < w6.heap.size ∧ w6.heap.size ≤ wx.heap.size ∧ w.heap.size < wo.heap.size from ⟨by have := HZ4.out; have := HNBE.out; omega, by have := HZ5.out; have := HG3E.out; omega, HG36.out, HBBx.out.2.2, HWo.out⟩)
        have HV1 := Lib.hid (show ∀ e, blkOf V1 = some e → e < wo.heap.size ∧ e ≠ w.heap.size from fun e he => ⟨(own_blk HNo.out e he).2, by
          rcases HSV.out with h | h
          · rw [h] at he; have := (HVB.out e he).2; omega
          · have h1 := h e he; have := HW0.out; omega⟩)
        have HVg := Lib.hid (show ∀ e, blkOf V' = some e → (e < wo.heap.size ∧ e ≠ w.heap.size) ∨ w6.heap.size ≤ e from fun e he => by
          rcases HSVx.out with h | h
          · rw [h] at he; exact .inl (HV1.out e he)
          · exact .inr (h e he))
        have HKBx := Lib.hid (show wx.heap[w.heap.size]? = some (.cells #[.slice (some ⟨ab, ao, none⟩) ls.length c, .int .i64 (rt : Int)] 48 (0, 0)) from (HKVx.out.2 _ HWo.out (fun e => (HV1.out _ e).2 rfl)).trans HKBo.out)
        by_cases hil : i < x.nd.kids.length
        · obtain ⟨kb, ko, hkA, _, hkb, z0⟩ := intRow (HKR.out wx HBx.out) i hil
          have HZK := Lib.hid (show 0 ≤ x.nd.kids[i] ∧ x.nd.kids[i] < (kn : Int) from by
            have h := HKOK.out
            simp only [ndOk, Bool.and_eq_true, List.all_eq_true, decide_eq_true_eq] at h
            exact h.2 _ (List.getElem_mem hil))
          have hil2 : i < (kidsAt (ls.map Ln.nd) kn).length := by rw [HKAT.out, List.length_map]; exact hil
          have HKI := Lib.hid (show (kidsAt (ls.map Ln.nd) kn)[i] = x.nd.kids[i].toNat from by simp [HKAT.out])
          generalize x.nd.kids[i] = z at *
          obtain ⟨zn, rfl⟩ := Int.eq_ofNat_of_zero_le HZK.out.1
          have i7 : (i : Int) < (x.nd.kids.length : Int) := by omega
          have i8 : (0 : Int) ≤ (i : Int) := by omega
          have hvl := HOx.out.1
          obtain ⟨u0, hu0⟩ : ∃ u, vals[i]? = some u := ⟨_, List.getElem?_eq_getElem (by omega)⟩
          obtain ⟨a0', a1', a2', a3'⟩ := blk2 HBBx.out.1
          clear a2' a3'
          rw [hkA]
          by_cases hik : i = ki
          · subst hik
            have cy := own_cell HOx.out i hil hu0
            have cf := World.ownsRow.frozenAt HOx.out i
            have HNX := Lib.hid (World.ownsRow.stored HOx.out i (.int .i64 (r : Int))).1
            go_wp2_with fail
            rw [← hkA]
            have hsc : ∀ y', y' ≠ g3 → (wx.setCell ⟨g3, i, none⟩ (.int .i64 (r : Int))).heap[y']? = wx.heap[y']? := fun y' hy => Below.heap_setCell _ _ _ _ hy
            have hwx := HWx.out
            refine ⟨⟨i + 1, lsD, V', c', fun q => if q = i then r else P q, vals.set i (.int .i64 (r : Int)), hil, rfl, congrArg (Value.int .i64) (by omega), Lib.hid (HU.out.here hil2 HR.out), Lib.hid (own_agree HNx.out fun y' hy => hsc y' (fun e => by rcases HVg.out y' hy with h | h <;> omega)), Lib.hid (fun l hl => (HKx.out l hl).agree fun y' hy _ => hsc y' hy.2), Lib.hid ⟨HKVx.out.1.setCell (p := ⟨g3, i, none⟩) (by have := HBWO.out; show b ≤ g3; omega) _, fun y' hy hV => (hsc y' (by omega)).trans (HKVx.out.2 y' hy hV)⟩, HSVx, HNX, Lib.hid fun q hq => ?_, Lib.hid ⟨(hsc _ (by omega)).trans HBBx.out.1, (hsc _ (by omega)).trans HBBx.out.2.1, by simp; omega⟩⟩, by simp [intOf]; omega⟩
            by_cases e : q = i
            · subst e
              rw [List.getElem?_set_self (by omega)]; simp
            · rw [List.getElem?_set_ne (by omega), HVx.out q (by omega)]; simp [e]
          · have i9 : ((i : Int) == (ki : Int)) = false := by rw [beq_eq_false_iff_ne]; omega
            have i10 : ¬ (i : Int) = (ki : Int) := by omega
            have hzl : zn < ls.length := by have := HZK.out.2; omega
            have HPB := Lib.hid (show ((kidsAt (ls.map Ln.nd) kn).flatMap (postN (ls.map Ln.nd))).length ≤ ls.length ∧ (postN (ls.map Ln.nd) cn).length ≤ ls.length from ⟨by
              have h1 := HND.out kn hk1
              rw [postN_eq HA.out, List.length_append] at h1; omega, HND.out cn (by have h := (goDown_lt HA.out _ _ _ HD.out).1; simp only at h; omega)⟩)
            have HGA := Lib.hid (graft_any b lsD V' c' (some ⟨ab, ao, none⟩) c ls (rt : Int) zn S (fun y' => b ≤ y' ∧ y' ≠ g3) wx (by have := HBWO.out; have := HWx.out; omega) (fun y' hy => by have := HBWO.out; have := HWx.out; exact ⟨by omega, by omega⟩) HNx.out HKx.out (fun w' h => HT.out w' (HBx.out.trans h)) HOK.out HA.out hzl (by omega) (by have h1 := HU.out.len; have h2 := HLEN.out; have h3 := HPB.out; rw [List.drop_eq_getElem_cons hil2, List.flatMap_cons, List.length_append, HKI.out] at h1; simp only [List.length_map, Int.toNat_natCast] at h1 ⊢; omega))
            unfold GraftPost at HGA
            obtain ⟨l0, l1, l2, l3⟩ := blk2 HKBx.out
            clear l2 l3
            go_wp2_with (first
              | (go_at_call 92; refine (HGA.out).mono ?_; rintro e w7 ⟨lsE, V2, c2, rfl, h1, h2, h3, h4, h5⟩; have HQ1 := Lib.hid h1; have HQ2 := Lib.hid h2; have HQ3 := Lib.hid h3; have HQ4 := Lib.hid h4; have HQ5 := Lib.hid h5; clear h1 h2 h3 h4 h5; have HO7 := Lib.hid (HQ4.out.int HNx.out HOx.out); have cy := own_cell HO7.out i hil hu0; have cf := World.ownsRow.frozenAt HO7.out i)
              | fail)
            rw [← hkA]
            have hsc : ∀ y', y' ≠ g3 → (w7.setCell ⟨g3, i, none⟩ (.int .i64 ((lsE.length : Int) - 1))).heap[y']? = w7.heap[y']? := fun y' hy => Below.heap_setCell _ _ _ _ hy
            have hwx := HWx.out
            have hz7 := HQ4.out.1.size
            have hV2g : ∀ e, blkOf V2 = some e → e ≠ g3 := fun e he => by
              rcases HQ5.out with h | h
              · rw [h] at he; rcases HVg.out e he with h | h <;> omega
              · have := h e he; omega
            have hS1 : Suc V1 V' wo := by
              rcases HSVx.out with h | h
              · exact .inl h
              · exact .inr fun e he => by have := h e he; omega
            have hK7 : KeptV b V1 wo w7 := HKVx.out.trans hS1 HQ4.out
            have hle1 : 1 ≤ lsE.length := by
              have h1 := HQ1.out.2.1
              have h2 := postN_ne (ls.map Ln.nd) zn
              rw [List.length_map] at h1; omega
            have hks : ∀ e, e < wx.heap.size → wo.heap.size ≤ e → e < w6.heap.size → w7.heap[e]? = wx.heap[e]? := fun e h1 h2 h3 => HQ4.out.2 e h1 fun he => by rcases HVg.out e he with h | h <;> omega
            have hgr := HQ1.out
            rw [show zn = (kidsAt (ls.map Ln.nd) kn)[i] from by rw [HKI.out]; rfl] at hgr
            refine ⟨⟨i + 1, lsE, V2, c2, fun q => if q = i then (lsE.map Ln.nd).length - 1 else P q, vals.set i (.int .i64 ((lsE.length : Int) - 1)), hil, rfl, congrArg (Value.int .i64) (by omega), Lib.hid (HU.out.graft hil2 hik hgr), Lib.hid (own_agree HQ2.out fun y' hy => hsc y' (hV2g y' hy)), Lib.hid (fun l hl => (HQ3.out l hl).agree fun y' hy _ => hsc y' hy.2), Lib.hid ⟨hK7.1.setCell (p := ⟨g3, i, none⟩) (by have := HBWO.out; show b ≤ g3; omega) _, fun y' hy hV => (hsc y' (by omega)).trans (hK7.2 y' hy hV)⟩, Lib.hid (HSVx.out.trans (by omega) HQ5.out), Lib.hid (World.ownsRow.stored HO7.out i (.int .i64 ((lsE.length : Int) - 1))).1, Lib.hid fun q hq => ?_, Lib.hid ⟨(hsc _ (by omega)).trans ((hks _ (by omega) (by omega) (by omega)).trans HBBx.out.1), (hsc _ (by omega)).trans ((hks _ (by omega) (by omega) (by omega)).trans HBBx.out.2.1), by simp; omega⟩⟩, by simp [intOf]; omega⟩
            by_cases e : q = i
            · subst e
              rw [List.getElem?_set_self (by omega)]
              simp only [if_true, List.length_map]
              congr 2; omega
            · rw [List.getElem?_set_ne (by omega), HVx.out q (by omega)]
              simp only [if_neg e]
        · obtain rfl : i = x.nd.kids.length := by omega
          have i7 : ¬ (x.nd.kids.length : Int) < (x.nd.kids.length : Int) := by omega
          have hkal : (kidsAt (ls.map Ln.nd) kn).length = x.nd.kids.length := by rw [HKAT.out, List.length_map]
          have HUD := Lib.hid (show _ from UInv.done (node := kn) (by rw [hkal]; exact HU.out) HA.out (by exact (List.getElem?_eq_some_iff.1 HKC.out).1) (by rw [HNDK.out]; exact ndOk_fit HKOK.out))
          rw [HNDK.out, HKC.out, Option.getD_some] at HUD
          clear hkal
          have HNK := Lib.hid (show vals = intL.all (upKids x.nd.kids.length P) from by
            have hvl := HOx.out.1
            unfold upKids
            rw [intL_all, List.map_map]
            refine List.ext_getElem? fun q => ?_
            by_cases hq : q < x.nd.kids.length
            · rw [HVx.out q hq]
              simp [hq]
            · rw [List.getElem?_eq_none (by omega), List.getElem?_eq_none (by simp; omega)])
          have HKK := Lib.hid (show (upKids x.nd.kids.length P).length = x.nd.kids.length from by simp [upKids])
          generalize upKids x.nd.kids.length P = kk at *
          obtain ⟨_, _, _, _, _, _, _, _, y8, _, _, _, _, _, _, _, _, z8⟩ := blk9 HBBx.out.2.1
          have HX7 := Lib.hid (set_blk9 (u := (.slice (some ⟨g3, 0, none⟩) x.nd.kids.length x.nd.kids.length)) HBBx.out.2.1)
          have HE7 := Lib.hid (show ∀ x', x' ≠ nb → (wx.setCell ⟨nb, 8, none⟩ (.slice (some ⟨g3, 0, none⟩) x.nd.kids.length x.nd.kids.length)).heap[x']? = wx.heap[x']? from fun x' hx => Below.heap_setCell _ _ _ _ hx)
          have HB7 := Lib.hid (show Below b wo (wx.setCell ⟨nb, 8, none⟩ (.slice (some ⟨g3, 0, none⟩) x.nd.kids.length x.nd.kids.length)) from HKVx.out.1.setCell (p := ⟨nb, 8, none⟩) (by have := HBWO.out; have := HWx.out; show b ≤ nb; omega) _)
          have HZ7 := Lib.hid (show (wx.setCell ⟨nb, 8, none⟩ (.slice (some ⟨g3, 0, none⟩) x.nd.kids.length x.nd.kids.length)).heap.size = wx.heap.size from by simp)
          go_upto_region 14 with (fail)
          generalize (wx.setCell ⟨nb, 8, none⟩ (.slice (some ⟨g3, 0, none⟩) x.nd.kids.length x.nd.kids.length)) = w7 at *
          clear y8 z8
          have hwx := HWx.out
          have hVnb : ∀ e, blkOf V' = some e → e ≠ nb ∧ e ≠ g3 := fun e he => by rcases HVg.out e he with h | h <;> exact ⟨by omega, by omega⟩
          have HVN := Lib.hid hVnb
          clear hVnb
          have HOA := Lib.hid (show (w7.alloc (.cells #[.int .u8 x.nd.kind, .int .u64 x.nd.s0, .int .u64 x.nd.s1, .int .u64 x.nd.s2, .int .u64 x.nd.s3, .string x.nd.text, .int .i64 x.nd.mn, .int .i64 x.nd.mx, .slice (some ⟨g3, 0, none⟩) x.nd.kids.length x.nd.kids.length] 71)).ownsRow b 71 9 (.slice V' lsD.length c') lsD.length (ndL.all lsD) from World.ownsRow.alloc (own_agree HNx.out fun y' hy => HE7.out y' (HVN.out y' hy).1) _)
          have hlen2 : lsD.length + 1 ≤ 4294967296 := by
            have h1 := HUD.out.2.2.2
            have h2 := HLEN.out
            have h3 := HND.out kn hk1
            simp only [List.length_map] at h1; omega
          have F9 := Lib.hid (show lsD.length + 1 ≤ maxLen ∧ (lsD.length + 1) * 96 ≤ 140737488355328 ∧ b ≤ (w7.alloc (.cells #[.int .u8 x.nd.kind, .int .u64 x.nd.s0, .int .u64 x.nd.s1, .int .u64 x.nd.s2, .int .u64 x.nd.s3, .string x.nd.text, .int .i64 x.nd.mn, .int .i64 x.nd.mx, .slice (some ⟨g3, 0, none⟩) x.nd.kids.length x.nd.kids.length] 71)).heap.size from ⟨by unfold maxLen; omega, by omega, by have := HBWO.out; have := HZ7.out; simp; omega⟩)
          refine wp_region_list ?_
          refine wpList_val rfl (exec_move rfl rfl) ?_
          refine wpList_val rfl (exec_load rfl rfl (load9 w7 nb _ _ _ _ _ _ _ _ _ _ HX7.out)) ?_
          refine wpList_val rfl (exec_build rfl rfl (build9 w7 _ _ _ _ _ _ _ _ _)) ?_
          refine wpList_append_at _ rfl (.tmp 62) (.tmp 64) 46 rfl b 71 j0 _ 9 96 Tryz.underlying46 hj hy0 hy1 hy2 hzc (by decide) V' c' lsD.length (ndL.all lsD) rfl HOA.out (some ⟨w7.heap.size, 0, none⟩) 1 1 [.int .u8 x.nd.kind, .int .u64 x.nd.s0, .int .u64 x.nd.s1, .int .u64 x.nd.s2, .int .u64 x.nd.s3, .string x.nd.text, .int .i64 x.nd.mn, .int .i64 x.nd.mx, .slice (some ⟨g3, 0, none⟩) x.nd.kids.length x.nd.kids.length] rfl rfl (row_blk (bx_new w7 _)) (fun u hu => by simp only [List.mem_cons, List.not_mem_nil, or_false] at hu; rcases hu with rfl | rfl | rfl | rfl | rfl | rfl | rfl | rfl | rfl <;> rfl) F9.out.1 F9.out.2.1 F9.out.2.2 ?_
          intro V2 c2 w8 HO8 HG8 HA8
          simp only [Act.put, List.setIfInBounds_toArray, List.set_cons_zero, List.set_cons_succ]
          go_wp2_with fail
          have hne : ∀ y', y' < w7.heap.size → blkOf V' ≠ some y' → w8.heap[y']? = w7.heap[y']? := fun y' hy hV => (HG8.out.block y' (by simp; omega) (fun e => hV e.symm)).trans (Below.heap_alloc _ _ y' hy)
          have h78 : w7.heap.size ≤ w8.heap.size := by have := HG8.out.size; simp at this; omega
          have h77 := HZ7.out
          have hg8 : w8.heap[g3]? = wx.heap[g3]? := (hne g3 (by omega) (fun e => (HVN.out _ e).2 rfl)).trans (HE7.out g3 (by omega))
          have hS1 : Suc V1 V' wo := by
            rcases HSVx.out with h | h
            · exact .inl h
            · exact .inr fun e he => by have := h e he; omega
          have hKV2 : KeptV b V1 wo w8 := by
            refine ⟨HB7.out.trans (((bx1 w7 _).mono (by have := HBWO.out; omega)).trans (below_grownA HOA.out HG8.out (Nat.le_refl _) F9.out.2.2)), fun y' hy hV => ?_⟩
            refine (hne y' (by omega) fun e => ?_).trans ((HE7.out y' (by omega)).trans (HKVx.out.2 y' hy hV))
            rcases HSVx.out with h | h
            · exact hV (h ▸ e)
            · have := h y' e; omega
          have hsv2 : Suc V1 V2 wo := by
            rcases HA8.out with h | h
            · rcases hS1 with h1 | h1
              · exact .inl (h.trans h1)
              · exact .inr fun y' e => h1 y' (h ▸ e)
            · refine .inr fun y' e => ?_
              rw [h] at e
              simp only [World.size_alloc, Option.some.injEq] at e
              omega
          have hints : ∀ l ∈ lsD, NdOwn w8 (b ≤ ·) l := fun l hl => by
            refine ⟨(HKx.out l hl).1, own_agree (HKx.out l hl).2.1 fun y' hy => ?_, fun y' hy => ((HKx.out l hl).2.2 y' hy).1⟩
            have hlt := (own_blk (HKx.out l hl).2.1 y' hy).2
            have hint : ∃ cur, wx.heap[y']? = some (.cells cur 3 (0, 0)) := own_cells (HKx.out l hl).2.1 hy
            obtain ⟨cur, hcur⟩ := hint
            have hyn : y' ≠ nb := fun e => by
              rw [e, HBBx.out.2.1] at hcur
              simp only [Option.some.injEq, Obj.cells.injEq] at hcur
              exact node_ne_int hcur.2.1
            refine (hne y' (by omega) fun e => ?_).trans (HE7.out y' hyn)
            obtain ⟨cs, m, e1⟩ := own_nodeBlk HNx.out y' e
            rw [hcur] at e1
            simp only [Option.some.injEq, Obj.cells.injEq] at e1
            exact node_ne_int e1.2.1.symm
          refine ⟨⟨lsD ++ [⟨{ x.nd with kids := kk }, some ⟨g3, 0, none⟩, x.nd.kids.length⟩], V2, c2, a', a'.length, kn, q', lsD.length, .mk (bareN (ndAt (ls.map Ln.nd) kn)) (((kidsAt (ls.map Ln.nd) kn).map (den (ls.map Ln.nd))).set ki y), ?_, rfl, ?_, Lib.hid (Nat.le_refl _), Lib.hid ?_, Lib.hid HQ.out.2, Lib.hid ?_, Lib.hid ?_, Lib.hid ?_, Lib.hid ?_, Lib.hid ?_, Lib.hid fun l hl => ?_, Lib.hid (HKV.out.trans HSV.out hKV2), Lib.hid (HSV.out.trans (by have := HKV.out.1.size; exact this) hsv2)⟩, by simp [sliceLen]⟩
          · rw [List.length_append]; rfl
          · first | rfl | go_num
          · obtain ⟨s, hs⟩ := HPRE.out
            exact ⟨(kn, ki) :: s, by rw [← hs]; simp⟩
          · have h1 := HD.out
            have h2 := HPUT.out
            rw [HQ.out.1] at h1 h2
            exact (put_snoc HA.out h1 HQ.out.2).symm.trans h2
          · rw [List.map_append, List.map_singleton]
            have h := HUD.out.1
            rw [List.length_map] at h; exact h
          · rw [List.map_append, List.map_singleton]
            have h := HUD.out.2.2.1
            rw [List.length_map] at h
            rw [HNDK.out]; exact h
          · have h1 := HUD.out.2.2.2
            have h2 := HLEN.out
            simp only [List.length_map] at h1
            rw [List.length_append, List.length_singleton]; omega
          · have h := HO8.out
            rw [List.length_append]
            rw [show ndL.all (lsD ++ [⟨{ x.nd with kids := kk }, some ⟨g3, 0, none⟩, x.nd.kids.length⟩]) = ndL.all lsD ++ [.int .u8 x.nd.kind, .int .u64 x.nd.s0, .int .u64 x.nd.s1, .int .u64 x.nd.s2, .int .u64 x.nd.s3, .string x.nd.text, .int .i64 x.nd.mn, .int .i64 x.nd.mx, .slice (some ⟨g3, 0, none⟩) x.nd.kids.length x.nd.kids.length] from by rw [Lay.all_append, Lay.all_one]; simp [ndL, HKK.out]]
            exact h
          · rcases List.mem_append.1 hl with hl | hl
            · exact hints l hl
            · simp only [List.mem_singleton] at hl
              subst hl
              refine ⟨⟨HWF.out.1, HWF.out.2.1, by show kk.length ≤ _; rw [HKK.out]; omega, HWF.out.2.2.2⟩, ?_⟩
              show OwnS w8 _ _ 1 _ kk.length _ (intL.all kk)
              rw [HKK.out, ← HNK.out]
              exact ⟨own_mono (own_agree HOx.out fun y' hy => by cases hy; exact hg8) (Nat.zero_le _), fun y' hy => by cases hy; show b ≤ g3; have := HBWO.out; omega⟩
end Go.Proofs.YtmjkgnknfgoadaaGreatDoor

/- The contract of path.Put. -/
namespace Go.Proofs.YtmjkgnknfgoadaaGreatDoor
open Go.RowKit
set_option linter.unusedSimpArgs false
set_option linter.unusedVariables false

theorem abAll_get : ∀ (a : List (Nat × Nat)) (j : Nat) (h : j < a.length), (abAll a)[j * 2]? = some (.int .i64 (a[j].1 : Int)) ∧ (abAll a)[j * 2 + 1]? = some (.int .i64 (a[j].2 : Int))
  | x :: a, 0, _ => ⟨rfl, rfl⟩
  | x :: a, j + 1, h => by
    have := abAll_get a j (by simpa using h)
    simp only [abAll, show (j + 1) * 2 = j * 2 + 1 + 1 by omega, List.getElem?_cons_succ, List.getElem_cons_succ]
    exact this
theorem abRow_of {w : World} {B c : Nat} {V : Option Addr} {a : List (Nat × Nat)} (h : w.ownsRow B 161 2 (.slice V a.length c) a.length (abAll a)) : AbRow w V a := fun j hj => by
  obtain ⟨g, rfl, _, _⟩ := own_some h (by omega)
  have hg := abAll_get a j hj
  obtain ⟨ad, e1, h1⟩ := RowAt.own h (j * 2) _ hg.1
  obtain ⟨ad2, e2, h2⟩ := RowAt.own h (j * 2 + 1) _ hg.2
  cases e1; cases e2
  have e : ∀ n, ((⟨g, 0, none⟩ : Addr).add n) = ⟨g, n, none⟩ := fun n => by cases n <;> simp [Addr.add]
  rw [e] at h1 h2
  exact ⟨g, rfl, h1, h2⟩
theorem AbRow.below {w w' : World} {V : Option Addr} {a : List (Nat × Nat)} (h : AbRow w V a) (hb : Below w.heap.size w w') : AbRow w' V a := fun j hj => by
  obtain ⟨g, e, h1, h2⟩ := h j hj
  exact ⟨g, e, (hb.cell (p := ⟨g, j * 2, none⟩) (cellLt h1)).trans h1, (hb.cell (p := ⟨g, j * 2 + 1, none⟩) (cellLt h2)).trans h2⟩
theorem box_gotB {w w5 : World} {B : Nat} {v : Lt} {t : Tr} (hH : w.heap.size ≤ B) (hb : Below w.heap.size w w5) (hq : TreeOwn w5 (B + 1 ≤ ·) v) (ht : v.tr = t) :
    GotPost t w (.returned (.tuple #[v.val, .bool true])) ((w5.setCell ⟨B, 0, none⟩ (.slice v.A v.ls.length v.c)).setCell ⟨B, 1, none⟩ (.int .i64 v.root)) := by
  have hs : ∀ y, y ≠ B → ((w5.setCell ⟨B, 0, none⟩ (.slice v.A v.ls.length v.c)).setCell ⟨B, 1, none⟩ (.int .i64 v.root)).heap[y]? = w5.heap[y]? := fun y hy => (Below.heap_setCell _ _ _ _ hy).trans (Below.heap_setCell _ _ _ _ hy)
  exact ⟨v, rfl, ht, (hq.agree (fun y hy _ => hs y (by have hy : B + 1 ≤ y := hy; omega))).mono (fun y _ hy => by have hy : B + 1 ≤ y := hy; show w.heap.size ≤ y; omega),
    (hb.setCell (p := ⟨B, 0, none⟩) hH _).setCell (p := ⟨B, 1, none⟩) hH _⟩
/-- What is put, not made normal yet. -/
def putT (t : Tr) (p : List Int) (x : Tr) : Option TT := if rightT t = true ∧ rightT x = true then (atTT (den t.nodes t.root.toNat) p).map fun _ => putTT (den t.nodes t.root.toNat) p (den x.nodes x.root.toNat) else none
def PPutPost (t : Tr) (p : List Int) (x : Tr) (w : World) (e : Ending) (w' : World) : Prop := (∀ y, putT t p x = some y → GotPost (treeOf (makeTT y)) w e w') ∧ (putT t p x = none → NotPost w e w')
abbrev treeO (A : Option Addr) (n c : Nat) (root : Int) : Obj := .cells #[.slice A n c, .int .i64 root] 48
theorem box3 (w : World) (o1 o2 o3 : Obj) : Below w.heap.size w (((w.alloc o1).alloc o2).alloc o3) ∧ (((w.alloc o1).alloc o2).alloc o3).heap.size = w.heap.size + 3 :=
  ⟨Below.step (bx2 w o1 o2) (bx1 _ o3), by simp⟩
set_option maxRecDepth 100000 in
set_option maxHeartbeats 6400000 in
theorem pput_any (A : Option Addr) (c : Nat) (ls : List Ln) (root : Int) (PA : Option Addr) (pc : Nat) (p : List Int) (XA : Option Addr) (xc : Nat) (xs : List Ln) (xroot : Int) (S S' S2 : Nat → Prop) (w : World) (hT : ndL.row w S A ls) (hP : intL.row w S' PA p) (hX : ndL.row w S2 XA xs)
    (hl : xs.length + ls.length ≤ 16777216) (hpl : p.length ≤ 4611686018427387904) (ht : CntTab w) :
    Calls Tryz.prog 42 #[.agg #[.slice A ls.length c, .int .i64 root], .slice PA p.length pc, .agg #[.slice XA xs.length xc, .int .i64 xroot]] w (PPutPost ⟨ls.map Ln.nd, root⟩ p ⟨xs.map Ln.nd, xroot⟩ w) := by
  have HT := Lib.hid hT; have HP := Lib.hid hP; have HX := Lib.hid hX; have HCT := Lib.hid ht; clear hT hP hX ht
  have HRG := Lib.hid (fun w' hT ht => right_any A c ls root S w' hT (by omega) ht)
  have HRX := Lib.hid (fun w' hT ht => right_any XA xc xs xroot S2 w' hT (by omega) ht)
  have HB3 := Lib.hid (box3 w (.cells #[.slice A ls.length c, .int .i64 root] 48) (.cells #[.slice XA xs.length xc, .int .i64 xroot] 48) (.cells #[.slice none 0 0, .int .i64 0] 48))
  have HK3 := Lib.hid (show (((w.alloc (.cells #[.slice A ls.length c, .int .i64 root] 48)).alloc (.cells #[.slice XA xs.length xc, .int .i64 xroot] 48)).alloc (.cells #[.slice none 0 0, .int .i64 0] 48)).heap[w.heap.size]? = some (.cells #[.slice A ls.length c, .int .i64 root] 48 (0, 0)) ∧ (((w.alloc (.cells #[.slice A ls.length c, .int .i64 root] 48)).alloc (.cells #[.slice XA xs.length xc, .int .i64 xroot] 48)).alloc (.cells #[.slice none 0 0, .int .i64 0] 48)).heap[w.heap.size + 1]? = some (.cells #[.slice XA xs.length xc, .int .i64 xroot] 48 (0, 0)) ∧ (((w.alloc (.cells #[.slice A ls.length c, .int .i64 root] 48)).alloc (.cells #[.slice XA xs.length xc, .int .i64 xroot] 48)).alloc (.cells #[.slice none 0 0, .int .i64 0] 48)).heap[w.heap.size + 2]? = some (.cells #[.slice none 0 0, .int .i64 0] 48 (0, 0)) from by
    refine ⟨bx_old (bx_old (bx_new w _)), bx_old ?_, ?_⟩
    · have h := bx_new (w.alloc (.cells #[.slice A ls.length c, .int .i64 root] 48)) (.cells #[.slice XA xs.length xc, .int .i64 xroot] 48)
      rw [World.size_alloc] at h; exact h
    · have h := bx_new ((w.alloc (.cells #[.slice A ls.length c, .int .i64 root] 48)).alloc (.cells #[.slice XA xs.length xc, .int .i64 xroot] 48)) (.cells #[.slice none 0 0, .int .i64 0] 48)
      rw [World.size_alloc, World.size_alloc] at h; exact h)
  rcases hr : rightT ⟨ls.map Ln.nd, root⟩ with _ | _
  · rw [hr] at HRG
    have HN := Lib.hid (show putT ⟨ls.map Ln.nd, root⟩ p ⟨xs.map Ln.nd, xroot⟩ = none from by unfold putT; rw [hr]; simp)
    go_enter Tryz.func42, Tryz.ntmps42
    go_upto_region 1 with (fail)
    generalize ((w.alloc (.cells #[.slice A ls.length c, .int .i64 root] 48)).alloc (.cells #[.slice XA xs.length xc, .int .i64 xroot] 48)).alloc (.cells #[.slice none 0 0, .int .i64 0] 48) = W at *
    obtain ⟨k0, k1, k2, k3⟩ := blk2 HK3.out.1
    go_wp2_with (first
      | (go_at_call 86; refine (HRG.out _ (HT.out.below HB3.out.1) (HCT.out.below HB3.out.1)).mono ?_; rintro e w1 ⟨rfl, hb⟩; have HB1 := Lib.hid (Below.step HB3.out.1 hb); have HK1 := Lib.hid (bx_kept hb HK3.out.2.2); clear hb k0 k1 k2 k3; obtain ⟨k0, k1, k2, k3⟩ := blk2 HK1.out)
      | fail)
    have HB2 := Lib.hid ((HB1.out.setCell (p := ⟨w.heap.size + 2, 0, none⟩) (Nat.le_add_right _ 2) (.slice none 0 0)).setCell (p := ⟨w.heap.size + 2, 1, none⟩) (Nat.le_add_right _ 2) (.int .i64 0))
    refine bodyPost_ret (v := .tuple #[.agg #[.slice none 0 0, .int .i64 0], .bool false]) (by simp [results, Tryz.results42, go_sem, k0, k1]) rfl ?_
    exact ⟨fun y h => (by rw [HN.out] at h; cases h), fun _ => ⟨rfl, HB2.out⟩⟩
  rcases hrx : rightT ⟨xs.map Ln.nd, xroot⟩ with _ | _
  · rw [hr] at HRG
    rw [hrx] at HRX
    have HN := Lib.hid (show putT ⟨ls.map Ln.nd, root⟩ p ⟨xs.map Ln.nd, xroot⟩ = none from by unfold putT; rw [hrx]; simp)
    go_enter Tryz.func42, Tryz.ntmps42
    go_upto_region 1 with (fail)
    generalize ((w.alloc (.cells #[.slice A ls.length c, .int .i64 root] 48)).alloc (.cells #[.slice XA xs.length xc, .int .i64 xroot] 48)).alloc (.cells #[.slice none 0 0, .int .i64 0] 48) = W at *
    obtain ⟨k0, k1, k2, k3⟩ := blk2 HK3.out.1
    go_wp2_with (first
      | (go_at_call 86; with_reducible refine (HRG.out _ (HT.out.below HB3.out.1) (HCT.out.below HB3.out.1)).mono ?_; rintro e w1 ⟨rfl, hb⟩; have HB1 := Lib.hid (Below.step HB3.out.1 hb); have HK1 := Lib.hid (And.intro (bx_kept hb HK3.out.1) (And.intro (bx_kept hb HK3.out.2.1) (bx_kept hb HK3.out.2.2))); clear hb k0 k1 k2 k3; obtain ⟨k0, k1, k2, k3⟩ := blk2 HK1.out.2.1)
      | (go_at_call 86; with_reducible refine (HRX.out _ (HX.out.below HB1.out) (HCT.out.below HB1.out)).mono ?_; rintro e w2 ⟨rfl, hb⟩; have HB2 := Lib.hid (Below.step HB1.out hb); have HK2 := Lib.hid (bx_kept hb HK1.out.2.2); clear hb k0 k1 k2 k3; obtain ⟨k0, k1, k2, k3⟩ := blk2 HK2.out)
      | fail)
    have HB2 := Lib.hid ((HB2.out.setCell (p := ⟨w.heap.size + 2, 0, none⟩) (Nat.le_add_right _ 2) (.slice none 0 0)).setCell (p := ⟨w.heap.size + 2, 1, none⟩) (Nat.le_add_right _ 2) (.int .i64 0))
    refine bodyPost_ret (v := .tuple #[.agg #[.slice none 0 0, .int .i64 0], .bool false]) (by simp [results, Tryz.results42, go_sem, k0, k1]) rfl ?_
    exact ⟨fun y h => (by rw [HN.out] at h; cases h), fun _ => ⟨rfl, HB2.out⟩⟩
  rw [hr] at HRG
  rw [hrx] at HRX
  have HR := Lib.hid ((rightT_iff _).1 hr)
  have HRR := Lib.hid ((rightT_iff _).1 hrx)
  have HPT := Lib.hid (show putT ⟨ls.map Ln.nd, root⟩ p ⟨xs.map Ln.nd, xroot⟩ = (atTT (den (ls.map Ln.nd) root.toNat) p).map fun _ => putTT (den (ls.map Ln.nd) root.toNat) p (den (xs.map Ln.nd) xroot.toNat) from by unfold putT; rw [hr, hrx]; simp)
  clear hr hrx
  have hroot := HR.out.1
  have hxroot := HRR.out.1
  simp only [List.length_map] at hroot hxroot
  obtain ⟨ro, rfl⟩ := Int.eq_ofNat_of_zero_le hroot.1
  obtain ⟨xo, rfl⟩ := Int.eq_ofNat_of_zero_le hxroot.1
  have hro : ro < ls.length := by omega
  have hxo : xo < xs.length := by omega
  simp only [Int.toNat_natCast] at HPT
  have HZ := Lib.hid (right_aheadZ HR.out)
  have HZX := Lib.hid (right_aheadZ HRR.out)
  have HDN := Lib.hid (fun w' hT hP => down_any A c ls ro PA pc p S S' w' hT hP HZ.out hro (by omega) hpl)
  unfold DownPost at HDN
  rw [← goDown_at HZ.out.ahead] at HPT
  clear hroot hxroot
  rcases hd : goDown (ls.map Ln.nd) ro p with _ | r
  · rw [hd] at HPT
    go_enter Tryz.func42, Tryz.ntmps42
    go_upto_region 1 with (fail)
    generalize ((w.alloc (.cells #[.slice A ls.length c, .int .i64 (ro : Int)] 48)).alloc (.cells #[.slice XA xs.length xc, .int .i64 (xo : Int)] 48)).alloc (.cells #[.slice none 0 0, .int .i64 0] 48) = W at *
    obtain ⟨k0, k1, k2, k3⟩ := blk2 HK3.out.1
    go_wp2_with (first
      | (go_at_call 86; with_reducible refine (HRG.out _ (HT.out.below HB3.out.1) (HCT.out.below HB3.out.1)).mono ?_; rintro e w1 ⟨rfl, hb⟩; have HB1 := Lib.hid (Below.step HB3.out.1 hb); have HK1 := Lib.hid (And.intro (bx_kept hb HK3.out.1) (And.intro (bx_kept hb HK3.out.2.1) (bx_kept hb HK3.out.2.2))); have HZ1 := Lib.hid (show w.heap.size + 3 ≤ w1.heap.size from by have := hb.size; have := HB3.out.2; omega); clear hb k0 k1 k2 k3; obtain ⟨k0, k1, k2, k3⟩ := blk2 HK1.out.2.1)
      | (go_at_call 86; with_reducible refine (HRX.out _ (HX.out.below HB1.out) (HCT.out.below HB1.out)).mono ?_; rintro e w2 ⟨rfl, hb⟩; have HB2 := Lib.hid (Below.step HB1.out hb); have HK2 := Lib.hid (And.intro (bx_kept hb HK1.out.1) (And.intro (bx_kept hb HK1.out.2.1) (bx_kept hb HK1.out.2.2))); have HZ2 := Lib.hid (show w.heap.size + 3 ≤ w2.heap.size from by have := hb.size; have := HZ1.out; omega); clear hb k0 k1 k2 k3; obtain ⟨k0, k1, k2, k3⟩ := blk2 HK2.out.1)
      | (go_at_call 91; with_reducible refine (HDN.out _ (HT.out.below HB2.out) (HP.out.agree (below_all HB2.out))).mono ?_; rintro e w3 hp; obtain ⟨rfl, hb⟩ := hp.2 hd; clear hp; have HB4 := Lib.hid (Below.step HB2.out hb); have HK4 := Lib.hid (bx_kept hb HK2.out.2.2); clear hb k0 k1 k2 k3; obtain ⟨k0, k1, k2, k3⟩ := blk2 HK4.out)
      | fail)
    have HB5 := Lib.hid ((HB4.out.setCell (p := ⟨w.heap.size + 2, 0, none⟩) (Nat.le_add_right _ 2) (.slice none 0 0)).setCell (p := ⟨w.heap.size + 2, 1, none⟩) (Nat.le_add_right _ 2) (.int .i64 0))
    refine bodyPost_ret (v := .tuple #[.agg #[.slice none 0 0, .int .i64 0], .bool false]) (by simp [results, Tryz.results42, go_sem, k0, k1]) rfl ?_
    exact ⟨fun y h => (by rw [HPT.out] at h; cases h), fun _ => ⟨rfl, HB5.out⟩⟩
  · rw [hd] at HPT
    have hpx := post_length HRR.out xo (by simpa using hxo)
    simp only [List.length_map] at hpx
    go_enter Tryz.func42, Tryz.ntmps42
    go_upto_region 1 with (fail)
    generalize ((w.alloc (.cells #[.slice A ls.length c, .int .i64 (ro : Int)] 48)).alloc (.cells #[.slice XA xs.length xc, .int .i64 (xo : Int)] 48)).alloc (.cells #[.slice none 0 0, .int .i64 0] 48) = W at *
    obtain ⟨k0, k1, k2, k3⟩ := blk2 HK3.out.1
    go_upto_region 6 with (first
      | (go_at_call 86; with_reducible refine (HRG.out _ (HT.out.below HB3.out.1) (HCT.out.below HB3.out.1)).mono ?_; rintro e w1 ⟨rfl, hb⟩; have HB1 := Lib.hid (Below.step HB3.out.1 hb); have HK1 := Lib.hid (And.intro (bx_kept hb HK3.out.1) (And.intro (bx_kept hb HK3.out.2.1) (bx_kept hb HK3.out.2.2))); have HZ1 := Lib.hid (show w.heap.size + 3 ≤ w1.heap.size from by have := hb.size; have := HB3.out.2; omega); clear hb k0 k1 k2 k3; obtain ⟨k0, k1, k2, k3⟩ := blk2 HK1.out.2.1)
      | (go_at_call 86; with_reducible refine (HRX.out _ (HX.out.below HB1.out) (HCT.out.below HB1.out)).mono ?_; rintro e w2 ⟨rfl, hb⟩; have HB2 := Lib.hid (Below.step HB1.out hb); have HK2 := Lib.hid (And.intro (bx_kept hb HK1.out.1) (And.intro (bx_kept hb HK1.out.2.1) (bx_kept hb HK1.out.2.2))); have HZ2 := Lib.hid (show w.heap.size + 3 ≤ w2.heap.size from by have := hb.size; have := HZ1.out; omega); clear hb k0 k1 k2 k3; obtain ⟨k0, k1, k2, k3⟩ := blk2 HK2.out.1)
      | (go_at_call 91; with_reducible refine (HDN.out _ (HT.out.below HB2.out) (HP.out.agree (below_all HB2.out))).mono ?_; rintro e w3 hp; obtain ⟨VA, va, rfl, hav, hb⟩ := hp.1 r hd; clear hp; have HAV := Lib.hid hav; have HB4 := Lib.hid (Below.step HB2.out hb); have HK4 := Lib.hid (And.intro (bx_kept hb HK2.out.1) (And.intro (bx_kept hb HK2.out.2.1) (bx_kept hb HK2.out.2.2))); have HZ4 := Lib.hid (show w.heap.size + 3 ≤ w3.heap.size from by have := hb.size; have := HZ2.out; omega); clear hb hav k0 k1 k2 k3; obtain ⟨k0, k1, k2, k3⟩ := blk2 HK4.out.2.1)
      | fail)
    have HGA := Lib.hid (graft_any w3.heap.size [] none 0 XA xc xs (xo : Int) xo S2 (w3.heap.size ≤ ·) w3 (Nat.le_refl _) (fun _ h => h) (World.ownsRow_nil _ _ _ _) (fun l hl => by cases hl) (fun w' h => HX.out.below (HB4.out.trans (h.mono (by have := HZ4.out; omega)))) HRR.out.2.1 HZX.out.ahead hxo (by omega) (by simp only [List.length_nil]; omega))
    unfold GraftPost at HGA
    simp only [List.length_nil] at HGA
    go_upto_region 7 with (first
      | (go_at_call 92; refine (HGA.out).mono ?_; rintro e w5 ⟨lsG, V5, c5, he, h1, h2, h3, h4, h5⟩; have hg1 : 1 ≤ lsG.length := (by have a1 := h1.2.1; have a2 := postN_ne (xs.map Ln.nd) xo; rw [List.length_map] at a1; omega); obtain ⟨g5, hg5⟩ : ∃ g5, lsG.length = g5 + 1 := ⟨lsG.length - 1, by omega⟩; have e5 : ((lsG.length : Int) - 1) = (g5 : Int) := (by omega); rw [e5] at he; subst he; have HQ1 := Lib.hid h1; have HQ2 := Lib.hid h2; have HQ3 := Lib.hid h3; have HQ4 := Lib.hid h4; have HG5 := Lib.hid hg5; clear h1 h2 h3 h4 h5 e5 hg1 hg5)
      | fail)
    have HL5 := Lib.hid (show lsG.length ≤ xs.length from by have a1 := HQ1.out.2.1; simp only [List.length_map, List.length_nil, List.map_nil] at a1; omega)
    have HB5 := Lib.hid (show Below w3.heap.size w3 w5 from HQ4.out.1)
    have HCAP := Lib.hid (own_cap HAV.out.own)
    have HUP := Lib.hid (up_any w3.heap.size lsG V5 c5 A c ls ro S VA va r.1 p r.2 g5 (den (xs.map Ln.nd) xo) w5 HB5.out.size HQ2.out HQ3.out (fun w' h => HT.out.below (HB4.out.trans ((HB5.out.trans h).mono (by have := HZ4.out; omega)))) (fun w' h => AbRow.below (abRow_of HAV.out.own) (HB5.out.trans h)) HCAP.out HR.out.2.1 HZ.out.ahead hro (fun i hi => by have h := post_length HR.out i (by simpa using hi); simpa using h) (by have := HL5.out; omega) hd
      ((HQ1.out.2.2.2 _ Grove.nil).congr fun q => by
        have e := HG5.out
        rw [List.length_map, e]
        constructor
        · rintro (h | h)
          · exact h.elim
          · omega
        · intro h; exact .inr (by omega))
      (by have h := HQ1.out.2.2.1; rw [List.length_map, HG5.out] at h; exact h))
    unfold UpPost at HUP
    have HK5 := Lib.hid (And.intro (bx_kept HB5.out HK4.out.1) (bx_kept HB5.out HK4.out.2.2))
    clear k0 k1 k2 k3
    obtain ⟨k0, k1, k2, k3⟩ := blk2 HK5.out.1
    go_upto_region 8 with (first
      | (go_at_call 93; refine (HUP.out).mono ?_; rintro e w7 ⟨lsU, V7, c7, r7, rfl, h1, h2, h3, h4, h5, h6⟩; have HU1 := Lib.hid h1; have HU2 := Lib.hid h2; have HU3 := Lib.hid h3; have HU4 := Lib.hid h4; have HU5 := Lib.hid h5; have HU6 := Lib.hid h6; clear h1 h2 h3 h4 h5 h6)
      | fail)
    have HROW := Lib.hid (show ndL.row w7 (w3.heap.size ≤ ·) V7 lsU from ⟨(own_ownS HU4.out).row, fun l hl => (HU5.out l hl).inn⟩)
    have HB37 := Lib.hid (show Below w3.heap.size w3 w7 from HB5.out.trans HU6.out)
    have HB7 := Lib.hid (show Below w.heap.size w w7 from HB4.out.trans (HB37.out.mono (by have := HZ4.out; omega)))
    have HZ7 := Lib.hid (show w.heap.size + 3 ≤ w7.heap.size from by have := HB37.out.size; have := HZ4.out; omega)
    have HK7 := Lib.hid (bx_kept HB37.out HK4.out.2.2)
    have hr7 := HU1.out.right
    have HRT := Lib.hid ((rightT_iff _).2 hr7)
    have HDEN := Lib.hid (HU2.out.den HU1.out.aheadZ)
    have HMK := Lib.hid (make_any V7 c7 lsU (r7 : Int) (w3.heap.size ≤ ·) w7 HROW.out (by have := HU3.out; have := HL5.out; omega) (HCT.out.below HB7.out))
    unfold MakePost at HMK
    clear k0 k1 k2 k3 hr7
    go_wp2_with (first
      | (go_at_call 94; refine (HMK.out).mono ?_; rintro e w8 hp; obtain ⟨v, rfl, h1, h2, h3⟩ := hp.1 HRT.out; clear hp; have HV1 := Lib.hid h1; have HV2 := Lib.hid h2; have HV3 := Lib.hid h3; have HK8 := Lib.hid (bx_kept h3 HK7.out); clear h1 h2 h3; obtain ⟨k0, k1, k2, k3⟩ := blk2 HK8.out)
      | fail)
    refine bodyPost_ret (v := .tuple #[v.val, .bool true]) (by simp [results, Tryz.results42, go_sem, k0, k1]) rfl ?_
    refine ⟨fun y h => ?_, fun h => (by rw [HPT.out] at h; cases h)⟩
    rw [HPT.out] at h
    simp only [Option.map_some, Option.some.injEq] at h
    subst h
    refine box_gotB (Nat.le_add_right _ 2) (Below.step HB7.out HV3.out) (HV2.out.mono fun y _ hy => Nat.le_trans HZ7.out hy) ?_
    have h1 := HV1.out
    simp only [Int.toNat_natCast] at h1
    rw [HDEN.out] at h1
    exact h1
end Go.Proofs.YtmjkgnknfgoadaaGreatDoor
