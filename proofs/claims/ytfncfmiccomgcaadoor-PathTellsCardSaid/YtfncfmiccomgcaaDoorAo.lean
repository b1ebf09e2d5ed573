/- The contract of path.graft. -/
import Derived.Test.YtfncfmiccomgcaaDoorAn
namespace Go.Proofs.YtfncfmiccomgcaaDoor
open Go.RowKit
set_option linter.unusedSimpArgs false
set_option linter.unusedVariables false

/-- All but one row's block stays. -/
def KeptV (b : Nat) (V : Option Addr) (w w' : World) : Prop := Below b w w' ∧ ∀ x, x < w.heap.size → blkOf V ≠ some x → w'.heap[x]? = w.heap[x]?
def Suc (V V' : Option Addr) (w : World) : Prop := blkOf V' = blkOf V ∨ ∀ x, blkOf V' = some x → w.heap.size ≤ x
theorem KeptV.trans {b : Nat} {V V' : Option Addr} {w1 w2 w3 : World} (h : KeptV b V w1 w2) (hs : Suc V V' w1) (k : KeptV b V' w2 w3) : KeptV b V w1 w3 := ⟨h.1.trans k.1, fun x hx hV => by
  have h1 := h.1.size
  refine (k.2 x (by omega) fun e => ?_).trans (h.2 x hx hV)
  rcases hs with hs | hs
  · exact hV (hs ▸ e)
  · have := hs x e; omega⟩
theorem Suc.trans {V V' V2 : Option Addr} {w1 w2 : World} (h : Suc V V' w1) (hz : w1.heap.size ≤ w2.heap.size) (k : Suc V' V2 w2) : Suc V V2 w1 := by
  rcases k with k | k
  · rcases h with h | h
    · exact .inl (k.trans h)
    · exact .inr fun x e => h x (k ▸ e)
  · exact .inr fun x e => Nat.le_trans hz (k x e)
theorem Below.keptV {b : Nat} {V : Option Addr} {w w' : World} (h : Below w.heap.size w w') (hb : b ≤ w.heap.size) : KeptV b V w w' := ⟨h.mono hb, fun x hx _ => h.block x hx⟩
theorem KeptV.int {b : Nat} {V : Option Addr} {w w' : World} {B B' n c n' c' : Nat} {U : Option Addr} {ns xs : List Value} (h : KeptV b V w w') (hN : w.ownsRow B 56 9 (.slice V n c) n ns) (ho : w.ownsRow B' 3 1 (.slice U n' c') n' xs) : w'.ownsRow B' 3 1 (.slice U n' c') n' xs := by
  refine own_agree ho fun x hx => h.2 x (own_blk ho x hx).2 fun e => ?_
  obtain ⟨cs, m, e1⟩ := own_nodeBlk hN x e
  obtain ⟨cur, e2⟩ := own_cells ho hx
  rw [e2] at e1
  simp only [Option.some.injEq, Obj.cells.injEq] at e1
  exact node_ne_int e1.2.1.symm
theorem KeptV.nd {b B n c : Nat} {V : Option Addr} {w w' : World} {ns : List Value} {S : Nat → Prop} {l : Ln} (h : KeptV b V w w') (hN : w.ownsRow B 56 9 (.slice V n c) n ns) (hl : NdOwn w S l) : NdOwn w' S l :=
  ⟨hl.1, h.int hN hl.2.1, hl.2.2⟩
theorem gNode_eq {T : List Nd} {row : List Nat} {base i p : Nat} {nd : Nd} (h : row[i]? = some p) (hp : T[p]? = some nd) : gNode T row base i = { nd with kids := (List.range nd.kids.length).map fun (j : Nat) => (base : Int) + ((row.length : Int) - 1) - ((endE T row i : Int) + (j : Int)) } := by
  unfold gNode ndAt
  rw [h, Option.getD_some, hp]; rfl
def GraftPost (b : Nat) (S' : Nat → Prop) (N T : List Nd) (r : Nat) (V : Option Addr) (w : World) (e : Ending) (w' : World) : Prop :=
  ∃ (ls : List Ln) (V' : Option Addr) (c : Nat), e = .returned (.tuple #[.slice V' ls.length c, .int .i64 ((ls.length : Int) - 1)]) ∧ Grafted N T r (ls.map Ln.nd) ∧ w'.ownsRow b 56 9 (.slice V' ls.length c) ls.length (ndL.all ls) ∧ (∀ l ∈ ls, NdOwn w' S' l) ∧ KeptV b V w w' ∧ Suc V V' w
def GrRel1 (W : World) (T : List Nd) (r H : Nat) (v8 v9 : Value) (wr : World) : Prop :=
  ∃ (row : List Nat) (i : Nat) (V8 : Option Addr) (c8 : Nat), v8 = .slice V8 row.length c8 ∧ v9 = .int .i64 (i : Int) ∧ Hid (BInv T r row i) ∧ Hid (wr.ownsRow (H + 1) 3 1 (.slice V8 row.length c8) row.length (natsV row)) ∧ Hid (Below (H + 1) W wr) ∧ Hid (H + 1 ≤ wr.heap.size)
def GrRel2 (b : Nat) (S' : Nat → Prop) (W : World) (N T : List Nd) (row : List Nat) (V : Option Addr) (v0 v10 v11 : Value) (wr : World) : Prop :=
  ∃ (m : Nat) (ls : List Ln) (V' : Option Addr) (c : Nat), v0 = .slice V' ls.length c ∧ v10 = .int .i64 (endE T row (row.length - m)) ∧ v11 = .int .i64 ((row.length : Int) - 1 - (m : Int)) ∧ Hid (GInv N T row m (ls.map Ln.nd)) ∧
    Hid (wr.ownsRow b 56 9 (.slice V' ls.length c) ls.length (ndL.all ls)) ∧ Hid (∀ l ∈ ls, NdOwn wr S' l) ∧ Hid (KeptV b V W wr) ∧ Hid (Suc V V' W)
def GrRel3 (W : World) (nb g n : Nat) (f : Nat → Int) (v61 : Value) (wr : World) : Prop :=
  ∃ (j : Nat) (vals : List Value), j ≤ n ∧ v61 = .int .i64 (j : Int) ∧ Hid (wr.ownsRow (nb + 1) 3 1 (.slice (some ⟨g, 0, none⟩) n n) n vals) ∧ Hid (∀ q, q < j → vals[q]? = some (.int .i64 (f q))) ∧ Hid (Below (nb + 1) W wr)
set_option maxRecDepth 100000 in
set_option maxHeartbeats 6400000 in
theorem graft_any (b : Nat) (lsN : List Ln) (V : Option Addr) (vc : Nat) (A : Option Addr) (c : Nat) (ls : List Ln) (root : Int) (r : Nat) (S S' : Nat → Prop) (w : World) (hb : b ≤ w.heap.size) (hS' : ∀ x, w.heap.size ≤ x → S' x)
    (hN : w.ownsRow b 56 9 (.slice V lsN.length vc) lsN.length (ndL.all lsN)) (hK : ∀ l ∈ lsN, NdOwn w S' l) (hT : ∀ w', Below b w w' → ndL.row w' S A ls) (hok : ∀ i n, (ls.map Ln.nd)[i]? = some n → ndOk i n = true)
    (hA : Ahead (ls.map Ln.nd)) (hr : r < ls.length) (hl : ls.length ≤ 4294967296) (hsz : lsN.length + (postN (ls.map Ln.nd) r).length ≤ 4294967296) :
    Calls Tryd.prog 29 #[.slice V lsN.length vc, .agg #[.slice A ls.length c, .int .i64 root], .int .i64 r] w (GraftPost b S' (lsN.map Ln.nd) (ls.map Ln.nd) r V w) := by
  obtain ⟨i0, hi, hz0, hz1, hz2⟩ := info_parts infoInt
  obtain ⟨j0, hj, hy0, hy1, hy2⟩ := info_parts infoNode
  have hzc : (Value.agg #[.int .u8 0, .int .u64 0, .int .u64 0, .int .u64 0, .int .u64 0, .string ByteArray.empty, .int .i64 0, .int .i64 0, .slice none 0 0]).cells.size = 9 := rfl
  have HN := Lib.hid hN; have HK := Lib.hid hK; have HT := Lib.hid hT; have HOK := Lib.hid hok; have HA := Lib.hid hA; clear hN hK hT hok hA
  have HBX := Lib.hid (bx_new w (.cells #[.slice A ls.length c, .int .i64 root] 24))
  have HB0 := Lib.hid (bx1 w (.cells #[.slice A ls.length c, .int .i64 root] 24))
  have HW0 := Lib.hid (show (w.alloc (.cells #[.slice A ls.length c, .int .i64 root] 24)).heap.size = w.heap.size + 1 from by simp)
  have HVB := Lib.hid (own_blk HN.out)
  have HSS := Lib.hid hS'
  clear hS'
  go_enter Tryd.func29, Tryd.ntmps29
  go_upto_region 1 with (fail)
  generalize w.alloc (.cells #[.slice A ls.length c, .int .i64 root] 24) = W at *
  go_upto_region 3 with (fail)
  have HR1 := Lib.hid (bx_new W (.cells #[.int .i64 (r : Int)] 3))
  have HB1 := Lib.hid (bx1 W (.cells #[.int .i64 (r : Int)] 3))
  have HZ1 := Lib.hid (show (W.alloc (.cells #[.int .i64 (r : Int)] 3)).heap.size = W.heap.size + 1 from by simp)
  generalize W.alloc (.cells #[.int .i64 (r : Int)] 3) = W1 at *
  go_loopw [8, 9] (fun v8 v9 wr => GrRel1 W (ls.map Ln.nd) r w.heap.size v8 v9 wr) (fun _ v9 _ => (postN (ls.map Ln.nd) r).length - (intOf v9).toNat)
  case atStart =>
    refine ⟨[r], 0, some ⟨W.heap.size, 0, none⟩, 1, rfl, rfl, Lib.hid (BInv.start _ _), Lib.hid (own_of_full (by exact HR1.out) rfl (by have := HW0.out; omega) (by simp [maxLen])), Lib.hid (HB1.out.mono (by have := HW0.out; omega)), Lib.hid (by have := HW0.out; have := HZ1.out; omega)⟩
  case round =>
    clear HR1 HB1 HZ1
    obtain ⟨wo, rfl⟩ : ∃ wo : World, wo = wr := ⟨_, rfl⟩
    obtain ⟨row, i, V8, c8, rfl, rfl, HI, HO, HB, HWS⟩ := hrel
    have HBw := Lib.hid (show Below w.heap.size w wo from HB0.out.trans (HB.out.mono (Nat.le_succ _)))
    have hKB := (HB.out.block w.heap.size (Nat.lt_succ_self _)).trans HBX.out
    obtain ⟨k0, k1, k2, k3⟩ := blk2 hKB
    clear hKB
    have hbd := HI.out.bound
    have hle := HI.out.le
    by_cases hil : i < row.length
    · have HST := Lib.hid (HI.out.step HA.out hil)
      have hk : row[i] < ls.length := by have := HI.out.lt _ (List.getElem_mem hil); omega
      obtain ⟨g, rfl, hg1, hg2⟩ := own_some HO.out (by omega)
      have c0 := own_cell HO.out i hil (u := .int .i64 (row[i] : Int)) (by simp [natsV, hil])
      obtain ⟨ab, ao, hab, _, hab2, x0, x1, x2, x3, x4, x5, x6, x7, x8⟩ := ndRow (HT.out wo (HBw.out.mono hb)) row[i] hk
      have HKR := Lib.hid (ndSub (HT.out wo (HBw.out.mono hb)) row[i] hk)
      have HKV := Lib.hid (show intL.all ls[row[i]].nd.kids = natsV (kidsAt (ls.map Ln.nd) row[i]) from by
        have := kids_nats (ls.map Ln.nd) row[i] (by simpa using hk) (fun k hk' => by
          have h := HOK.out row[i] ls[row[i]].nd (by simp [hk])
          simp only [ndOk, Bool.and_eq_true, List.all_eq_true, decide_eq_true_eq] at h
          exact (h.2 k (by simpa using hk')).1)
        simpa using this)
      have hkn : (kidsAt (ls.map Ln.nd) row[i]).length = ls[row[i]].nd.kids.length := by simp [kidsAt, hk]
      have hbd2 := HST.out.bound
      rw [List.length_append, hkn] at hbd2
      have HKN := Lib.hid hkn
      clear hkn x0 x1 x2 x3 x4 x5 x6 x7
      subst hab
      have i1 : (i : Int) < (row.length : Int) := by omega
      have i2 : (0 : Int) ≤ (i : Int) := by omega
      have i3 : (row[i] : Int) < (ls.length : Int) := by omega
      have i4 : (0 : Int) ≤ (row[i] : Int) := by omega
      generalize hrv : row[i] = ri at *
      have HF := Lib.hid (show row.length + ls[ri].nd.kids.length ≤ maxLen ∧ (row.length + ls[ri].nd.kids.length) * 8 ≤ 140737488355328 ∧ w.heap.size + 1 ≤ wo.drew.heap.size from ⟨by unfold maxLen; omega, by omega, HWS.out⟩)
      have HOD := Lib.hid (show wo.drew.ownsRow (w.heap.size + 1) 3 1 (.slice (some ⟨g, 0, none⟩) row.length c8) row.length (natsV row) from HO.out)
      go_upto_region 5 with (fail)
      go_region_law ((refine step_append_at (by rfl) (.tmp 23) (.tmp 32) 25 (by rfl) (w.heap.size + 1) 3 i0 (.int .i64 0) 1 8 Tryd.underlying25 hi hz0 hz1 hz2 rfl (by decide) (some ⟨g, 0, none⟩) c8 row.length (natsV row) (by rfl) HOD.out ls[ri].A ls[ri].nd.kids.length ls[ri].c (intL.all ls[ri].nd.kids) (by rfl) (by rw [intL.all_length]; rfl) HKR.out.rowAt (intL.all_one' _) HF.out.1 HF.out.2.1 HF.out.2.2 ?_; intro V' vc' w2 HO2 HG2 HA2))
      all_goals
        go_wp2_with fail
        exact ⟨⟨row ++ kidsAt (ls.map Ln.nd) ri, i + 1, V', vc', by rw [List.length_append, HKN.out], by go_num, HST, Lib.hid (by rw [natsV_append, List.length_append, HKN.out, ← HKV.out]; exact HO2.out), Lib.hid (HB.out.trans ((Below.refl _ wo).drew.trans (below_grownA HOD.out HG2.out (Nat.le_refl _) HF.out.2.2))), Lib.hid (by have h := HG2.out.size; have := HWS.out; have h2 : wo.drew.heap.size = wo.heap.size := rfl; omega)⟩, by simp [intOf]; omega⟩
    · obtain rfl : i = row.length := by omega
      have HD := Lib.hid HI.out.done
      have i1 : ¬ (row.length : Int) < (row.length : Int) := by omega
      have hr0 := HD.out.first.1
      have HRL := Lib.hid HD.out.len
      obtain ⟨g, rfl, hg1, hg2⟩ := own_some HO.out hr0
      have HEN := Lib.hid HD.out.en
      clear k2 k3
      have HKBo := Lib.hid ((HB.out.block w.heap.size (Nat.lt_succ_self _)).trans HBX.out)
      clear k0 k1
      go_upto_region 8 with (fail)
      go_loopw [0, 10, 11] (fun v0 v10 v11 wr => GrRel2 b S' wo (lsN.map Ln.nd) (ls.map Ln.nd) row V v0 v10 v11 wr) (fun _ _ v11 _ => (intOf v11 + 1).toNat)
      case atStart =>
        exact ⟨0, lsN, V, vc, rfl, by rw [Nat.sub_zero, HEN.out], by simp, Lib.hid (GInv.start HD.out), Lib.hid (own_agree HN.out fun x hx => HBw.out.block x (HVB.out x hx).2), Lib.hid (fun l hl => (HK.out l hl).agree (below_all HBw.out)), Lib.hid ⟨Below.refl _ _, fun _ _ _ => rfl⟩, Lib.hid (.inl rfl)⟩
      case round =>
        obtain ⟨wx, rfl⟩ : ∃ wx : World, wx = wr := ⟨_, rfl⟩
        obtain ⟨m, lsC, V', c', rfl, rfl, rfl, HG, HNx, HKx, HKV, HSV⟩ := hrel
        have hm := HG.out.le
        have HLC := Lib.hid (show lsC.length = lsN.length + m from by have := HG.out.len; simpa using this)
        have HHw := Lib.hid (show w.heap.size < wo.heap.size from by have := HWS.out; omega)
        have HKBx := Lib.hid (show wx.heap[w.heap.size]? = some (.cells #[.slice A ls.length c, .int .i64 root] 24 (0, 0)) from (HKV.out.2 _ HHw.out (fun e => by have := (HVB.out _ e).2; omega)).trans HKBo.out)
        have HNo := Lib.hid (show wo.ownsRow b 56 9 (.slice V lsN.length vc) lsN.length (ndL.all lsN) from own_agree HN.out fun x hx => HBw.out.block x (HVB.out x hx).2)
        have HOx := Lib.hid (HKV.out.int HNo.out HO.out)
        have HBb := Lib.hid (show Below b w wx from (HBw.out.mono hb).trans HKV.out.1)
        by_cases hml : m < row.length
        · have HST := Lib.hid (HG.out.step HOK.out (by simpa using hr) HD.out hml)
          obtain ⟨i, hidef⟩ : ∃ i, i = row.length - 1 - m := ⟨_, rfl⟩
          have hil : i < row.length := by omega
          rw [← hidef] at HST
          have hv11 : ((row.length : Int) - 1 - (m : Int)) = (i : Int) := by omega
          have hsub : row.length - m = i + 1 := by omega
          rw [hv11, hsub]
          have HES := Lib.hid (HD.out.es i hil)
          have HEL := Lib.hid (HD.out.le (i + 1) (by omega))
          have hk : row[i] < ls.length := by have := HD.out.lt _ (List.getElem_mem hil); omega
          have c0 := own_cell HOx.out i hil (u := .int .i64 (row[i] : Int)) (by simp [natsV, hil])
          obtain ⟨ab, ao, hab, _, hab2, x0, x1, x2, x3, x4, x5, x6, x7, x8⟩ := ndRow (HT.out wx HBb.out) row[i] hk
          have HWF := Lib.hid (ndWf (HT.out wx HBb.out) row[i] hk)
          have HGN := Lib.hid (gNode_eq (T := ls.map Ln.nd) (row := row) (base := (lsN.map Ln.nd).length) (i := i) (p := row[i]) (nd := ls[row[i]].nd) (List.getElem?_eq_getElem hil) (by simp [hk]))
          have HKL := Lib.hid (show (kidsAt (ls.map Ln.nd) row[i]).length = ls[row[i]].nd.kids.length from by simp [kidsAt, hk])
          rw [HKL.out] at HES
          obtain ⟨k0, k1, k2, k3⟩ := blk2 HKBx.out
          subst hab
          have i2 : (i : Int) < (row.length : Int) := by omega
          have i3 : (0 : Int) ≤ (i : Int) := by omega
          have i4 : (row[i] : Int) < (ls.length : Int) := by omega
          have i5 : (0 : Int) ≤ (row[i] : Int) := by omega
          have i6 : (i : Int) ≥ 0 := i3
          generalize row[i] = ri at *
          generalize ls[ri] = x at *
          clear k2 k3
          have HID := Lib.hid (And.intro hidef (And.intro hv11 hsub))
          clear hidef hv11 hsub
          go_upto_region 10 with (fail)
          have hz9 : ∀ (p : Addr) (u : Value), wx.cell? p = some u → (wx.alloc (.cells #[.int .u8 0, .int .u64 0, .int .u64 0, .int .u64 0, .int .u64 0, .string ⟨#[]⟩, .int .i64 0, .int .i64 0, .slice none 0 0] 56)).cell? p = some u := fun p u h => ((bx1 wx _).cell (cellLt h)).trans h
          have c0z := hz9 _ _ c0
          have k0z := hz9 _ _ k0
          have k1z := hz9 _ _ k1
          have x0z := hz9 _ _ x0
          have x1z := hz9 _ _ x1
          have x2z := hz9 _ _ x2
          have x3z := hz9 _ _ x3
          have x4z := hz9 _ _ x4
          have x5z := hz9 _ _ x5
          have x6z := hz9 _ _ x6
          have x7z := hz9 _ _ x7
          have x8z := hz9 _ _ x8
          clear hz9
          go_region
          clear c0z k0z k1z x0z x1z x2z x3z x4z x5z x6z x7z x8z x0 x1 x2 x3 x4 x5 x6 x7 x8 c0 k0 k1
          have HX5 := Lib.hid (show (wx.alloc (.cells #[.int .u8 x.nd.kind, .int .u64 x.nd.s0, .int .u64 x.nd.s1, .int .u64 x.nd.s2, .int .u64 x.nd.s3, .string x.nd.text, .int .i64 x.nd.mn, .int .i64 x.nd.mx, .slice x.A x.nd.kids.length x.c] 56)).drew.heap[wx.heap.size]? = some (.cells #[.int .u8 x.nd.kind, .int .u64 x.nd.s0, .int .u64 x.nd.s1, .int .u64 x.nd.s2, .int .u64 x.nd.s3, .string x.nd.text, .int .i64 x.nd.mn, .int .i64 x.nd.mx, .slice x.A x.nd.kids.length x.c] 56 (0, 0)) from bx_new wx _)
          have HB5 := Lib.hid (show Below wx.heap.size wx (wx.alloc (.cells #[.int .u8 x.nd.kind, .int .u64 x.nd.s0, .int .u64 x.nd.s1, .int .u64 x.nd.s2, .int .u64 x.nd.s3, .string x.nd.text, .int .i64 x.nd.mn, .int .i64 x.nd.mx, .slice x.A x.nd.kids.length x.c] 56)).drew from (bx1 wx _).drew)
          have HZ5 := Lib.hid (show (wx.alloc (.cells #[.int .u8 x.nd.kind, .int .u64 x.nd.s0, .int .u64 x.nd.s1, .int .u64 x.nd.s2, .int .u64 x.nd.s3, .string x.nd.text, .int .i64 x.nd.mn, .int .i64 x.nd.mx, .slice x.A x.nd.kids.length x.c] 56)).drew.heap.size = wx.heap.size + 1 from by show (wx.alloc _).heap.size = _; simp)
          generalize (wx.alloc (.cells #[.int .u8 x.nd.kind, .int .u64 x.nd.s0, .int .u64 x.nd.s1, .int .u64 x.nd.s2, .int .u64 x.nd.s3, .string x.nd.text, .int .i64 x.nd.mn, .int .i64 x.nd.mx, .slice x.A x.nd.kids.length x.c] 56)).drew = W5 at *
          have hnk : x.nd.kids.length ≤ 4294967296 := by have := HES.out; have := HEL.out; omega
          have HFK := Lib.hid (show i0.bytes * x.nd.kids.length ≤ 281474976710656 ∧ x.nd.kids.length ≤ maxLen from ⟨by rw [hz2]; omega, by unfold maxLen; omega⟩)
          have hw : IntKind.i64.wrap ((endE (ls.map Ln.nd) row (i + 1) : Int) - (x.nd.kids.length : Int)) = (endE (ls.map Ln.nd) row i : Int) := by
            have := HES.out; have := HEL.out
            rw [IntWalk.i64_in _ (by omega)]; omega
          obtain ⟨_, _, _, _, _, _, _, _, y8, _⟩ := blk9 HX5.out
          go_upto_region 14 with (first
            | (at_make; refine wpList_make_full _ rfl _ _ 25 rfl (wx.heap.size + 1) 3 i0 _ 1 Tryd.underlying25 hi hz0 hz1 .i64 .i64 _ _ x.nd.kids.length rfl rfl rfl rfl HFK.out.1 HFK.out.2 (by have := HZ5.out; omega) ?_; intro w6 hown6 hgrow6; have HO6 := Lib.hid hown6; have HB6 := Lib.hid (show Below W5.heap.size W5 w6 from (Below.refl _ _).grown hgrow6 (Nat.le_refl _) (fun k e => by cases e)); clear hown6 hgrow6)
            | fail)
          clear y8 hw
          have HG3 := Lib.hid (show wx.heap.size < W5.heap.size from by have := HZ5.out; omega)
          have HKN := Lib.hid hnk
          have HLI := Lib.hid (show lsC.length + i + 1 = lsN.length + row.length ∧ lsN.length + row.length ≤ 4294967296 from by have := HLC.out; have := HID.out.1; have := HRL.out; omega)
          generalize hg3 : W5.heap.size = g3 at *
          have HG3E := Lib.hid hg3
          clear hg3
          go_loopw [61] (fun v61 wr => GrRel3 W5 wx.heap.size g3 x.nd.kids.length (fun j => (lsN.length : Int) + ((row.length : Int) - 1) - ((endE (ls.map Ln.nd) row i : Int) + (j : Int))) v61 wr) (fun v61 _ => x.nd.kids.length - (intOf v61).toNat)
          case atStart =>
            exact ⟨0, _, Nat.zero_le _, rfl, HO6, Lib.hid (fun q h => by omega), Lib.hid (HB6.out.mono (by have := HG3.out; omega))⟩
          case round =>
            clear HO6 HB6
            obtain ⟨wy, rfl⟩ : ∃ wy : World, wy = wr := ⟨_, rfl⟩
            obtain ⟨j, vals, hjn, rfl, HOy, HVy, HBy⟩ := hrel
            have hnk := HKN.out
            by_cases hjl : j < x.nd.kids.length
            · have hE1 := HES.out
              have hE2 := HEL.out
              have hE3 := HLI.out
              have F1 := Lib.hid (show (lsC.length : Int) + (i : Int) = (lsN.length : Int) + ((row.length : Int) - 1) ∧ IntKind.i64.wrap ((lsC.length : Int) + (i : Int)) = (lsN.length : Int) + ((row.length : Int) - 1) ∧ IntKind.i64.wrap ((endE (ls.map Ln.nd) row i : Int) + (j : Int)) = (endE (ls.map Ln.nd) row i : Int) + (j : Int) ∧ IntKind.i64.wrap ((lsN.length : Int) + ((row.length : Int) - 1) - ((endE (ls.map Ln.nd) row i : Int) + (j : Int))) = (lsN.length : Int) + ((row.length : Int) - 1) - ((endE (ls.map Ln.nd) row i : Int) + (j : Int)) from by
                refine ⟨by omega, ?_, ?_, ?_⟩ <;> rw [IntWalk.i64_in _ (by omega)] <;> omega)
              clear hE1 hE2 hE3
              have w1 := F1.out.2.1
              have w2 := F1.out.2.2.1
              obtain ⟨ff, hff⟩ : ∃ ff : Int, ff = (lsN.length : Int) + ((row.length : Int) - 1) - ((endE (ls.map Ln.nd) row i : Int) + (j : Int)) := ⟨_, rfl⟩
              have w3 := F1.out.2.2.2
              rw [← hff] at w3
              have w4 : IntKind.i64.wrap ((lsN.length : Int) + ((row.length : Int) - 1) - ((endE (ls.map Ln.nd) row i : Int) + (j : Int))) = ff := by rw [← hff]; exact w3
              clear w3
              have HFF := Lib.hid hff
              clear hff
              obtain ⟨u0, hu0⟩ : ∃ u, vals[j]? = some u := ⟨_, List.getElem?_eq_getElem (show j < vals.length by have := HOy.out.1; omega)⟩
              have cy := own_cell HOy.out j hjl hu0
              have cf := World.ownsRow.frozenAt HOy.out j
              have i7 : (j : Int) < (x.nd.kids.length : Int) := by omega
              have i8 : (0 : Int) ≤ (j : Int) := by omega
              have hvl := HOy.out.1
              have HNX := Lib.hid (World.ownsRow.stored HOy.out j (.int .i64 ff)).1
              go_wp2_with fail
              refine ⟨⟨j + 1, vals.set j (.int .i64 ff), hjl, congrArg (Value.int .i64) (by omega), HNX, Lib.hid fun q hq => ?_, Lib.hid (HBy.out.setCell (p := ⟨g3, j, none⟩) (by have := HG3.out; show _ ≤ g3; omega) _)⟩, by simp [intOf]; omega⟩
              by_cases e : q = j
              · subst e
                rw [List.getElem?_set_self (by omega), HFF.out]
              · rw [List.getElem?_set_ne (by omega)]
                exact HVy.out q (by omega)
            · obtain rfl : j = x.nd.kids.length := by omega
              have HNK := Lib.hid (show vals = intL.all ((List.range x.nd.kids.length).map fun (j : Nat) => ((lsN.map Ln.nd).length : Int) + ((row.length : Int) - 1) - ((endE (ls.map Ln.nd) row i : Int) + (j : Int))) from by
                have hvl := HOy.out.1
                rw [intL_all, List.map_map]
                refine List.ext_getElem? fun q => ?_
                by_cases hq : q < x.nd.kids.length
                · rw [HVy.out q hq]
                  simp [hq]
                · rw [List.getElem?_eq_none (by omega), List.getElem?_eq_none (by simp; omega)])
              generalize hkk : ((List.range x.nd.kids.length).map fun (j : Nat) => ((lsN.map Ln.nd).length : Int) + ((row.length : Int) - 1) - ((endE (ls.map Ln.nd) row i : Int) + (j : Int))) = kk at *
              have HKK := Lib.hid (show kk.length = x.nd.kids.length from by rw [← hkk]; simp)
              clear hkk
              have i7 : ¬ (x.nd.kids.length : Int) < (x.nd.kids.length : Int) := by omega
              have HBX6 := Lib.hid ((HBy.out.block wx.heap.size (Nat.lt_succ_self _)).trans HX5.out)
              obtain ⟨_, _, _, _, _, _, _, _, y8, _, _, _, _, _, _, _, _, z8⟩ := blk9 HBX6.out
              have HX7 := Lib.hid (set_blk9 (u := (.slice (some ⟨g3, 0, none⟩) x.nd.kids.length x.nd.kids.length)) HBX6.out)
              have HE7 := Lib.hid (show ∀ x', x' ≠ wx.heap.size → (wy.setCell ⟨wx.heap.size, 8, none⟩ (.slice (some ⟨g3, 0, none⟩) x.nd.kids.length x.nd.kids.length)).heap[x']? = wy.heap[x']? from fun x' hx => Below.heap_setCell _ _ _ _ hx)
              have HB7 := Lib.hid (show Below wx.heap.size wx (wy.setCell ⟨wx.heap.size, 8, none⟩ (.slice (some ⟨g3, 0, none⟩) x.nd.kids.length x.nd.kids.length)) from (HB5.out.trans (HBy.out.mono (Nat.le_succ _))).setCell (p := ⟨wx.heap.size, 8, none⟩) (Nat.le_refl _) _)
              have HZ7 := Lib.hid (show (wy.setCell ⟨wx.heap.size, 8, none⟩ (.slice (some ⟨g3, 0, none⟩) x.nd.kids.length x.nd.kids.length)).heap.size = wy.heap.size from by simp)
              go_upto_region 19 with (fail)
              generalize (wy.setCell ⟨wx.heap.size, 8, none⟩ (.slice (some ⟨g3, 0, none⟩) x.nd.kids.length x.nd.kids.length)) = w7 at *
              clear y8 z8
              have HOA := Lib.hid (show (w7.alloc (.cells #[.int .u8 x.nd.kind, .int .u64 x.nd.s0, .int .u64 x.nd.s1, .int .u64 x.nd.s2, .int .u64 x.nd.s3, .string x.nd.text, .int .i64 x.nd.mn, .int .i64 x.nd.mx, .slice (some ⟨g3, 0, none⟩) x.nd.kids.length x.nd.kids.length] 56)).ownsRow b 56 9 (.slice V' lsC.length c') lsC.length (ndL.all lsC) from World.ownsRow.alloc (own_agree HNx.out fun y hy => HB7.out.block y (own_blk HNx.out y hy).2) _)
              have F9 := Lib.hid (show lsC.length + 1 ≤ maxLen ∧ (lsC.length + 1) * 96 ≤ 140737488355328 ∧ b ≤ (w7.alloc (.cells #[.int .u8 x.nd.kind, .int .u64 x.nd.s0, .int .u64 x.nd.s1, .int .u64 x.nd.s2, .int .u64 x.nd.s3, .string x.nd.text, .int .i64 x.nd.mn, .int .i64 x.nd.mx, .slice (some ⟨g3, 0, none⟩) x.nd.kids.length x.nd.kids.length] 56)).heap.size from ⟨by have := HLI.out; unfold maxLen; omega, by have := HLI.out; omega, by have := HB7.out.size; have := HBb.out.size; simp; omega⟩)
              refine wp_region_list ?_
              refine wpList_val rfl (exec_move rfl rfl) ?_
              refine wpList_val rfl (exec_load rfl rfl (load9 w7 wx.heap.size _ _ _ _ _ _ _ _ _ _ HX7.out)) ?_
              refine wpList_val rfl (exec_build rfl rfl (build9 w7 _ _ _ _ _ _ _ _ _)) ?_
              refine wpList_append_at _ rfl (.tmp 78) (.tmp 80) 22 rfl b 56 j0 _ 9 96 Tryd.underlying22 hj hy0 hy1 hy2 hzc (by decide) V' c' lsC.length (ndL.all lsC) rfl HOA.out (some ⟨w7.heap.size, 0, none⟩) 1 1 [.int .u8 x.nd.kind, .int .u64 x.nd.s0, .int .u64 x.nd.s1, .int .u64 x.nd.s2, .int .u64 x.nd.s3, .string x.nd.text, .int .i64 x.nd.mn, .int .i64 x.nd.mx, .slice (some ⟨g3, 0, none⟩) x.nd.kids.length x.nd.kids.length] rfl rfl (row_blk (bx_new w7 _)) (fun u hu => by simp only [List.mem_cons, List.not_mem_nil, or_false] at hu; rcases hu with rfl | rfl | rfl | rfl | rfl | rfl | rfl | rfl | rfl <;> rfl) F9.out.1 F9.out.2.1 F9.out.2.2 ?_
              intro V2 c2 w8 HO8 HG8 HA8
              simp only [Act.put, List.setIfInBounds_toArray, List.set_cons_zero, List.set_cons_succ]
              go_wp2_with fail
              have HVx := Lib.hid (own_blk HNx.out)
              have HBx2 := Lib.hid (show w.heap.size ≤ wx.heap.size from by have := HKV.out.1.size; have := HHw.out; omega)
              have hg3w : g3 < wy.heap.size := (own_lt HOy.out).2
              have hg3x := HG3.out
              have hne : ∀ y, y < w7.heap.size → blkOf V' ≠ some y → w8.heap[y]? = w7.heap[y]? := fun y hy hV => (HG8.out.block y (by simp; omega) (fun e => hV e.symm)).trans (Below.heap_alloc _ _ y hy)
              have h78 : w7.heap.size ≤ w8.heap.size := by have := HG8.out.size; simp at this; omega
              have hV3 : blkOf V' ≠ some g3 := fun e => by have := (HVx.out _ e).2; omega
              have hg8 : w8.heap[g3]? = wy.heap[g3]? := (hne g3 (by have := HZ7.out; omega) hV3).trans (HE7.out g3 (by omega))
              have hKV2 : KeptV b V' wx w8 := by
                refine ⟨?_, fun y hy hV => (hne y (by have := HB7.out.size; omega) hV).trans (HB7.out.block y hy)⟩
                have hbx : b ≤ wx.heap.size := by have := HBb.out.size; omega
                exact (HB7.out.mono hbx).trans (((bx1 w7 _).mono (by have := HB7.out.size; omega)).trans (below_grownA HOA.out HG8.out (Nat.le_refl _) F9.out.2.2))
              have hsv2 : Suc V' V2 wx := by
                rcases HA8.out with h | h
                · exact .inl h
                · refine .inr fun y e => ?_
                  rw [h] at e
                  simp only [World.size_alloc, Option.some.injEq] at e
                  have := HB7.out.size; omega
              refine ⟨⟨m + 1, lsC ++ [⟨{ x.nd with kids := kk }, some ⟨g3, 0, none⟩, x.nd.kids.length⟩], V2, c2, ?_, ?_, ?_, Lib.hid ?_, Lib.hid ?_, Lib.hid fun l hl => ?_, Lib.hid (HKV.out.trans HSV.out hKV2), Lib.hid (HSV.out.trans (by have := HKV.out.1.size; exact this) hsv2)⟩, ?_⟩
              · rw [List.length_append]; rfl
              · rw [show row.length - (m + 1) = i from by have := HID.out.1; omega]
              · have := HID.out.1; go_num
              · rw [List.map_append, List.map_singleton]
                have h := HST.out
                rw [HGN.out] at h; exact h
              · have h := HO8.out
                rw [List.length_append]
                rw [show ndL.all (lsC ++ [⟨{ x.nd with kids := kk }, some ⟨g3, 0, none⟩, x.nd.kids.length⟩]) = ndL.all lsC ++ [.int .u8 x.nd.kind, .int .u64 x.nd.s0, .int .u64 x.nd.s1, .int .u64 x.nd.s2, .int .u64 x.nd.s3, .string x.nd.text, .int .i64 x.nd.mn, .int .i64 x.nd.mx, .slice (some ⟨g3, 0, none⟩) x.nd.kids.length x.nd.kids.length] from by rw [Lay.all_append, Lay.all_one]; simp [ndL, HKK.out]]
                exact h
              · rcases List.mem_append.1 hl with hl | hl
                · exact hKV2.nd HNx.out (HKx.out l hl)
                · simp only [List.mem_singleton] at hl
                  subst hl
                  refine ⟨⟨HWF.out.1, HWF.out.2.1, by show kk.length ≤ _; rw [HKK.out]; omega, HWF.out.2.2.2⟩, ?_⟩
                  show OwnS w8 _ _ 1 _ kk.length _ (intL.all kk)
                  rw [HKK.out, ← HNK.out]
                  exact ⟨own_mono (own_agree HOy.out fun y hy => by cases hy; exact hg8) (Nat.zero_le _), fun y hy => by cases hy; exact HSS.out g3 (by have := HBx2.out; omega)⟩
              · simp only [intOf]; omega
        · obtain rfl : m = row.length := by omega
          have HGR := Lib.hid (HG.out.done HD.out)
          have i7 : ¬ ((row.length : Int) - 1 - (row.length : Int)) ≥ 0 := by omega
          have hlc : lsC.length ≤ 4294967296 := by have := HLC.out; have := HRL.out; omega
          go_wp2_with fail
          refine bodyPost_ret (v := .tuple #[.slice V' lsC.length c', .int .i64 ((lsC.length : Int) - 1)]) (by simp [results, Tryd.results29, go_sem]) rfl ?_
          exact ⟨lsC, V', c', rfl, HGR.out, HNx.out, HKx.out, (Below.keptV HBw.out hb).trans (.inl rfl) HKV.out, Suc.trans (V := V) (V' := V) (.inl rfl) (by have := HHw.out; omega) HSV.out⟩
end Go.Proofs.YtfncfmiccomgcaaDoor
