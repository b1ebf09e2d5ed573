/- The contract of bonsairef05.open. -/
import Derived.Test.YtfncfmiccomgcaaDoorCb
namespace Go.Proofs.YtfncfmiccomgcaaDoor
open Go.RowKit
set_option linter.unusedSimpArgs false
set_option linter.unusedVariables false

theorem szs_open (kind : Int) (l : List TT) : szs (l.flatMap (openTT kind)) ≤ szs l := sz_flat l fun x _ => sz_open kind x
theorem szs_take (l : List TT) (k : Nat) : szs (l.take k) ≤ szs l := by
  have h : szs (l.take k) + szs (l.drop k) = szs l := by rw [← sz_app, List.take_append_drop]
  omega
theorem len_open (kind : Int) (l : List TT) (k : Nat) : ((l.take k).flatMap (openTT kind)).length ≤ szs l := by
  have h1 := sz_len ((l.take k).flatMap (openTT kind))
  have h2 := szs_open kind (l.take k)
  have h3 := szs_take l k
  omega
/-- Rows of trees, some of them new. -/
def OpenPost (S : Nat → Prop) (ys : List TT) (w : World) (e : Ending) (w' : World) : Prop := ∃ (V : Option Addr) (vc : Nat) (ks : List Lt), e = .returned (.slice V ks.length vc) ∧ DnL ys ks ∧ w'.ownsRow w.heap.size 24 2 (.slice V ks.length vc) ks.length (ttL.all ks) ∧ (∀ k ∈ ks, k.inn w' (fun b => (S b ∨ w.heap.size ≤ b) ∧ blkOf V ≠ some b)) ∧ Below w.heap.size w w'
def OpRel (S : Nat → Prop) (kind : Int) (w : World) (xs : List TT) (v5 v6 : Value) (wr : World) : Prop :=
  ∃ (k m : Nat) (V : Option Addr) (vc : Nat) (ks : List Lt), k ≤ xs.length ∧ v6 = .int .i64 k ∧ v5 = .slice V m vc ∧ m ≤ szs xs ∧ Hid (DnL ((xs.take k).flatMap (openTT kind)) ks ∧ ks.length = m) ∧ Hid (wr.ownsRow w.heap.size 24 2 (.slice V m vc) m (ttL.all ks)) ∧ Hid (∀ j ∈ ks, j.inn wr (fun b => (S b ∨ w.heap.size ≤ b) ∧ blkOf V ≠ some b)) ∧ Hid (Below w.heap.size w wr)
/-- Trees behind the trees of a row of the call's own. -/
theorem rows_more {wr wx w5 : World} {V V' : Option Addr} {ks ls : List Lt} {S : Nat → Prop} (hK : ∀ j ∈ ks, j.inn wr (fun b => S b ∧ blkOf V ≠ some b)) (hb : Below wr.heap.size wr wx) (hl : ∀ j ∈ ls, j.inn wx (fun b => S b ∧ blkOf V ≠ some b))
    (hg : wx.grownBy w5 (blkOf V)) (hv : blkOf V' = blkOf V ∨ blkOf V' = some wx.heap.size) : ∀ j ∈ ks ++ ls, j.inn w5 (fun b => S b ∧ blkOf V' ≠ some b) := fun j hj => by
  have hz := hb.size
  have hne : ∀ b, b < wx.heap.size → blkOf V ≠ some b → blkOf V' ≠ some b := fun b h1 h2 e => by
    rcases hv with h | h
    · exact h2 (h ▸ e)
    · rw [h] at e; injection e with e; omega
  have key : ∀ j : Lt, j.inn wx (fun b => S b ∧ blkOf V ≠ some b) → j.inn w5 (fun b => S b ∧ blkOf V' ≠ some b) := fun j h => by
    have h1 := h.mono (T := fun b => (S b ∧ blkOf V ≠ some b) ∧ b < wx.heap.size) (fun b a h => ⟨h, a⟩)
    exact (h1.agree (fun b hy _ => hg.block b hy.2 (fun e => hy.1.2 e.symm))).mono (fun b _ hy => ⟨hy.1.1, hne b hy.2 hy.1.2⟩)
  rcases List.mem_append.1 hj with hj | hj
  · exact key j ((hK j hj).below hb)
  · exact key j (hl j hj)
set_option maxRecDepth 100000 in
set_option maxHeartbeats 12800000 in
theorem ropen4 : ∀ (N : Nat) (xs : List TT) (ks : List Lt) (L : Option Addr) (lc : Nat) (S : Nat → Prop) (w : World), szs xs ≤ N → N ≤ 100000 → DnL xs ks → ttL.row w S L ks →
    Calls Tryd.prog 60 #[.int .u8 4, .slice L ks.length lc] w (OpenPost S (xs.flatMap (openTT 4)) w) := by
  obtain ⟨j0, hj, hy0, hy1, hy2⟩ := info_parts infoTreeC
  intro N
  induction N with
  | zero =>
    intro xs ks L lc S w hs _ hd hL
    have hx : xs = [] := List.eq_nil_of_length_eq_zero (by have := sz_len xs; omega)
    subst hx
    have hk : ks = [] := List.eq_nil_of_length_eq_zero hd.len
    subst hk
    go_enter Tryd.func60, Tryd.ntmps60
    go_wp2_with fail
    go_loopw [5, 6] (fun v5 v6 wr => v5 = .slice none 0 0 ∧ v6 = .int .i64 (0 : Nat) ∧ wr = w) (fun _ _ _ => 0)
    case atStart => exact ⟨rfl, rfl, rfl⟩
    case round =>
      obtain ⟨rfl, rfl, rfl⟩ := hrel
      have i1 : ¬ (0 : Int) < ((([] : List Lt).length : Nat) : Int) := by decide
      go_wp2_with fail
      go_ret
      exact ⟨none, 0, [], rfl, .nil, World.ownsRow_nil _ _ _ _, (fun _ h => by cases h), Below.refl _ _⟩
  | succ N ih =>
    intro xs ks L lc S w hs hN hd hL
    have IH := Lib.hid ih; clear ih
    have HD := Lib.hid hd; have HL := Lib.hid hL
    have HLN := Lib.hid hd.len
    have hkl : ks.length ≤ 100000 := by have := sz_len xs; have := hd.len; omega
    have HSX := Lib.hid hs
    clear hd hL
    go_enter Tryd.func60, Tryd.ntmps60
    go_wp2_with fail
    go_loopw [5, 6] (fun v5 v6 wr => OpRel S 4 w xs v5 v6 wr) (fun _ v6 _ => xs.length - (intOf v6).toNat)
    case atStart => exact ⟨0, 0, none, 0, [], Nat.zero_le _, rfl, rfl, Nat.zero_le _, Lib.hid ⟨.nil, rfl⟩, Lib.hid (World.ownsRow_nil _ _ _ _), Lib.hid (fun _ h => by cases h), Lib.hid (Below.refl _ _)⟩
    case round =>
      obtain ⟨k, m, V, vc, os, hk, rfl, rfl, hm, HDL, HO, HIN, HB⟩ := hrel
      by_cases hk1 : k < ks.length
      · have i1 : (k : Int) < (ks.length : Int) := by omega
        have i2 : (0 : Int) ≤ (k : Int) := by omega
        have hk2 : k < xs.length := by have := HLN.out; omega
        have HTK := Lib.hid (show xs.take (k + 1) = xs.take k ++ [xs[k]] from List.take_succ_eq_append_getElem hk2)
        have HDX := Lib.hid (HD.out.at k hk1)
        have HSK := Lib.hid (show szTT xs[k] ≤ szs xs from sz_mem xs _ (List.getElem_mem hk2))
        have HEL := Lib.hid (show ks[k].inn w (fun b => S b ∧ b < w.heap.size) from (HL.out.2 _ (List.getElem_mem hk1)).mono (fun b a h => ⟨h, a⟩))
        obtain ⟨lb, lo, hLA, _, hlb, y0, y1⟩ := ttRow HL.out k hk1
        subst hLA
        have HY := Lib.hid (show ∀ w', Below w.heap.size w w' → w'.cell? ⟨lb, lo + k * 2, none⟩ = some (.slice ks[k].A ks[k].ls.length ks[k].c) ∧ w'.cell? ⟨lb, lo + k * 2 + 1, none⟩ = some (.int .i64 ks[k].root) from fun w' h => ⟨(h.cell (cellLt y0)).trans y0, (h.cell (cellLt y1)).trans y1⟩)
        clear y0 y1
        have hsx := HSX.out; have hsk := HSK.out
        generalize ks[k] = tk at *
        generalize xs[k] = xk at *
        obtain ⟨TA, tc, tls, tr⟩ := tk
        obtain ⟨⟨kd, s0, s1, s2, s3, tx, mn, mx, ki⟩, kk⟩ := xk
        simp only at HY
        have HVt := Lib.hid (show ∀ w', Below w.heap.size w w' → Lies w' (Lt.tr ⟨TA, tc, tls, tr⟩) TA tc tls tr from fun w' h => ⟨((HEL.out.2).below h).mono (fun _ _ _ => trivial), rfl⟩)
        have hki : ki = [] := by have h := HDX.out.fit; exact (fitTT_mk.1 h).1.1
        subst hki
        obtain ⟨q0, q1⟩ := HY.out wr HB.out
        go_wp2_with fail
        refine (show Calls _ _ _ _ (fun e w' => e = .returned (.agg #[.int .u8 kd, .int .u64 s0, .int .u64 s1, .int .u64 s2, .int .u64 s3, .string tx, .int .i64 mn, .int .i64 mx, .slice none 0 0]) ∧ Below wr.heap.size wr w') from rroot_dn (c := tc) (HVt.out wr HB.out) HDX.out (by omega)).mono ?_
        rintro e w1 ⟨rfl, hb1⟩
        have HB1 := Lib.hid (Below.step hb1 (bx1 w1 (.cells #[.int .u8 kd, .int .u64 s0, .int .u64 s1, .int .u64 s2, .int .u64 s3, .string tx, .int .i64 mn, .int .i64 mx, .slice none 0 0] 56)))
        have HK1 := Lib.hid (bx_new w1 (.cells #[.int .u8 kd, .int .u64 s0, .int .u64 s1, .int .u64 s2, .int .u64 s3, .string tx, .int .i64 mn, .int .i64 mx, .slice none 0 0] 56))
        clear hb1 q0 q1
        go_upto_region 6 with (fail)
        generalize w1.alloc (.cells #[.int .u8 kd, .int .u64 s0, .int .u64 s1, .int .u64 s2, .int .u64 s3, .string tx, .int .i64 mn, .int .i64 mx, .slice none 0 0] 56) = W1 at *
        generalize w1.heap.size = nb at *
        have HBW := Lib.hid (Below.step HB.out HB1.out)
        obtain ⟨n0, _⟩ := blk9 HK1.out
        obtain ⟨q0, q1⟩ := HY.out W1 HBW.out
        have HO1 := Lib.hid (own_belowA HO.out HB1.out)
        have hvb : ∀ y, blkOf V = some y → w.heap.size ≤ y ∧ y < wr.heap.size := fun y hy => own_blk HO.out y hy
        have HVB := Lib.hid hvb; clear hvb
        have HZ := Lib.hid (show w.heap.size ≤ wr.heap.size ∧ wr.heap.size ≤ W1.heap.size from ⟨HB.out.size, HB1.out.size⟩)
        have HNX := Lib.hid (show m + (openTT 4 (.mk ⟨kd, s0, s1, s2, s3, tx, mn, mx, []⟩ kk)).length ≤ szs xs from by
          have h1 := len_open 4 xs (k + 1)
          rw [HTK.out, List.flatMap_append, List.length_append, ← HDL.out.1.len, HDL.out.2] at h1
          simpa using h1)
        by_cases hkd : kd = 4
        · subst hkd
          have HOT := Lib.hid (show openTT 4 (.mk ⟨4, s0, s1, s2, s3, tx, mn, mx, []⟩ kk) = kk.flatMap (openTT 4) from by rw [openTT_mk, if_pos rfl])
          rw [HOT.out] at HNX
          go_wp2_with fail
          refine (rkids_dn (c := tc) (HVt.out W1 HBW.out) HDX.out (by omega)).mono ?_
          rintro e w2 ⟨KV, kvc, kks, rfl, hdk, hok, hik, hbk⟩
          have HDK := Lib.hid hdk; have HOK := Lib.hid hok; have HIK := Lib.hid hik; have HBK := Lib.hid hbk
          clear hdk hok hik hbk
          have hszk : szs kk + 1 ≤ szs xs := by have h := hsk; rw [sz_mk] at h; exact h
          have HI := Lib.hid (IH.out kk kks KV kvc (fun b => W1.heap.size ≤ b) w2 (by omega) (by omega) HDK.out ⟨own_rowIn HOK.out (fun ad had => (own_blk HOK.out ad.block (by rw [had]; rfl)).1), fun j hj' => (HIK.out j hj').mono (fun b _ h => h.1)⟩)
          go_wp2_with fail
          refine HI.out.mono ?_
          rintro e w3 ⟨RV, rvc, rs, rfl, hdr, hor, hir, hbr⟩
          have HDR := Lib.hid hdr; have HOR := Lib.hid hor; have HIR := Lib.hid hir; have HB3 := Lib.hid (Below.step HBK.out hbr); have HZ3 := Lib.hid (Nat.le_trans HBK.out.size hbr.size); have HZ2 := Lib.hid HBK.out.size
          clear hdr hor hir hbr HI
          have HLR := Lib.hid (show m + rs.length ≤ szs xs from by have h := HNX.out; rw [← HDR.out.len] at h; exact h)
          have HF := Lib.hid (show m + rs.length ≤ maxLen ∧ (m + rs.length) * 32 ≤ 140737488355328 ∧ w.heap.size ≤ w3.heap.size from ⟨by have := HLR.out; unfold maxLen; omega, by have := HLR.out; omega, by have := HZ.out; have := HZ3.out; omega⟩)
          have hl3 := HLR.out
          as_aux_lemma =>
            go_wp2_with (at_builtin; refine wpList_append_at _ rfl (.tmp 23) (.tmp 30) 30 rfl w.heap.size 24 j0 _ 2 32 Tryd.underlying30 hj hy0 hy1 hy2 rfl (by decide) V vc m (ttL.all os) rfl (own_belowA HO1.out HB3.out) RV rs.length rvc (ttL.all rs) rfl (by rw [ttL.all_length]; rfl) (RowAt.own HOR.out) (ttL.all_one' _) HF.out.1 HF.out.2.1 HF.out.2.2 ?_; intro V' vc' w5 HO5 HG5 HA5)
            have hz := HZ.out; have hz2 := HZ2.out; have hz3 := HZ3.out
            refine ⟨⟨k + 1, m + rs.length, V', vc', os ++ rs, by omega, by go_num, rfl, hl3, Lib.hid ⟨?_, by rw [List.length_append, HDL.out.2]⟩, Lib.hid (by rw [Lay.all_append]; exact HO5.out), Lib.hid ?_, Lib.hid ?_⟩, by simp only [intOf]; omega⟩
            · rw [HTK.out, List.flatMap_append]
              refine HDL.out.1.app ?_
              rw [List.flatMap_cons, List.flatMap_nil, List.append_nil, HOT.out]
              exact HDR.out
            · refine rows_more HIN.out (Below.step HB1.out HB3.out) (fun j hj' => (HIR.out j hj').mono (fun b _ h => ?_)) HG5.out HA5.out
              have h1 : W1.heap.size ≤ b := h.1.elim id (fun h => by omega)
              exact ⟨.inr (by omega), fun e => by have := (HVB.out b e).2; omega⟩
            · exact (Below.step HBW.out HB3.out).grown HG5.out (by omega) (fun y hy => (HVB.out y hy).1)
        · have hf1 : (kd == 4) = false := by simpa using hkd
          have hf2 : decide (kd = 4) = false := by simpa using hkd
          by_cases hk0 : kd = 0
          · subst hk0
            have HOT := Lib.hid (show openTT 4 (.mk ⟨0, s0, s1, s2, s3, tx, mn, mx, []⟩ kk) = [] from by rw [openTT_mk, if_neg hkd, if_pos ⟨rfl, rfl⟩])
            as_aux_lemma =>
              go_wp2_with fail
              refine ⟨⟨k + 1, m, V, vc, os, by omega, by go_num, rfl, hm, Lib.hid ⟨?_, HDL.out.2⟩, HO1, Lib.hid (fun j hj' => (HIN.out j hj').below HB1.out), HBW⟩, by simp only [intOf]; omega⟩
              rw [HTK.out, List.flatMap_append, List.flatMap_cons, List.flatMap_nil, List.append_nil, HOT.out, List.append_nil]
              exact HDL.out.1
          have hg1 : (kd == 0) = false := by simpa using hk0
          have hg2 : decide (kd = 0) = false := by simpa using hk0
          have hg3 : (kd != 0) = true := by simpa using hk0
          have HOT := Lib.hid (show openTT 4 (.mk ⟨kd, s0, s1, s2, s3, tx, mn, mx, []⟩ kk) = [.mk ⟨kd, s0, s1, s2, s3, tx, mn, mx, []⟩ kk] from by rw [openTT_mk, if_neg hkd, if_neg (by simp [hk0])])
          rw [HOT.out] at HNX
          have hl3 : m + 1 ≤ szs xs := HNX.out
          have HF := Lib.hid (show m + 1 ≤ maxLen ∧ (m + 1) * 32 ≤ 140737488355328 ∧ w.heap.size ≤ (W1.alloc (.cells #[.slice TA tls.length tc, .int .i64 tr] 24)).heap.size from ⟨by unfold maxLen; omega, by omega, by have := HZ.out; simp; omega⟩)
          as_aux_lemma =>
            go_wp2_with (at_builtin; refine wpList_append_at _ rfl (.tmp 39) (.tmp 44) 30 rfl w.heap.size 24 j0 _ 2 32 Tryd.underlying30 hj hy0 hy1 hy2 rfl (by decide) V vc m (ttL.all os) rfl (World.ownsRow.alloc HO1.out _) (some ⟨W1.heap.size, 0, none⟩) 1 1 [.slice TA tls.length tc, .int .i64 tr] rfl rfl (row_blk (bx_new W1 _)) (fun u hu => by simp only [List.mem_cons, List.not_mem_nil, or_false] at hu; rcases hu with rfl | rfl <;> rfl) HF.out.1 HF.out.2.1 HF.out.2.2 ?_; intro V' vc' w5 HO5 HG5 HA5)
            have hz := HZ.out
            refine ⟨⟨k + 1, m + 1, V', vc', os ++ [⟨TA, tc, tls, tr⟩], by omega, by go_num, rfl, hl3, Lib.hid ⟨?_, by rw [List.length_append, HDL.out.2]; rfl⟩, Lib.hid (by rw [Lay.all_append, Lay.all_one]; exact HO5.out), Lib.hid ?_, Lib.hid ?_⟩, by simp only [intOf]; omega⟩
            · rw [HTK.out, List.flatMap_append]
              refine HDL.out.1.app ?_
              rw [List.flatMap_cons, List.flatMap_nil, List.append_nil, HOT.out]
              exact .one HDX.out
            · refine rows_more HIN.out (Below.step HB1.out (bx1 W1 _)) (fun j hj' => ?_) HG5.out HA5.out
              obtain rfl := List.mem_singleton.1 hj'
              exact ((HEL.out.below HBW.out).below (bx1 W1 _)).mono (fun b _ h => ⟨.inl h.1, fun e => by have := (HVB.out b e).1; omega⟩)
            · exact (HBW.out.alloc (by omega) _).grown HG5.out (by simp; omega) (fun y hy => (HVB.out y hy).1)
      · have hke : k = ks.length := by have := HLN.out; omega
        subst hke
        have i3 : ¬ (ks.length : Int) < (ks.length : Int) := by omega
        have HDE := Lib.hid (show DnL (xs.flatMap (openTT 4)) os ∧ os.length = m from by
          have h := HDL.out
          rw [HLN.out, List.take_length] at h
          exact h)
        go_wp2_with fail
        go_ret
        exact ⟨V, vc, os, by rw [HDE.out.2]; rfl, HDE.out.1, by rw [HDE.out.2]; exact HO.out, HIN.out, HB.out⟩
set_option maxRecDepth 100000 in
set_option maxHeartbeats 12800000 in
theorem ropen5 : ∀ (N : Nat) (xs : List TT) (ks : List Lt) (L : Option Addr) (lc : Nat) (S : Nat → Prop) (w : World), szs xs ≤ N → N ≤ 100000 → DnL xs ks → ttL.row w S L ks →
    Calls Tryd.prog 60 #[.int .u8 5, .slice L ks.length lc] w (OpenPost S (xs.flatMap (openTT 5)) w) := by
  obtain ⟨j0, hj, hy0, hy1, hy2⟩ := info_parts infoTreeC
  intro N
  induction N with
  | zero =>
    intro xs ks L lc S w hs _ hd hL
    have hx : xs = [] := List.eq_nil_of_length_eq_zero (by have := sz_len xs; omega)
    subst hx
    have hk : ks = [] := List.eq_nil_of_length_eq_zero hd.len
    subst hk
    go_enter Tryd.func60, Tryd.ntmps60
    go_wp2_with fail
    go_loopw [5, 6] (fun v5 v6 wr => v5 = .slice none 0 0 ∧ v6 = .int .i64 (0 : Nat) ∧ wr = w) (fun _ _ _ => 0)
    case atStart => exact ⟨rfl, rfl, rfl⟩
    case round =>
      obtain ⟨rfl, rfl, rfl⟩ := hrel
      have i1 : ¬ (0 : Int) < ((([] : List Lt).length : Nat) : Int) := by decide
      go_wp2_with fail
      go_ret
      exact ⟨none, 0, [], rfl, .nil, World.ownsRow_nil _ _ _ _, (fun _ h => by cases h), Below.refl _ _⟩
  | succ N ih =>
    intro xs ks L lc S w hs hN hd hL
    have IH := Lib.hid ih; clear ih
    have HD := Lib.hid hd; have HL := Lib.hid hL
    have HLN := Lib.hid hd.len
    have hkl : ks.length ≤ 100000 := by have := sz_len xs; have := hd.len; omega
    have HSX := Lib.hid hs
    clear hd hL
    go_enter Tryd.func60, Tryd.ntmps60
    go_wp2_with fail
    go_loopw [5, 6] (fun v5 v6 wr => OpRel S 5 w xs v5 v6 wr) (fun _ v6 _ => xs.length - (intOf v6).toNat)
    case atStart => exact ⟨0, 0, none, 0, [], Nat.zero_le _, rfl, rfl, Nat.zero_le _, Lib.hid ⟨.nil, rfl⟩, Lib.hid (World.ownsRow_nil _ _ _ _), Lib.hid (fun _ h => by cases h), Lib.hid (Below.refl _ _)⟩
    case round =>
      obtain ⟨k, m, V, vc, os, hk, rfl, rfl, hm, HDL, HO, HIN, HB⟩ := hrel
      by_cases hk1 : k < ks.length
      · have i1 : (k : Int) < (ks.length : Int) := by omega
        have i2 : (0 : Int) ≤ (k : Int) := by omega
        have hk2 : k < xs.length := by have := HLN.out; omega
        have HTK := Lib.hid (show xs.take (k + 1) = xs.take k ++ [xs[k]] from List.take_succ_eq_append_getElem hk2)
        have HDX := Lib.hid (HD.out.at k hk1)
        have HSK := Lib.hid (show szTT xs[k] ≤ szs xs from sz_mem xs _ (List.getElem_mem hk2))
        have HEL := Lib.hid (show ks[k].inn w (fun b => S b ∧ b < w.heap.size) from (HL.out.2 _ (List.getElem_mem hk1)).mono (fun b a h => ⟨h, a⟩))
        obtain ⟨lb, lo, hLA, _, hlb, y0, y1⟩ := ttRow HL.out k hk1
        subst hLA
        have HY := Lib.hid (show ∀ w', Below w.heap.size w w' → w'.cell? ⟨lb, lo + k * 2, none⟩ = some (.slice ks[k].A ks[k].ls.length ks[k].c) ∧ w'.cell? ⟨lb, lo + k * 2 + 1, none⟩ = some (.int .i64 ks[k].root) from fun w' h => ⟨(h.cell (cellLt y0)).trans y0, (h.cell (cellLt y1)).trans y1⟩)
        clear y0 y1
        have hsx := HSX.out; have hsk := HSK.out
        generalize ks[k] = tk at *
        generalize xs[k] = xk at *
        obtain ⟨TA, tc, tls, tr⟩ := tk
        obtain ⟨⟨kd, s0, s1, s2, s3, tx, mn, mx, ki⟩, kk⟩ := xk
        simp only at HY
        have HVt := Lib.hid (show ∀ w', Below w.heap.size w w' → Lies w' (Lt.tr ⟨TA, tc, tls, tr⟩) TA tc tls tr from fun w' h => ⟨((HEL.out.2).below h).mono (fun _ _ _ => trivial), rfl⟩)
        have hki : ki = [] := by have h := HDX.out.fit; exact (fitTT_mk.1 h).1.1
        subst hki
        obtain ⟨q0, q1⟩ := HY.out wr HB.out
        go_wp2_with fail
        refine (show Calls _ _ _ _ (fun e w' => e = .returned (.agg #[.int .u8 kd, .int .u64 s0, .int .u64 s1, .int .u64 s2, .int .u64 s3, .string tx, .int .i64 mn, .int .i64 mx, .slice none 0 0]) ∧ Below wr.heap.size wr w') from rroot_dn (c := tc) (HVt.out wr HB.out) HDX.out (by omega)).mono ?_
        rintro e w1 ⟨rfl, hb1⟩
        have HB1 := Lib.hid (Below.step hb1 (bx1 w1 (.cells #[.int .u8 kd, .int .u64 s0, .int .u64 s1, .int .u64 s2, .int .u64 s3, .string tx, .int .i64 mn, .int .i64 mx, .slice none 0 0] 56)))
        have HK1 := Lib.hid (bx_new w1 (.cells #[.int .u8 kd, .int .u64 s0, .int .u64 s1, .int .u64 s2, .int .u64 s3, .string tx, .int .i64 mn, .int .i64 mx, .slice none 0 0] 56))
        clear hb1 q0 q1
        go_upto_region 6 with (fail)
        generalize w1.alloc (.cells #[.int .u8 kd, .int .u64 s0, .int .u64 s1, .int .u64 s2, .int .u64 s3, .string tx, .int .i64 mn, .int .i64 mx, .slice none 0 0] 56) = W1 at *
        generalize w1.heap.size = nb at *
        have HBW := Lib.hid (Below.step HB.out HB1.out)
        obtain ⟨n0, _⟩ := blk9 HK1.out
        obtain ⟨q0, q1⟩ := HY.out W1 HBW.out
        have HO1 := Lib.hid (own_belowA HO.out HB1.out)
        have hvb : ∀ y, blkOf V = some y → w.heap.size ≤ y ∧ y < wr.heap.size := fun y hy => own_blk HO.out y hy
        have HVB := Lib.hid hvb; clear hvb
        have HZ := Lib.hid (show w.heap.size ≤ wr.heap.size ∧ wr.heap.size ≤ W1.heap.size from ⟨HB.out.size, HB1.out.size⟩)
        have HNX := Lib.hid (show m + (openTT 5 (.mk ⟨kd, s0, s1, s2, s3, tx, mn, mx, []⟩ kk)).length ≤ szs xs from by
          have h1 := len_open 5 xs (k + 1)
          rw [HTK.out, List.flatMap_append, List.length_append, ← HDL.out.1.len, HDL.out.2] at h1
          simpa using h1)
        by_cases hkd : kd = 5
        · subst hkd
          have HOT := Lib.hid (show openTT 5 (.mk ⟨5, s0, s1, s2, s3, tx, mn, mx, []⟩ kk) = kk.flatMap (openTT 5) from by rw [openTT_mk, if_pos rfl])
          rw [HOT.out] at HNX
          go_wp2_with fail
          refine (rkids_dn (c := tc) (HVt.out W1 HBW.out) HDX.out (by omega)).mono ?_
          rintro e w2 ⟨KV, kvc, kks, rfl, hdk, hok, hik, hbk⟩
          have HDK := Lib.hid hdk; have HOK := Lib.hid hok; have HIK := Lib.hid hik; have HBK := Lib.hid hbk
          clear hdk hok hik hbk
          have hszk : szs kk + 1 ≤ szs xs := by have h := hsk; rw [sz_mk] at h; exact h
          have HI := Lib.hid (IH.out kk kks KV kvc (fun b => W1.heap.size ≤ b) w2 (by omega) (by omega) HDK.out ⟨own_rowIn HOK.out (fun ad had => (own_blk HOK.out ad.block (by rw [had]; rfl)).1), fun j hj' => (HIK.out j hj').mono (fun b _ h => h.1)⟩)
          go_wp2_with fail
          refine HI.out.mono ?_
          rintro e w3 ⟨RV, rvc, rs, rfl, hdr, hor, hir, hbr⟩
          have HDR := Lib.hid hdr; have HOR := Lib.hid hor; have HIR := Lib.hid hir; have HB3 := Lib.hid (Below.step HBK.out hbr); have HZ3 := Lib.hid (Nat.le_trans HBK.out.size hbr.size); have HZ2 := Lib.hid HBK.out.size
          clear hdr hor hir hbr HI
          have HLR := Lib.hid (show m + rs.length ≤ szs xs from by have h := HNX.out; rw [← HDR.out.len] at h; exact h)
          have HF := Lib.hid (show m + rs.length ≤ maxLen ∧ (m + rs.length) * 32 ≤ 140737488355328 ∧ w.heap.size ≤ w3.heap.size from ⟨by have := HLR.out; unfold maxLen; omega, by have := HLR.out; omega, by have := HZ.out; have := HZ3.out; omega⟩)
          have hl3 := HLR.out
          as_aux_lemma =>
            go_wp2_with (at_builtin; refine wpList_append_at _ rfl (.tmp 23) (.tmp 30) 30 rfl w.heap.size 24 j0 _ 2 32 Tryd.underlying30 hj hy0 hy1 hy2 rfl (by decide) V vc m (ttL.all os) rfl (own_belowA HO1.out HB3.out) RV rs.length rvc (ttL.all rs) rfl (by rw [ttL.all_length]; rfl) (RowAt.own HOR.out) (ttL.all_one' _) HF.out.1 HF.out.2.1 HF.out.2.2 ?_; intro V' vc' w5 HO5 HG5 HA5)
            have hz := HZ.out; have hz2 := HZ2.out; have hz3 := HZ3.out
            refine ⟨⟨k + 1, m + rs.length, V', vc', os ++ rs, by omega, by go_num, rfl, hl3, Lib.hid ⟨?_, by rw [List.length_append, HDL.out.2]⟩, Lib.hid (by rw [Lay.all_append]; exact HO5.out), Lib.hid ?_, Lib.hid ?_⟩, by simp only [intOf]; omega⟩
            · rw [HTK.out, List.flatMap_append]
              refine HDL.out.1.app ?_
              rw [List.flatMap_cons, List.flatMap_nil, List.append_nil, HOT.out]
              exact HDR.out
            · refine rows_more HIN.out (Below.step HB1.out HB3.out) (fun j hj' => (HIR.out j hj').mono (fun b _ h => ?_)) HG5.out HA5.out
              have h1 : W1.heap.size ≤ b := h.1.elim id (fun h => by omega)
              exact ⟨.inr (by omega), fun e => by have := (HVB.out b e).2; omega⟩
            · exact (Below.step HBW.out HB3.out).grown HG5.out (by omega) (fun y hy => (HVB.out y hy).1)
        · have hf1 : (kd == 5) = false := by simpa using hkd
          have hf2 : decide (kd = 5) = false := by simpa using hkd
          have HOT := Lib.hid (show openTT 5 (.mk ⟨kd, s0, s1, s2, s3, tx, mn, mx, []⟩ kk) = [.mk ⟨kd, s0, s1, s2, s3, tx, mn, mx, []⟩ kk] from by rw [openTT_mk, if_neg hkd, if_neg (by simp)])
          rw [HOT.out] at HNX
          have hl3 : m + 1 ≤ szs xs := HNX.out
          have HF := Lib.hid (show m + 1 ≤ maxLen ∧ (m + 1) * 32 ≤ 140737488355328 ∧ w.heap.size ≤ (W1.alloc (.cells #[.slice TA tls.length tc, .int .i64 tr] 24)).heap.size from ⟨by unfold maxLen; omega, by omega, by have := HZ.out; simp; omega⟩)
          as_aux_lemma =>
            go_wp2_with (at_builtin; refine wpList_append_at _ rfl (.tmp 39) (.tmp 44) 30 rfl w.heap.size 24 j0 _ 2 32 Tryd.underlying30 hj hy0 hy1 hy2 rfl (by decide) V vc m (ttL.all os) rfl (World.ownsRow.alloc HO1.out _) (some ⟨W1.heap.size, 0, none⟩) 1 1 [.slice TA tls.length tc, .int .i64 tr] rfl rfl (row_blk (bx_new W1 _)) (fun u hu => by simp only [List.mem_cons, List.not_mem_nil, or_false] at hu; rcases hu with rfl | rfl <;> rfl) HF.out.1 HF.out.2.1 HF.out.2.2 ?_; intro V' vc' w5 HO5 HG5 HA5)
            have hz := HZ.out
            refine ⟨⟨k + 1, m + 1, V', vc', os ++ [⟨TA, tc, tls, tr⟩], by omega, by go_num, rfl, hl3, Lib.hid ⟨?_, by rw [List.length_append, HDL.out.2]; rfl⟩, Lib.hid (by rw [Lay.all_append, Lay.all_one]; exact HO5.out), Lib.hid ?_, Lib.hid ?_⟩, by simp only [intOf]; omega⟩
            · rw [HTK.out, List.flatMap_append]
              refine HDL.out.1.app ?_
              rw [List.flatMap_cons, List.flatMap_nil, List.append_nil, HOT.out]
              exact .one HDX.out
            · refine rows_more HIN.out (Below.step HB1.out (bx1 W1 _)) (fun j hj' => ?_) HG5.out HA5.out
              obtain rfl := List.mem_singleton.1 hj'
              exact ((HEL.out.below HBW.out).below (bx1 W1 _)).mono (fun b _ h => ⟨.inl h.1, fun e => by have := (HVB.out b e).1; omega⟩)
            · exact (HBW.out.alloc (by omega) _).grown HG5.out (by simp; omega) (fun y hy => (HVB.out y hy).1)
      · have hke : k = ks.length := by have := HLN.out; omega
        subst hke
        have i3 : ¬ (ks.length : Int) < (ks.length : Int) := by omega
        have HDE := Lib.hid (show DnL (xs.flatMap (openTT 5)) os ∧ os.length = m from by
          have h := HDL.out
          rw [HLN.out, List.take_length] at h
          exact h)
        go_wp2_with fail
        go_ret
        exact ⟨V, vc, os, by rw [HDE.out.2]; rfl, HDE.out.1, by rw [HDE.out.2]; exact HO.out, HIN.out, HB.out⟩
end Go.Proofs.YtfncfmiccomgcaaDoor

/- The contracts of bonsairef04.Leaf and bonsairef05.put. -/
namespace Go.Proofs.YtfncfmiccomgcaaDoor
open Go.RowKit
set_option linter.unusedSimpArgs false
set_option linter.unusedVariables false

set_option maxRecDepth 100000 in
set_option maxHeartbeats 1600000 in
theorem rleaf_any (n : Nd) (w : World) (hn : n.wf) (hk : n.kids = []) :
    Calls Tryd.prog 61 #[.agg #[.int .u8 n.kind, .int .u64 n.s0, .int .u64 n.s1, .int .u64 n.s2, .int .u64 n.s3, .string n.text, .int .i64 n.mn, .int .i64 n.mx, .slice none 0 0]] w fun e w' => ∃ b, e = .returned (.agg #[.slice (some ⟨b, 0, none⟩) 1 1, .int .i64 0]) ∧ TreeOwn w' (w.heap.size ≤ ·) ⟨some ⟨b, 0, none⟩, 1, [⟨n, none, 0⟩], 0⟩ ∧ Below w.heap.size w w' := by
  go_enter Tryd.func61, Tryd.ntmps61
  go_upto_region 1 with (fail)
  have HW := Lib.hid (bx2 w (.cells #[.int .u8 n.kind, .int .u64 n.s0, .int .u64 n.s1, .int .u64 n.s2, .int .u64 n.s3, .string n.text, .int .i64 n.mn, .int .i64 n.mx, .slice none 0 0] 56) (.cells #[.slice none 0 0, .int .i64 0] 24))
  have HX := Lib.hid (bx_old (p := .cells #[.slice none 0 0, .int .i64 0] 24) (bx_new w (.cells #[.int .u8 n.kind, .int .u64 n.s0, .int .u64 n.s1, .int .u64 n.s2, .int .u64 n.s3, .string n.text, .int .i64 n.mn, .int .i64 n.mx, .slice none 0 0] 56)))
  have HT := Lib.hid (bx_new (w.alloc (.cells #[.int .u8 n.kind, .int .u64 n.s0, .int .u64 n.s1, .int .u64 n.s2, .int .u64 n.s3, .string n.text, .int .i64 n.mn, .int .i64 n.mx, .slice none 0 0] 56)) (.cells #[.slice none 0 0, .int .i64 0] 24))
  have HZ := Lib.hid (show ((w.alloc (.cells #[.int .u8 n.kind, .int .u64 n.s0, .int .u64 n.s1, .int .u64 n.s2, .int .u64 n.s3, .string n.text, .int .i64 n.mn, .int .i64 n.mx, .slice none 0 0] 56)).alloc (.cells #[.slice none 0 0, .int .i64 0] 24)).heap.size = w.heap.size + 2 from by simp)
  generalize ((w.alloc (.cells #[.int .u8 n.kind, .int .u64 n.s0, .int .u64 n.s1, .int .u64 n.s2, .int .u64 n.s3, .string n.text, .int .i64 n.mn, .int .i64 n.mx, .slice none 0 0] 56)).alloc (.cells #[.slice none 0 0, .int .i64 0] 24)) = W at *
  simp only [World.size_alloc] at HT
  refine wp_region_list ?_
  refine wpList_val rfl (exec_load rfl rfl (load9 W w.heap.size _ _ _ _ _ _ _ _ _ _ HX.out)) ?_
  refine wpList_val rfl (exec_build rfl rfl (build9 W _ _ _ _ _ _ _ _ _)) ?_
  simp only [Act.put, List.setIfInBounds_toArray, List.set_cons_zero, List.set_cons_succ]
  have HN := Lib.hid (bx_new W (.cells #[.int .u8 n.kind, .int .u64 n.s0, .int .u64 n.s1, .int .u64 n.s2, .int .u64 n.s3, .string n.text, .int .i64 n.mn, .int .i64 n.mx, .slice none 0 0] 56))
  have HW2 := Lib.hid (bx1 W (.cells #[.int .u8 n.kind, .int .u64 n.s0, .int .u64 n.s1, .int .u64 n.s2, .int .u64 n.s3, .string n.text, .int .i64 n.mn, .int .i64 n.mx, .slice none 0 0] 56))
  generalize W.alloc (.cells #[.int .u8 n.kind, .int .u64 n.s0, .int .u64 n.s1, .int .u64 n.s2, .int .u64 n.s3, .string n.text, .int .i64 n.mn, .int .i64 n.mx, .slice none 0 0] 56) = W2 at *
  have HT2 := Lib.hid (bx_kept HW2.out HT.out)
  obtain ⟨t1, t2, t3, t4⟩ := blk2 HT2.out
  go_wp2_with fail
  refine bodyPost_ret (v := .agg #[.slice (some ⟨W.heap.size, 0, none⟩) 1 1, .int .i64 0]) (by simp [results, Tryd.results61, go_sem, t1, t2]) rfl ?_
  have hz := HZ.out
  refine ⟨W.heap.size, rfl, ((tree_one hn hk HN.out 0).agree (fun x hx _ => ?_)).mono (fun x _ hx => by have hx : W.heap.size ≤ x := hx; show w.heap.size ≤ x; omega), ((Below.step HW.out HW2.out).setCell (p := ⟨w.heap.size + 1, 0, none⟩) (by simp) _).setCell (p := ⟨w.heap.size + 1, 1, none⟩) (by simp) _⟩
  have hx : W.heap.size ≤ x := hx
  exact (Below.heap_setCell _ _ _ _ (by show x ≠ w.heap.size + 1; omega)).trans (Below.heap_setCell _ _ _ _ (by show x ≠ w.heap.size + 1; omega))

theorem DnL.kk {xs : List TT} {ks : List Lt} (h : DnL xs ks) (hs : szs xs ≤ 100000) : ∀ t ∈ ks, (∀ l ∈ t.ls, l.nd.kids.length ≤ 4294967296) ∧ (kidsOf (t.ls.map Ln.nd)).length ≤ 4611686018427387904 := fun t ht => by
  have h1 : Dn (denT t.tr) t.tr := ⟨h.2 t ht, rfl⟩
  have h2 : szTT (denT t.tr) ≤ 100000 := by
    have := sz_mem xs (denT t.tr) (by rw [← h.1]; exact List.mem_map.2 ⟨t, ht, rfl⟩)
    omega
  have hk := h1.kids
  exact ⟨fun l hl => by have := hk.1 l.nd (List.mem_map.2 ⟨l, hl, rfl⟩); omega, sq_le hk.2 h2⟩
/-- A node and its kids. -/
theorem rof_dn {w : World} {S : Nat → Prop} {L : Option Addr} {lc : Nat} {xs : List TT} {ks : List Lt} {n : Nd} {K : Value} (hL : ttL.row w S L ks) (hd : DnL xs ks) (hs : szs xs ≤ 100000) (hn : n.wf) (hf : fitN n xs.length = true) :
    Calls Tryd.prog 42 #[ndV n K, .slice L ks.length lc] w (TupPost (treeOf (.mk n xs)) w) := by
  have ho := hd.of n hf
  refine (rof_any n K L lc ks S w hn hL (by have := hd.len; have := sz_len xs; omega) (by rw [hd.sum]; omega) (hd.kk hs) ho.1).mono ?_
  rintro e w' ⟨⟨A, c, ls, r⟩, rfl, h1, h2, h3⟩
  exact ⟨A, c, ls, r, rfl, ⟨h2.inn.2, h1.trans ho.2⟩, h3⟩
theorem rclean_dn {w : World} {x : TT} {T : Tr} {A : Option Addr} {c : Nat} {ls : List Ln} {r : Int} (hT : Lies w T A c ls r) (hd : Dn x T) (hs : szTT x ≤ 100000) :
    Calls Tryd.prog 58 #[.agg #[.slice A ls.length c, .int .i64 r]] w fun e w' => ∃ A c ls r, e = .returned (.agg #[.slice A ls.length c, .int .i64 r]) ∧ LiesO w.heap.size w' (treeOf x) A c ls r ∧ Below w.heap.size w w' := by
  have hl := hT.len
  rw [hd.len] at hl
  have hk2 := hd.kids
  have hR := hd.right
  have h2 := hd.2
  have hsb := hd.sub (k := T.root.toNat) (by have := hR.1; omega)
  rw [← hT.2] at hk2 hR h2 hsb
  have hr := hR.1
  simp only [List.length_map] at hr
  obtain ⟨rn, rfl⟩ := Int.eq_ofNat_of_zero_le hr.1
  refine (rclean_any A c ls rn _ w hT.1 (by omega) (fun l hl' => by have := hk2.1 l.nd (List.mem_map.2 ⟨l, hl', rfl⟩); omega) (sq_le hk2.2 hs) hR).mono ?_
  rintro e w' ⟨⟨A', c', ls', r'⟩, rfl, h3, h4, h5⟩
  refine ⟨A', c', ls', r', rfl, ⟨h4.inn.2, h3.trans ?_⟩, h5⟩
  rw [← h2]; exact hsb.1
theorem rleaf_dn (n : Nd) (w : World) (hn : n.wf) (hk : n.kids = []) :
    Calls Tryd.prog 61 #[ndV n (.slice none 0 0)] w fun e w' => ∃ A c ls r, e = .returned (.agg #[.slice A ls.length c, .int .i64 r]) ∧ LiesO w.heap.size w' (treeOf (.mk n [])) A c ls r ∧ Below w.heap.size w w' := by
  refine (rleaf_any n w hn hk).mono ?_
  rintro e w' ⟨b, rfl, h1, h2⟩
  refine ⟨some ⟨b, 0, none⟩, 1, [⟨n, none, 0⟩], 0, rfl, ⟨h1.inn.2, ?_⟩, h2⟩
  obtain ⟨kd, s0, s1, s2, s3, tx, mn, mx, ki⟩ := n
  simp only at hk
  subst hk
  rfl
theorem fit_more {n : Nd} {m k : Int} (h : fitN n m = true) (hk : n.kind = 4 ∨ n.kind = 5) (hm : 2 ≤ k) : fitN n k = true := by
  obtain ⟨kd, s0, s1, s2, s3, tx, mn, mx, ki⟩ := n
  simp only at hk
  rcases hk with rfl | rfl
  · have h' : (noSet ⟨4, s0, s1, s2, s3, tx, mn, mx, ki⟩ && noText ⟨4, s0, s1, s2, s3, tx, mn, mx, ki⟩ && noNum ⟨4, s0, s1, s2, s3, tx, mn, mx, ki⟩ && decide (2 ≤ m)) = true := h
    show (noSet ⟨4, s0, s1, s2, s3, tx, mn, mx, ki⟩ && noText ⟨4, s0, s1, s2, s3, tx, mn, mx, ki⟩ && noNum ⟨4, s0, s1, s2, s3, tx, mn, mx, ki⟩ && decide (2 ≤ k)) = true
    rw [Bool.and_eq_true] at h' ⊢
    exact ⟨h'.1, decide_eq_true hm⟩
  · have h' : (noSet ⟨5, s0, s1, s2, s3, tx, mn, mx, ki⟩ && noText ⟨5, s0, s1, s2, s3, tx, mn, mx, ki⟩ && noNum ⟨5, s0, s1, s2, s3, tx, mn, mx, ki⟩ && decide (2 ≤ m)) = true := h
    show (noSet ⟨5, s0, s1, s2, s3, tx, mn, mx, ki⟩ && noText ⟨5, s0, s1, s2, s3, tx, mn, mx, ki⟩ && noNum ⟨5, s0, s1, s2, s3, tx, mn, mx, ki⟩ && decide (2 ≤ k)) = true
    rw [Bool.and_eq_true] at h' ⊢
    exact ⟨h'.1, decide_eq_true hm⟩
theorem joinTT_other {n : Nd} {l : List TT} (h4 : n.kind ≠ 4) (h5 : n.kind ≠ 5) : joinTT n l = .mk n l := by unfold joinTT; rw [if_neg h4, if_neg h5]
set_option maxRecDepth 100000 in
set_option maxHeartbeats 12800000 in
theorem r5put_dn {w : World} {S : Nat → Prop} {L : Option Addr} {lc : Nat} {xs : List TT} {ks : List Lt} (n : Nd) (K : Value) (hL : ttL.row w S L ks) (hd : DnL xs ks) (hs : szs xs ≤ 100000) (hn : n.wf) (hki : n.kids = []) (h45 : n.kind = 4 ∨ n.kind = 5 → fitN n 2 = true) (hot : n.kind ≠ 4 → n.kind ≠ 5 → fitN n xs.length = true) :
    Calls Tryd.prog 46 #[ndV n K, .slice L ks.length lc] w (TupPost (treeOf (joinTT n xs)) w) := by
  have HL := Lib.hid hL; have HD := Lib.hid hd; have HN := Lib.hid hn; have H45 := Lib.hid h45; have HOT := Lib.hid hot
  clear hL hd hn h45 hot
  obtain ⟨kd, s0, s1, s2, s3, tx, mn, mx, ki⟩ := n
  simp only at hki
  subst hki
  simp only at H45 HOT
  have HB0 := Lib.hid (bx2 w (.cells #[.int .u8 kd, .int .u64 s0, .int .u64 s1, .int .u64 s2, .int .u64 s3, .string tx, .int .i64 mn, .int .i64 mx, K] 56) (.cells #[.slice none 0 0, .int .i64 0] 24))
  have HK0 := Lib.hid (show ((w.alloc (.cells #[.int .u8 kd, .int .u64 s0, .int .u64 s1, .int .u64 s2, .int .u64 s3, .string tx, .int .i64 mn, .int .i64 mx, K] 56)).alloc (.cells #[.slice none 0 0, .int .i64 0] 24)).heap[w.heap.size]? = some (.cells #[.int .u8 kd, .int .u64 s0, .int .u64 s1, .int .u64 s2, .int .u64 s3, .string tx, .int .i64 mn, .int .i64 mx, K] 56 (0, 0)) ∧ ((w.alloc (.cells #[.int .u8 kd, .int .u64 s0, .int .u64 s1, .int .u64 s2, .int .u64 s3, .string tx, .int .i64 mn, .int .i64 mx, K] 56)).alloc (.cells #[.slice none 0 0, .int .i64 0] 24)).heap[w.heap.size + 1]? = some (.cells #[.slice none 0 0, .int .i64 0] 24 (0, 0)) from by
    have h := bx_new (w.alloc (.cells #[.int .u8 kd, .int .u64 s0, .int .u64 s1, .int .u64 s2, .int .u64 s3, .string tx, .int .i64 mn, .int .i64 mx, K] 56)) (.cells #[.slice none 0 0, .int .i64 0] 24)
    rw [World.size_alloc] at h
    exact ⟨bx_old (bx_new w _), h⟩)
  have HZ0 := Lib.hid (show w.heap.size + 2 ≤ ((w.alloc (.cells #[.int .u8 kd, .int .u64 s0, .int .u64 s1, .int .u64 s2, .int .u64 s3, .string tx, .int .i64 mn, .int .i64 mx, K] 56)).alloc (.cells #[.slice none 0 0, .int .i64 0] 24)).heap.size from by simp)
  have HFIN := Lib.hid (show ∀ (wd : World) (A : Option Addr) (c : Nat) (ls : List Ln) (r : Int) (T : Tr) (W : World), wd.heap[w.heap.size + 1]? = some (.cells #[.slice none 0 0, .int .i64 0] 24 (0, 0)) → LiesO W.heap.size wd T A c ls r → w.heap.size + 2 ≤ W.heap.size → Below w.heap.size w wd → LiesO w.heap.size ((wd.setCell ⟨w.heap.size + 1, 0, none⟩ (.slice A ls.length c)).setCell ⟨w.heap.size + 1, 1, none⟩ (.int .i64 r)) T A c ls r ∧ Below w.heap.size w ((wd.setCell ⟨w.heap.size + 1, 0, none⟩ (.slice A ls.length c)).setCell ⟨w.heap.size + 1, 1, none⟩ (.int .i64 r)) from fun wd A c ls r T W h1 h2 h3 h4 => by
    have h := box_lateO h1 (Nat.lt_succ_self _) (h2.mono h3) h4 (Nat.le_succ _)
    exact ⟨h.2.1.mono (by omega), h.2.2⟩)
  go_enter Tryd.func46, Tryd.ntmps46
  go_upto_region 1 with (fail)
  generalize (w.alloc (.cells #[.int .u8 kd, .int .u64 s0, .int .u64 s1, .int .u64 s2, .int .u64 s3, .string tx, .int .i64 mn, .int .i64 mx, K] 56)).alloc (.cells #[.slice none 0 0, .int .i64 0] 24) = W0 at *
  have HLW := Lib.hid (HL.out.below HB0.out)
  obtain ⟨n0, n1, n2, n3, n4, n5, n6, n7, n8, _⟩ := blk9 HK0.out.1
  obtain ⟨t0, t1, _, _⟩ := blk2 HK0.out.2
  by_cases hk4 : kd = 4
  case neg =>
    by_cases hk5 : kd = 5
    case neg =>
      have e4 : (kd == 4) = false := by simpa using hk4
      have e5 : (kd == 5) = false := by simpa using hk5
      have f4 : (kd != 4) = true := by simpa using hk4
      have f5 : (kd != 5) = true := by simpa using hk5
      have g4 : decide (kd = 4) = false := by simpa using hk4
      have g5 : decide (kd = 5) = false := by simpa using hk5
      have HJ := Lib.hid (show joinTT ⟨kd, s0, s1, s2, s3, tx, mn, mx, []⟩ xs = .mk ⟨kd, s0, s1, s2, s3, tx, mn, mx, []⟩ xs from joinTT_other hk4 hk5)
      have HO := Lib.hid (rof_dn (lc := lc) (K := K) HLW.out HD.out hs HN.out (HOT.out hk4 hk5))
      clear hk4 hk5
      go_wp2_with fail
      refine HO.out.mono ?_
      rintro e w1 ⟨A, c, ls, r, rfl, hl, hb⟩
      have HLO := Lib.hid hl; have HB1 := Lib.hid (Below.step HB0.out hb); have HK1 := Lib.hid (bx_kept hb HK0.out.2)
      clear hl hb t0 t1 n0 n1 n2 n3 n4 n5 n6 n7 n8
      obtain ⟨t0, t1, t2, t3⟩ := blk2 HK1.out
      go_wp2_with fail
      refine bodyPost_ret (v := .tuple #[.agg #[.slice A ls.length c, .int .i64 r], .bool true]) (by simp [results, Tryd.results46, go_sem, t0, t1]) rfl ?_
      have h := HFIN.out w1 A c ls r _ W0 HK1.out HLO.out HZ0.out HB1.out
      rw [HJ.out]
      exact ⟨A, c, ls, r, rfl, h.1, h.2⟩
    case pos =>
      subst hk5
      have HFT := Lib.hid (rfits_any ⟨5, s0, s1, s2, s3, tx, mn, mx, []⟩ K 2 W0 HN.out.1 HN.out.2.1)
      rw [H45.out (by simp)] at HFT
      have HJ := Lib.hid (show joinTT ⟨5, s0, s1, s2, s3, tx, mn, mx, []⟩ xs = joined ⟨5, s0, s1, s2, s3, tx, mn, mx, []⟩ setN (xs.flatMap (openTT 5)) from rfl)
      have HOT' := Lib.hid HOT.out
      go_wp2_with fail
      refine HFT.out.mono ?_
      rintro e w1 ⟨rfl, hb⟩
      have HB1 := Lib.hid (Below.step HB0.out hb); have HKN := Lib.hid (bx_kept hb HK0.out.1); have HKT := Lib.hid (bx_kept hb HK0.out.2); have HZ1 := Lib.hid (Nat.le_trans HZ0.out hb.size); have HL1 := Lib.hid (HLW.out.below hb)
      clear hb t0 t1 n0 n1 n2 n3 n4 n5 n6 n7 n8
      obtain ⟨n0, n1, n2, n3, n4, n5, n6, n7, n8, _⟩ := blk9 HKN.out
      have HOP := Lib.hid (ropen5 (szs xs) xs ks L lc S w1 (Nat.le_refl _) hs HD.out HL1.out)
      go_wp2_with fail
      refine HOP.out.mono ?_
      rintro e w2 ⟨V, vc, os, rfl, hdo, hoo, hio, hbo⟩
      have HDO := Lib.hid hdo; have HOO := Lib.hid hoo; have HIO := Lib.hid hio; have HB2 := Lib.hid (Below.step HB1.out hbo); have HKN2 := Lib.hid (bx_kept hbo HKN.out); have HKT2 := Lib.hid (bx_kept hbo HKT.out); have HZ2 := Lib.hid (Nat.le_trans HZ1.out hbo.size)
      have HROW := Lib.hid (show ttL.row w2 (fun _ => True) V os from ⟨own_rowIn HOO.out (fun _ _ => trivial), fun j hj => (HIO.out j hj).mono (fun _ _ _ => trivial)⟩)
      have HSO := Lib.hid (show szs (xs.flatMap (openTT 5)) ≤ 100000 from by have := szs_open 5 xs; omega)
      clear hdo hoo hio hbo HOP n0 n1 n2 n3 n4 n5 n6 n7 n8
      obtain ⟨n0, n1, n2, n3, n4, n5, n6, n7, n8, _⟩ := blk9 HKN2.out
      obtain ⟨t0, t1, t2, t3⟩ := blk2 HKT2.out
      generalize xs.flatMap (openTT 5) = ys at *
      have hlen := HDO.out.len
      have hol : os.length ≤ 100000 := by have := sz_len ys; have := HSO.out; omega
      rcases os with _ | ⟨o1, os⟩
      · have hy : ys = [] := List.eq_nil_of_length_eq_zero hlen.symm
        subst hy
        clear hlen
        go_wp2_with fail
        refine (rleaf_dn setN w2 (by refine ⟨?_, ?_, ?_, ?_, ?_, ?_, ?_⟩ <;> first | decide | simp [setN, U64]) rfl).mono ?_
        rintro e w3 ⟨A, c, ls, r, rfl, hl, hb⟩
        have HLO := Lib.hid hl; have HB3 := Lib.hid (Below.step HB2.out hb); have HK3 := Lib.hid (bx_kept hb HKT2.out)
        clear hl hb t0 t1 t2 t3
        obtain ⟨t0, t1, t2, t3⟩ := blk2 HK3.out
        go_wp2_with fail
        refine bodyPost_ret (v := .tuple #[.agg #[.slice A ls.length c, .int .i64 r], .bool true]) (by simp [results, Tryd.results46, go_sem, t0, t1]) rfl ?_
        have h := HFIN.out w3 A c ls r _ w2 HK3.out HLO.out HZ2.out HB3.out
        rw [HJ.out]
        exact ⟨A, c, ls, r, rfl, h.1, h.2⟩
      rcases os with _ | ⟨o2, os⟩
      · have hd1 := HDO.out.at 0 (by simp)
        obtain ⟨y, rfl⟩ : ∃ y, ys = [y] := by
          match ys, hlen with
          | [y], _ => exact ⟨y, rfl⟩
        clear hlen
        obtain ⟨A1, c1, l1, r1⟩ := o1
        have HD1 := Lib.hid (show Dn y (Lt.tr ⟨A1, c1, l1, r1⟩) from hd1)
        clear hd1
        have HSY := Lib.hid (show szTT y ≤ 100000 from by have h := HSO.out; rw [sz_cons] at h; omega)
        obtain ⟨vb, vo, hVV, _, hvl, x0, x1⟩ := ttRow HROW.out 0 (by simp)
        subst hVV
        have HLI := Lib.hid (show Lies w2 (Lt.tr ⟨A1, c1, l1, r1⟩) A1 c1 l1 r1 from ⟨(HROW.out.2 _ List.mem_cons_self).2, rfl⟩)
        simp only [List.getElem_cons_zero, Nat.zero_mul, Nat.add_zero] at x0 x1
        go_wp2_with fail
        refine (rclean_dn (c := c1) HLI.out HD1.out HSY.out).mono ?_
        rintro e w3 ⟨A, c, ls, r, rfl, hl, hb⟩
        have HLO := Lib.hid hl; have HB3 := Lib.hid (Below.step HB2.out hb); have HK3 := Lib.hid (bx_kept hb HKT2.out)
        clear hl hb t0 t1 t2 t3
        obtain ⟨t0, t1, t2, t3⟩ := blk2 HK3.out
        go_wp2_with fail
        refine bodyPost_ret (v := .tuple #[.agg #[.slice A ls.length c, .int .i64 r], .bool true]) (by simp [results, Tryd.results46, go_sem, t0, t1]) rfl ?_
        have h := HFIN.out w3 A c ls r _ w2 HK3.out HLO.out HZ2.out HB3.out
        rw [HJ.out]
        exact ⟨A, c, ls, r, rfl, h.1, h.2⟩
      have hy2 : 2 ≤ ys.length := by rw [← hlen]; simp
      have HJ2 := Lib.hid (show joinTT ⟨5, s0, s1, s2, s3, tx, mn, mx, []⟩ xs = .mk ⟨5, s0, s1, s2, s3, tx, mn, mx, []⟩ ys from HJ.out.trans (joined_two _ _ hy2))
      have HO := Lib.hid (rof_dn (lc := vc) (K := K) (n := ⟨5, s0, s1, s2, s3, tx, mn, mx, []⟩) HROW.out HDO.out HSO.out HN.out (fit_more (H45.out (by simp)) (by simp) (by omega)))
      clear hlen hy2
      obtain ⟨mz, hmz⟩ : ∃ mz, (o1 :: o2 :: os).length = mz + 2 := ⟨os.length, rfl⟩
      rw [hmz] at HO hol ⊢
      have j1 : ¬ ((mz + 2 : Nat) : Int) = 0 := by omega
      have j2 : ¬ ((mz + 2 : Nat) : Int) = 1 := by omega
      clear hmz
      go_wp2_with fail
      refine HO.out.mono ?_
      rintro e w3 ⟨A, c, ls, r, rfl, hl, hb⟩
      have HLO := Lib.hid hl; have HB3 := Lib.hid (Below.step HB2.out hb); have HK3 := Lib.hid (bx_kept hb HKT2.out)
      clear hl hb t0 t1 t2 t3
      obtain ⟨t0, t1, t2, t3⟩ := blk2 HK3.out
      go_wp2_with fail
      refine bodyPost_ret (v := .tuple #[.agg #[.slice A ls.length c, .int .i64 r], .bool true]) (by simp [results, Tryd.results46, go_sem, t0, t1]) rfl ?_
      have h := HFIN.out w3 A c ls r _ w2 HK3.out HLO.out HZ2.out HB3.out
      rw [HJ2.out]
      exact ⟨A, c, ls, r, rfl, h.1, h.2⟩
  case pos =>
    subst hk4
    have HFT := Lib.hid (rfits_any ⟨4, s0, s1, s2, s3, tx, mn, mx, []⟩ K 2 W0 HN.out.1 HN.out.2.1)
    rw [H45.out (by simp)] at HFT
    have HJ := Lib.hid (show joinTT ⟨4, s0, s1, s2, s3, tx, mn, mx, []⟩ xs = joined ⟨4, s0, s1, s2, s3, tx, mn, mx, []⟩ emptyN (xs.flatMap (openTT 4)) from rfl)
    have HOT' := Lib.hid HOT.out
    go_wp2_with fail
    refine HFT.out.mono ?_
    rintro e w1 ⟨rfl, hb⟩
    have HB1 := Lib.hid (Below.step HB0.out hb); have HKN := Lib.hid (bx_kept hb HK0.out.1); have HKT := Lib.hid (bx_kept hb HK0.out.2); have HZ1 := Lib.hid (Nat.le_trans HZ0.out hb.size); have HL1 := Lib.hid (HLW.out.below hb)
    clear hb t0 t1 n0 n1 n2 n3 n4 n5 n6 n7 n8
    obtain ⟨n0, n1, n2, n3, n4, n5, n6, n7, n8, _⟩ := blk9 HKN.out
    have HOP := Lib.hid (ropen4 (szs xs) xs ks L lc S w1 (Nat.le_refl _) hs HD.out HL1.out)
    go_wp2_with fail
    refine HOP.out.mono ?_
    rintro e w2 ⟨V, vc, os, rfl, hdo, hoo, hio, hbo⟩
    have HDO := Lib.hid hdo; have HOO := Lib.hid hoo; have HIO := Lib.hid hio; have HB2 := Lib.hid (Below.step HB1.out hbo); have HKN2 := Lib.hid (bx_kept hbo HKN.out); have HKT2 := Lib.hid (bx_kept hbo HKT.out); have HZ2 := Lib.hid (Nat.le_trans HZ1.out hbo.size)
    have HROW := Lib.hid (show ttL.row w2 (fun _ => True) V os from ⟨own_rowIn HOO.out (fun _ _ => trivial), fun j hj => (HIO.out j hj).mono (fun _ _ _ => trivial)⟩)
    have HSO := Lib.hid (show szs (xs.flatMap (openTT 4)) ≤ 100000 from by have := szs_open 4 xs; omega)
    clear hdo hoo hio hbo HOP n0 n1 n2 n3 n4 n5 n6 n7 n8
    obtain ⟨n0, n1, n2, n3, n4, n5, n6, n7, n8, _⟩ := blk9 HKN2.out
    obtain ⟨t0, t1, t2, t3⟩ := blk2 HKT2.out
    generalize xs.flatMap (openTT 4) = ys at *
    have hlen := HDO.out.len
    have hol : os.length ≤ 100000 := by have := sz_len ys; have := HSO.out; omega
    rcases os with _ | ⟨o1, os⟩
    · have hy : ys = [] := List.eq_nil_of_length_eq_zero hlen.symm
      subst hy
      clear hlen
      go_wp2_with fail
      refine (rleaf_dn emptyN w2 (by refine ⟨?_, ?_, ?_, ?_, ?_, ?_, ?_⟩ <;> first | decide | simp [emptyN, U64]) rfl).mono ?_
      rintro e w3 ⟨A, c, ls, r, rfl, hl, hb⟩
      have HLO := Lib.hid hl; have HB3 := Lib.hid (Below.step HB2.out hb); have HK3 := Lib.hid (bx_kept hb HKT2.out)
      clear hl hb t0 t1 t2 t3
      obtain ⟨t0, t1, t2, t3⟩ := blk2 HK3.out
      go_wp2_with fail
      refine bodyPost_ret (v := .tuple #[.agg #[.slice A ls.length c, .int .i64 r], .bool true]) (by simp [results, Tryd.results46, go_sem, t0, t1]) rfl ?_
      have h := HFIN.out w3 A c ls r _ w2 HK3.out HLO.out HZ2.out HB3.out
      rw [HJ.out]
      exact ⟨A, c, ls, r, rfl, h.1, h.2⟩
    rcases os with _ | ⟨o2, os⟩
    · have hd1 := HDO.out.at 0 (by simp)
      obtain ⟨y, rfl⟩ : ∃ y, ys = [y] := by
        match ys, hlen with
        | [y], _ => exact ⟨y, rfl⟩
      clear hlen
      obtain ⟨A1, c1, l1, r1⟩ := o1
      have HD1 := Lib.hid (show Dn y (Lt.tr ⟨A1, c1, l1, r1⟩) from hd1)
      clear hd1
      have HSY := Lib.hid (show szTT y ≤ 100000 from by have h := HSO.out; rw [sz_cons] at h; omega)
      obtain ⟨vb, vo, hVV, _, hvl, x0, x1⟩ := ttRow HROW.out 0 (by simp)
      subst hVV
      have HLI := Lib.hid (show Lies w2 (Lt.tr ⟨A1, c1, l1, r1⟩) A1 c1 l1 r1 from ⟨(HROW.out.2 _ List.mem_cons_self).2, rfl⟩)
      simp only [List.getElem_cons_zero, Nat.zero_mul, Nat.add_zero] at x0 x1
      go_wp2_with fail
      refine (rclean_dn (c := c1) HLI.out HD1.out HSY.out).mono ?_
      rintro e w3 ⟨A, c, ls, r, rfl, hl, hb⟩
      have HLO := Lib.hid hl; have HB3 := Lib.hid (Below.step HB2.out hb); have HK3 := Lib.hid (bx_kept hb HKT2.out)
      clear hl hb t0 t1 t2 t3
      obtain ⟨t0, t1, t2, t3⟩ := blk2 HK3.out
      go_wp2_with fail
      refine bodyPost_ret (v := .tuple #[.agg #[.slice A ls.length c, .int .i64 r], .bool true]) (by simp [results, Tryd.results46, go_sem, t0, t1]) rfl ?_
      have h := HFIN.out w3 A c ls r _ w2 HK3.out HLO.out HZ2.out HB3.out
      rw [HJ.out]
      exact ⟨A, c, ls, r, rfl, h.1, h.2⟩
    have hy2 : 2 ≤ ys.length := by rw [← hlen]; simp
    have HJ2 := Lib.hid (show joinTT ⟨4, s0, s1, s2, s3, tx, mn, mx, []⟩ xs = .mk ⟨4, s0, s1, s2, s3, tx, mn, mx, []⟩ ys from HJ.out.trans (joined_two _ _ hy2))
    have HO := Lib.hid (rof_dn (lc := vc) (K := K) (n := ⟨4, s0, s1, s2, s3, tx, mn, mx, []⟩) HROW.out HDO.out HSO.out HN.out (fit_more (H45.out (by simp)) (by simp) (by omega)))
    clear hlen hy2
    obtain ⟨mz, hmz⟩ : ∃ mz, (o1 :: o2 :: os).length = mz + 2 := ⟨os.length, rfl⟩
    rw [hmz] at HO hol ⊢
    have j1 : ¬ ((mz + 2 : Nat) : Int) = 0 := by omega
    have j2 : ¬ ((mz + 2 : Nat) : Int) = 1 := by omega
    clear hmz
    go_wp2_with fail
    refine HO.out.mono ?_
    rintro e w3 ⟨A, c, ls, r, rfl, hl, hb⟩
    have HLO := Lib.hid hl; have HB3 := Lib.hid (Below.step HB2.out hb); have HK3 := Lib.hid (bx_kept hb HKT2.out)
    clear hl hb t0 t1 t2 t3
    obtain ⟨t0, t1, t2, t3⟩ := blk2 HK3.out
    go_wp2_with fail
    refine bodyPost_ret (v := .tuple #[.agg #[.slice A ls.length c, .int .i64 r], .bool true]) (by simp [results, Tryd.results46, go_sem, t0, t1]) rfl ?_
    have h := HFIN.out w3 A c ls r _ w2 HK3.out HLO.out HZ2.out HB3.out
    rw [HJ2.out]
    exact ⟨A, c, ls, r, rfl, h.1, h.2⟩
end Go.Proofs.YtfncfmiccomgcaaDoor

/- The contract of bonsairef05.Make. -/
namespace Go.Proofs.YtfncfmiccomgcaaDoor
open Go.RowKit
set_option linter.unusedSimpArgs false
set_option linter.unusedVariables false

theorem root_wf {w : World} {x : TT} {T : Tr} {A : Option Addr} {c : Nat} {ls : List Ln} {r : Int} (hT : Lies w T A c ls r) (hd : Dn x T) : x.nd.wf ∧ x.nd.kids = [] := by
  have hnd := hd.node
  have hR := hd.right
  rw [← hT.2] at hnd hR
  have hr := hR.1
  simp only [List.length_map] at hr
  have hrn : r.toNat < ls.length := by omega
  have h1 := ndWf hT.1 r.toNat hrn
  have e : x.nd = bareN ls[r.toNat].nd := by
    rw [hnd]
    simp [TT.nd, ndAt, hrn]
  rw [e]
  obtain ⟨a, b, cc, d⟩ := h1
  exact ⟨⟨a, b, by simp [bareN], d⟩, rfl⟩
def RMkRel (WK : World) (ys : List TT) (v4 v6 : Value) (wr : World) : Prop :=
  ∃ (k : Nat) (V : Option Addr) (vc : Nat) (os : List Lt), k ≤ ys.length ∧ v6 = .int .i64 k ∧ v4 = .slice V k vc ∧ Hid (DnL (ys.take k) os) ∧ Hid (wr.ownsRow WK.heap.size 24 2 (.slice V k vc) k (ttL.all os)) ∧ Hid (∀ j ∈ os, j.inn wr (fun b => WK.heap.size ≤ b ∧ blkOf V ≠ some b)) ∧ Hid (Below WK.heap.size WK wr)
set_option maxRecDepth 100000 in
set_option maxHeartbeats 12800000 in
theorem r5make_dn : ∀ (N : Nat) (x : TT) (T : Tr) (A : Option Addr) (c : Nat) (ls : List Ln) (r : Int) (w : World), szTT x ≤ N → N ≤ 100000 → Dn x T → Lies w T A c ls r →
    Calls Tryd.prog 31 #[.agg #[.slice A ls.length c, .int .i64 r]] w (TupPost (treeOf (makeTT x)) w) := by
  obtain ⟨j0, hj, hy0, hy1, hy2⟩ := info_parts infoTreeC
  intro N
  induction N with
  | zero =>
    intro x T A c ls r w hs _ _ _
    have h := flat_ne x
    unfold szTT at hs
    omega
  | succ N ih =>
    intro x T A c ls r w hs hN hd hT
    have IH := Lib.hid ih; have HD := Lib.hid hd
    have hwf := root_wf hT hd
    have HWF := Lib.hid hwf.1; have HKI := Lib.hid hwf.2
    have HB0 := Lib.hid (bx2 w (.cells #[.slice A ls.length c, .int .i64 r] 24) (.cells #[.slice none 0 0, .int .i64 0] 24))
    have HK0 := Lib.hid (box2 w (.slice A ls.length c) (.int .i64 r))
    have HT0 := Lib.hid (hT.below HB0.out)
    clear ih hd hwf hT
    go_enter Tryd.func31, Tryd.ntmps31
    go_upto_region 1 with (fail)
    generalize (w.alloc (.cells #[.slice A ls.length c, .int .i64 r] 24)).alloc (.cells #[.slice none 0 0, .int .i64 0] 24) = W0 at *
    obtain ⟨q0, q1, _, _⟩ := blk2 HK0.out.1
    go_wp2_with fail
    refine (rright_dn (c := c) HT0.out HD.out (by omega)).mono ?_
    rintro e w1 ⟨rfl, hb⟩
    have HB1 := Lib.hid (Below.step HB0.out hb); have HKT := Lib.hid (bx_kept hb HK0.out.1); have HKR := Lib.hid (bx_kept hb HK0.out.2.1); have HZ1 := Lib.hid (show w.heap.size + 2 ≤ w1.heap.size from by have h1 := hb.size; have h2 := HK0.out.2.2; omega); have HT1 := Lib.hid (HT0.out.below hb)
    clear hb q0 q1 HT0
    obtain ⟨q0, q1, _, _⟩ := blk2 HKT.out
    go_wp2_with fail
    refine (rkids_dn (c := c) HT1.out HD.out (by omega)).mono ?_
    rintro e wk ⟨KV, kvc, ks, rfl, hdk, hok, hik, hbk⟩
    have HDK := Lib.hid hdk; have HBK := Lib.hid (Below.step HB1.out hbk); have HKT2 := Lib.hid (bx_kept hbk HKT.out); have HKR2 := Lib.hid (bx_kept hbk HKR.out); have HZ2 := Lib.hid (Nat.le_trans HZ1.out hbk.size); have HT2 := Lib.hid (HT1.out.below hbk)
    have HROW := Lib.hid (show ttL.row wk (fun _ => True) KV ks from ⟨own_rowIn hok (fun _ _ => trivial), fun j hj' => (hik j hj').mono (fun _ _ _ => trivial)⟩)
    clear hdk hok hik hbk q0 q1 HKT HKR HT1
    have HFX := Lib.hid HD.out.fit
    obtain ⟨nd, kk⟩ := x
    simp only [TT.nd] at HWF HKI
    have HSK := Lib.hid (show szs kk + 1 ≤ N + 1 from by have h := hs; rw [sz_mk] at h; exact h)
    have HMP := Lib.hid (show (kk.map makeTT).length = kk.length ∧ szs (kk.map makeTT) ≤ szs kk from ⟨by simp, sz_map kk fun x _ => sz_make x⟩)
    have hdl := HDK.out.len
    simp only [TT.kids] at hdl HDK
    have HDLN := Lib.hid hdl
    have hkn : ks.length ≤ 100000 := by have := sz_len kk; have := HSK.out; omega
    clear hdl
    go_wp2_with fail
    go_loopw [4, 6] (fun v4 v6 wr => RMkRel wk (kk.map makeTT) v4 v6 wr) (fun _ v6 _ => kk.length - (intOf v6).toNat)
    case atStart => exact ⟨0, none, 0, [], Nat.zero_le _, rfl, rfl, Lib.hid .nil, Lib.hid (World.ownsRow_nil _ _ _ _), Lib.hid (fun _ h => by cases h), Lib.hid (Below.refl _ _)⟩
    case round =>
      obtain ⟨k, V, vc, os, hk, rfl, rfl, HDL, HO, HIN, HB⟩ := hrel
      have HZR := Lib.hid HB.out.size
      by_cases hk1 : k < ks.length
      · have i1 : (k : Int) < (ks.length : Int) := by omega
        have i2 : (0 : Int) ≤ (k : Int) := by omega
        have hk2 : k < kk.length := by have := HDLN.out; omega
        have HTK := Lib.hid (show (kk.map makeTT).take (k + 1) = (kk.map makeTT).take k ++ [makeTT kk[k]] from by
          rw [List.take_succ_eq_append_getElem (by simpa using hk2)]; simp)
        have HDX := Lib.hid (HDK.out.at k hk1)
        have HSX := Lib.hid (show szTT kk[k] ≤ N from by have h := sz_mem kk _ (List.getElem_mem hk2); have := HSK.out; omega)
        obtain ⟨lb, lo, hLA, _, _, y0, y1⟩ := ttRow (HROW.out.below HB.out) k hk1
        subst hLA
        have HEL := Lib.hid (show Lies wr ks[k].tr ks[k].A ks[k].c ks[k].ls ks[k].root from ⟨(HROW.out.below HB.out).2 _ (List.getElem_mem hk1) |>.2, rfl⟩)
        generalize ks[k] = tk at *
        generalize kk[k] = xk at *
        obtain ⟨TA, tc, tls, tr⟩ := tk
        simp only at y0 y1 HEL
        have HI := Lib.hid (IH.out xk _ TA tc tls tr wr HSX.out (by omega) HDX.out HEL.out)
        go_wp2_with fail
        refine HI.out.mono ?_
        rintro e w2 ⟨A4, c4, l4, r4, rfl, hl4, hb4⟩
        have HLL := Lib.hid (show l4.length ≤ 281474976710656 from by
          have h1 := hl4.lies.len
          rw [sz_treeOf] at h1
          have h2 := sz_make xk
          have := HSX.out
          omega)
        have HL4 := Lib.hid (hl4.below (bx1 w2 (.cells #[.slice A4 l4.length c4, .int .i64 r4] 24))); have HR := Lib.hid (Below.step hb4 (bx1 w2 (.cells #[.slice A4 l4.length c4, .int .i64 r4] 24))); have HG := Lib.hid (bx_new w2 (.cells #[.slice A4 l4.length c4, .int .i64 r4] 24))
        clear hl4 hb4 HI y0 y1
        go_upto_region 9 with (fail)
        generalize w2.alloc (.cells #[.slice A4 l4.length c4, .int .i64 r4] 24) = W2 at *
        generalize w2.heap.size = g at *
        have HF := Lib.hid (show k + 1 ≤ maxLen ∧ (k + 1) * 32 ≤ 140737488355328 ∧ wk.heap.size ≤ (W2.alloc (.cells #[.slice A4 l4.length c4, .int .i64 r4] 24)).heap.size from ⟨by unfold maxLen; omega, by omega, by have := HR.out.size; have := HZR.out; simp; omega⟩)
        have HOC := Lib.hid (own_belowA HO.out HR.out)
        obtain ⟨y0, y1, _, _⟩ := blk2 HG.out
        have hgl := (Array.getElem?_eq_some_iff.1 HG.out).1
        as_aux_lemma =>
          go_wp2_with (at_builtin; refine wpList_append_at _ rfl (.tmp 29) (.tmp 31) 30 rfl wk.heap.size 24 j0 _ 2 32 Tryd.underlying30 hj hy0 hy1 hy2 rfl (by decide) V vc k (ttL.all os) rfl (World.ownsRow.alloc HOC.out _) (some ⟨W2.heap.size, 0, none⟩) 1 1 [.slice A4 l4.length c4, .int .i64 r4] rfl rfl (row_blk (bx_new W2 _)) (fun u hu => by simp only [List.mem_cons, List.not_mem_nil, or_false] at hu; rcases hu with rfl | rfl <;> rfl) HF.out.1 HF.out.2.1 HF.out.2.2 ?_; intro V' vc' w5 HO5 HG5 HA5)
          have hz := HZR.out; have hzr := HR.out.size
          have hvb : ∀ y, blkOf V = some y → wk.heap.size ≤ y ∧ y < wr.heap.size := fun y hy => own_blk HO.out y hy
          have hdn : Dn (makeTT xk) (Lt.tr ⟨A4, c4, l4, r4⟩) := by
            rw [show Lt.tr ⟨A4, c4, l4, r4⟩ = treeOf (makeTT xk) from HL4.out.2]
            exact Dn.of (make_ok HDX.out.fit).1
          refine ⟨⟨k + 1, V', vc', os ++ [⟨A4, c4, l4, r4⟩], by rw [HMP.out.1]; exact hk2, by go_num, rfl, Lib.hid (by rw [HTK.out]; exact HDL.out.app (.one hdn)), Lib.hid (by rw [Lay.all_append, Lay.all_one]; exact HO5.out), Lib.hid ?_, Lib.hid ?_⟩, by simp only [intOf]; omega⟩
          · exact row_more HIN.out (fun y hy => (hvb y hy).2) (Below.step HR.out (bx1 W2 _)) ⟨HL4.out.1.below (bx1 W2 _), HL4.out.2⟩ hz HLL.out HG5.out HA5.out
          · exact ((Below.step HB.out HR.out).alloc (by omega) _).grown HG5.out (by simp; omega) (fun y hy => (hvb y hy).1)
      · have hke : k = ks.length := by have h1 := HDLN.out; have h2 := HMP.out.1; omega
        subst hke
        have i3 : ¬ (ks.length : Int) < (ks.length : Int) := by omega
        have HDE := Lib.hid (show DnL (kk.map makeTT) os ∧ os.length = ks.length from by
          have h := HDL.out
          rw [show ks.length = (kk.map makeTT).length from by rw [HMP.out.1]; exact HDLN.out, List.take_length] at h
          exact ⟨h, by rw [h.len, HMP.out.1]; exact HDLN.out.symm⟩)
        have HKT3 := Lib.hid (bx_kept HB.out HKT2.out); have HKR3 := Lib.hid (bx_kept HB.out HKR2.out); have HT3 := Lib.hid (HT2.out.below HB.out)
        have HRO := Lib.hid (show ttL.row wr (fun _ => True) V os from ⟨by have h := HO.out; rw [← HDE.out.2] at h; exact own_rowIn h (fun _ _ => trivial), fun j hj' => (HIN.out j hj').mono (fun _ _ _ => trivial)⟩)
        obtain ⟨q0, q1, _, _⟩ := blk2 HKT3.out
        go_wp2_with fail
        refine (rroot_dn (c := c) HT3.out HD.out (by omega)).mono ?_
        rintro e w3 ⟨rfl, hb3⟩
        have hpf := (fitTT_mk.1 HFX.out).1.2
        have HP := Lib.hid (r5put_dn (lc := vc) nd (.slice none 0 0) (HRO.out.below hb3) HDE.out.1 (by have h1 := HMP.out.2; have h2 := HSK.out; omega) HWF.out HKI.out (fun h => fit_more hpf h (by omega)) (fun _ _ => by rw [HMP.out.1]; exact hpf))
        have HB3 := Lib.hid (Below.step HBK.out (Below.step HB.out hb3)); have HKR4 := Lib.hid (bx_kept hb3 HKR3.out); have HZ3 := Lib.hid (show w.heap.size + 2 ≤ w3.heap.size from by have h1 := HZ2.out; have h2 := HZR.out; have h3 := hb3.size; omega)
        clear hb3 q0 q1 hpf
        rw [HDE.out.2] at HP
        obtain ⟨kd, s0, s1, s2, s3, tx, mn, mx, ki⟩ := nd
        simp only [TT.nd]
        go_wp2_with fail
        refine HP.out.mono ?_
        rintro e w4 ⟨A4, c4, l4, r4, rfl, hl4, hb4⟩
        have HL4 := Lib.hid hl4; have HB4 := Lib.hid (Below.step HB3.out hb4); have HKR5 := Lib.hid (bx_kept hb4 HKR4.out)
        clear hl4 hb4
        obtain ⟨t0, t1, t2, t3⟩ := blk2 HKR5.out
        go_wp2_with fail
        refine bodyPost_ret (v := .tuple #[.agg #[.slice A4 l4.length c4, .int .i64 r4], .bool true]) (by simp [results, Tryd.results31, go_sem, t0, t1]) rfl ?_
        have h := box_lateO HKR5.out (Nat.lt_succ_self _) (HL4.out.mono HZ3.out) HB4.out (Nat.le_succ _)
        rw [makeTT_mk]
        exact ⟨A4, c4, l4, r4, rfl, h.2.1.mono (by omega), h.2.2⟩
end Go.Proofs.YtfncfmiccomgcaaDoor
