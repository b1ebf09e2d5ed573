/- The contracts of gram.Find and gram.Names. -/
import Derived.Test.YtmjkgnknfgoadaaGreatDoorHg
import Derived.Test.YtmjkgnknfgoadaaGreatDoorDs
import Derived.Test.YtmjkgnknfgoadaaGreatDoorDw
namespace Go.Proofs.YtmjkgnknfgoadaaGreatDoor
open Go.RowKit
set_option linter.unusedSimpArgs false
set_option linter.unusedVariables false

theorem findG_skip : ∀ (g : List Df) (s : ByteArray) (k : Nat) (hk : k < g.length), (∀ d ∈ g.take k, d.name ≠ s) → g[k].name = s → findG g s = (k : Int)
  | d :: g, s, 0, _, _, h => by
    have h : d.name = s := h
    simp [findG, h]
  | d :: g, s, k + 1, hk, h0, h => by
    have h1 : d.name ≠ s := h0 d (by simp)
    have h2 := findG_skip g s k (by simpa using hk) (fun x hx => h0 x (by simp [hx])) h
    rw [findG, if_neg h1, if_neg (by omega), h2]
    rfl
theorem findG_none : ∀ (g : List Df) (s : ByteArray), (∀ d ∈ g, d.name ≠ s) → findG g s = -1
  | [], _, _ => rfl
  | d :: g, s, h => by
    rw [findG, if_neg (h d List.mem_cons_self), findG_none g s (fun x hx => h x (List.mem_cons_of_mem _ hx))]
    rfl
def FindRel (w : World) (H : Nat) (A : Option Addr) (c : Nat) (ds : List Ld) (s : ByteArray) (i : Value) (wr : World) : Prop :=
  ∃ k : Nat, k ≤ ds.length ∧ i = .int .i64 k ∧ Hid (∀ d ∈ (ds.map Ld.df).take k, d.name ≠ s) ∧ Hid (wr.heap[H]? = some (.cells #[.slice A ds.length c] 24 (0, 0))) ∧ Hid (Below H w wr)
set_option maxRecDepth 100000 in
set_option maxHeartbeats 3200000 in
theorem find_any (A : Option Addr) (c : Nat) (ds : List Ld) (s : ByteArray) (S : Nat → Prop) (w : World) (hT : dfL.row w S A ds) (hl : ds.length ≤ 4294967296) :
    Calls Tryz.prog 12 #[.agg #[.slice A ds.length c], .string s] w fun e w' => e = .returned (.int .i64 (findG (ds.map Ld.df) s)) ∧ Below w.heap.size w w' := by
  have HT := Lib.hid hT; clear hT
  go_enter Tryz.func12, Tryz.ntmps12
  have HB0 := Lib.hid (bx1 w (.cells #[.slice A ds.length c] 24))
  have HK0 := Lib.hid (bx_new w (.cells #[.slice A ds.length c] 24))
  go_wp2_with fail
  go_loopw [10] (fun i wr => FindRel w w.heap.size A c ds s i wr) (fun i _ => ds.length - (intOf i).toNat)
  case atStart => exact ⟨0, Nat.zero_le _, rfl, Lib.hid (by simp), HK0, HB0⟩
  case round =>
    clear HK0 HB0
    obtain ⟨k, hk, rfl, HNO, HK, HB⟩ := hrel
    by_cases hlt : k < ds.length
    · have i1 : (k : Int) < (ds.length : Int) := by omega
      have i2 : (0 : Int) ≤ (k : Int) := by omega
      obtain ⟨b, o, rfl, _, _, x0, x1, x2⟩ := dfRow (HT.out.below HB.out) k hlt
      have HNM := Lib.hid (show ((ds.map Ld.df)[k]'(by simpa using hlt)).name = ds[k].name from by simp [Ld.df])
      generalize hd : ds[k] = d at *
      have HDD := Lib.hid hd; clear hd
      have HBR := Lib.hid (bx1 wr (.cells #[.string d.name, .slice d.t.A d.t.ls.length d.t.c, .int .i64 d.t.root] 50))
      by_cases he : d.name = s
      · have e1 : (d.name.toList == s.toList) = true := by rw [he]; simp
        have HF := Lib.hid (findG_skip (ds.map Ld.df) s k (by simpa using hlt) HNO.out (HNM.out.trans he))
        clear he
        as_aux_lemma =>
          go_wp2_with fail
          go_ret
          exact ⟨by rw [HF.out]; rfl, Below.step HB.out HBR.out⟩
      · have e1 : (d.name.toList == s.toList) = false := by
          rw [beq_eq_false_iff_ne]
          intro h
          rw [Lib.toList_data, Lib.toList_data] at h
          exact he (text_ext h)
        have HE := Lib.hid he; clear he
        as_aux_lemma =>
          go_wp2_with fail
          exact ⟨⟨k + 1, by omega, by go_num, Lib.hid (fun x hx => by
            rw [List.take_succ_eq_append_getElem (by simpa using hlt)] at hx
            rcases List.mem_append.1 hx with hx | hx
            · exact HNO.out x hx
            · simp only [List.mem_singleton] at hx; subst hx; rw [HNM.out]; exact HE.out), Lib.hid (bx_kept HBR.out HK.out), Lib.hid (Below.step HB.out HBR.out)⟩, by simp only [intOf]; omega⟩
    · obtain rfl : k = ds.length := by omega
      have HF := Lib.hid (findG_none (ds.map Ld.df) s (fun d hd => HNO.out d (by rw [List.take_of_length_le (by simp)]; exact hd)))
      as_aux_lemma =>
        go_wp2_with fail
        go_ret
        exact ⟨by rw [HF.out]; rfl, HB.out⟩
end Go.Proofs.YtmjkgnknfgoadaaGreatDoor

/- The contract of gram.Names. -/
namespace Go.Proofs.YtmjkgnknfgoadaaGreatDoor
open Go.RowKit
set_option linter.unusedSimpArgs false
set_option linter.unusedVariables false

theorem infoText : (Tryz.prog.info? 9).map (fun i => (i.zero, i.size, i.bytes)) = some (some (.string ByteArray.empty), 1, 16) := by kernel_rfl
def textsV (l : List ByteArray) : List Value := l.map Value.string
def NamesPost (l : List ByteArray) (w : World) (e : Ending) (w' : World) : Prop := ∃ V c, e = .returned (.slice V l.length c) ∧ w'.ownsRow w.heap.size 9 1 (.slice V l.length c) l.length (textsV l) ∧ Below w.heap.size w w'
def NamesRel (w : World) (H : Nat) (A : Option Addr) (c : Nat) (ds : List Ld) (i l : Value) (wr : World) : Prop :=
  ∃ (k : Nat) (V : Option Addr) (vc : Nat), k ≤ ds.length ∧ i = .int .i64 k ∧ l = .slice V k vc ∧ Hid (wr.ownsRow (H + 1) 9 1 (.slice V k vc) k (textsV ((ds.take k).map Ld.name))) ∧ Hid (wr.heap[H]? = some (.cells #[.slice A ds.length c] 24 (0, 0))) ∧ Hid (Below H w wr) ∧ Hid (H + 1 ≤ wr.heap.size)
set_option maxRecDepth 100000 in
set_option maxHeartbeats 3200000 in
theorem gnames_any (A : Option Addr) (c : Nat) (ds : List Ld) (S : Nat → Prop) (w : World) (hT : dfL.row w S A ds) (hl : ds.length ≤ 4294967296) :
    Calls Tryz.prog 10 #[.agg #[.slice A ds.length c]] w (NamesPost (ds.map Ld.name) w) := by
  obtain ⟨i0, hi, hz0, hz1, hz2⟩ := info_parts infoText
  have HT := Lib.hid hT; clear hT
  unfold NamesPost
  go_enter Tryz.func10, Tryz.ntmps10
  have HB0 := Lib.hid (bx1 w (.cells #[.slice A ds.length c] 24))
  have HK0 := Lib.hid (bx_new w (.cells #[.slice A ds.length c] 24))
  go_wp2_with fail
  go_loopw [9, 3] (fun i l wr => NamesRel w w.heap.size A c ds i l wr) (fun i _ _ => ds.length - (intOf i).toNat)
  case atStart => exact ⟨0, none, 0, Nat.zero_le _, rfl, rfl, Lib.hid (World.ownsRow_nil _ _ _ _), HK0, HB0, Lib.hid (by simp)⟩
  case round =>
    clear HK0 HB0
    obtain ⟨k, V, vc, hk, rfl, rfl, HO, HK, HB, HZ⟩ := hrel
    by_cases hlt : k < ds.length
    · have i1 : (k : Int) < (ds.length : Int) := by omega
      have i2 : (0 : Int) ≤ (k : Int) := by omega
      obtain ⟨b, o, rfl, _, _, x0, x1, x2⟩ := dfRow (HT.out.below HB.out) k hlt
      have HTK := Lib.hid (show (ds.take (k + 1)).map Ld.name = (ds.take k).map Ld.name ++ [ds[k].name] from by rw [List.take_succ_eq_append_getElem hlt, List.map_append]; rfl)
      generalize ds[k] = d at *
      have HF := Lib.hid (show k + 1 ≤ maxLen ∧ (k + 1) * 16 ≤ 140737488355328 from ⟨by unfold maxLen; omega, by omega⟩)
      go_wp2_with (at_builtin; refine wpList_append_at _ rfl (.tmp 13) (.tmp 16) 27 rfl (w.heap.size + 1) 9 i0 _ 1 16 Tryz.underlying27 hi hz0 hz1 hz2 rfl (by decide) V vc k (textsV ((ds.take k).map Ld.name)) rfl (World.ownsRow.alloc (World.ownsRow.alloc HO.out _) _) (some ⟨wr.heap.size + 1, 0, none⟩) 1 1 [.string d.name] rfl rfl (by have h := bx_new (wr.alloc (.cells #[.string d.name, .slice d.t.A d.t.ls.length d.t.c, .int .i64 d.t.root] 50)) (.cells #[.string d.name] 9); rw [World.size_alloc] at h; exact row_blk (cs := [.string d.name]) h) (fun u hu => by simp only [List.mem_singleton] at hu; subst hu; rfl) HF.out.1 HF.out.2 (by have := HZ.out; simp; omega) ?_; intro V' vc' w3 HO3 HG3 HA3)
      have hz := HZ.out
      have hbk := fun x hx => (own_blk HO.out x hx).1
      have h2 : Below wr.heap.size wr ((wr.alloc (.cells #[.string d.name, .slice d.t.A d.t.ls.length d.t.c, .int .i64 d.t.root] 50)).alloc (.cells #[.string d.name] 9)) := bx2 wr _ _
      refine ⟨⟨k + 1, V', vc', hlt, by go_num, rfl, Lib.hid ?_, Lib.hid ((HG3.out.block _ (by simp; omega) (fun e => by have := hbk _ e.symm; omega)).trans ((h2.block _ (by omega)).trans HK.out)), Lib.hid ((Below.step HB.out h2).grown HG3.out (by simp; omega) (fun x hx => by have := hbk x hx; omega)), Lib.hid (by have h := HG3.out.size; simp at h; omega)⟩, by simp only [intOf]; omega⟩
      rw [HTK.out]
      have e : textsV ((ds.take k).map Ld.name ++ [d.name]) = textsV ((ds.take k).map Ld.name) ++ [.string d.name] := by simp [textsV]
      rw [e]; exact HO3.out
    · obtain rfl : k = ds.length := by omega
      have HL := Lib.hid (show (ds.map Ld.name).length = ds.length from by simp)
      as_aux_lemma =>
        go_wp2_with fail
        go_ret
        refine ⟨V, vc, by rw [HL.out]; rfl, ?_, HB.out⟩
        rw [HL.out]
        have h := HO.out
        rw [List.take_length] at h
        exact own_mono h (by omega)
end Go.Proofs.YtmjkgnknfgoadaaGreatDoor

/- The contract of bonsailaw09.large: large, or else small. -/
namespace Go.Proofs.YtmjkgnknfgoadaaGreatDoor
open Go.RowKit
set_option linter.unusedSimpArgs false
set_option linter.unusedVariables false

def Small9D (d : Ld) : Prop := d.t.ls.length ≤ 600 ∧ ∀ l ∈ d.t.ls, l.nd.kids.length ≤ 600
def Small9G (ds : List Ld) : Prop := ds.length ≤ 600 ∧ ∀ d ∈ ds, Small9D d
theorem Small9D.mod {d : Ld} (h : Small9D d) : DMod d := ⟨by have := h.1; omega, fun l hl => by have := h.2 l hl; omega⟩
/-- Large, or else small. -/
def Large9Post (gs : List Lg) (w : World) (e : Ending) (w' : World) : Prop := ∃ r, e = .returned (.bool r) ∧ (r = false → ∀ g ∈ gs, Small9G g.ds) ∧ Below w.heap.size w w'
def Out9Rel (w : World) (gs : List Lg) (i n : Value) (wr : World) : Prop := ∃ p nn : Nat, p ≤ gs.length ∧ i = .int .i64 p ∧ n = .int .i64 nn ∧ nn ≤ 5000 ∧ Hid (nn < 600 → ∀ g ∈ gs.take p, Small9G g.ds) ∧ Hid (Below w.heap.size w wr)
def Mid9Rel (w : World) (gs : List Lg) (p : Nat) (ds : List Ld) (i n : Value) (wr : World) : Prop := ∃ q nn : Nat, q ≤ ds.length ∧ i = .int .i64 q ∧ n = .int .i64 nn ∧ nn ≤ 5000 ∧ Hid (nn < 600 → q ≤ nn ∧ (∀ g ∈ gs.take p, Small9G g.ds) ∧ ∀ d ∈ ds.take q, Small9D d) ∧ Hid (Below w.heap.size w wr)
def In9Rel (w wq : World) (gs : List Lg) (p : Nat) (ds : List Ld) (q : Nat) (ls : List Ln) (i n : Value) (wr : World) : Prop := ∃ m nn : Nat, m ≤ ls.length ∧ i = .int .i64 m ∧ n = .int .i64 nn ∧ nn ≤ 5000 ∧ Hid (nn < 600 → q + 1 ≤ nn ∧ (∀ g ∈ gs.take p, Small9G g.ds) ∧ (∀ d ∈ ds.take q, Small9D d) ∧ ls.length ≤ 600 ∧ ∀ l ∈ ls.take m, l.nd.kids.length ≤ 600) ∧ Hid (Below wq.heap.size wq wr)

set_option maxRecDepth 100000 in
set_option maxHeartbeats 12800000 in
theorem large9_any (gs : List Lg) (G : Option Addr) (gc : Nat) (S : Nat → Prop) (w : World) (hG : grL.row w S G gs) (hl : gs.length ≤ 1000) :
    Calls Tryz.prog 8 #[.slice G gs.length gc] w (Large9Post gs w) := by
  have HG := Lib.hid hG; clear hG
  go_enter Tryz.func8, Tryz.ntmps8
  go_wp2_with fail
  go_loopw [4, 3] (fun i n wr => Out9Rel w gs i n wr) (fun i _ _ => gs.length - (intOf i).toNat)
  case atStart => exact ⟨0, 0, Nat.zero_le _, rfl, rfl, by omega, Lib.hid (by simp), Lib.hid (Below.refl _ _)⟩
  case round =>
    obtain ⟨p, nn, hp, rfl, rfl, hn, HS, HB⟩ := hrel
    by_cases hp1 : p < gs.length
    · obtain ⟨wo, rfl⟩ : ∃ wo : World, wo = wr := ⟨_, rfl⟩
      have i1 : (p : Int) < (gs.length : Int) := by omega
      have i2 : (0 : Int) ≤ (p : Int) := by omega
      have HGR := Lib.hid (show ∀ wq, Below w.heap.size w wq → ∃ b o, G = some ⟨b, o, none⟩ ∧ S b ∧ b < wq.heap.size ∧ wq.cell? ⟨b, o + p, none⟩ = some (.slice gs[p].A gs[p].ds.length gs[p].c) from fun wq hb => grRow (HG.out.below hb) p hp1)
      have HIN := Lib.hid (HG.out.sub p hp1)
      have HTK := Lib.hid (show gs.take (p + 1) = gs.take p ++ [gs[p]] from List.take_succ_eq_append_getElem hp1)
      obtain ⟨gb, go, hgb, _, _, _⟩ := HGR.out _ HB.out
      subst hgb
      generalize gs[p] = g at *
      obtain ⟨A, c, ds⟩ := g
      simp only at HGR HIN
      have HGC := Lib.hid (show ∀ wq, Below w.heap.size w wq → wq.cell? ⟨gb, go + p, none⟩ = some (.slice A ds.length c) from fun wq hb => by
        obtain ⟨b, o, e, _, _, h⟩ := HGR.out wq hb
        cases e; exact h)
      clear HGR
      have hdl : ds.length ≤ 281474976710656 := HIN.out.1
      go_wp2_with fail
      go_loopw [5, 3] (fun i n wr => Mid9Rel w gs p ds i n wr) (fun i _ _ => ds.length - (intOf i).toNat)
      case atStart => exact ⟨0, nn, Nat.zero_le _, rfl, rfl, hn, Lib.hid (fun h => ⟨Nat.zero_le _, HS.out h, by simp⟩), HB⟩
      case round =>
        clear HS HB hn
        obtain ⟨q, nn, hq, rfl, rfl, hn, HS, HB⟩ := hrel
        have x0 := HGC.out wr HB.out
        by_cases hgo : q < ds.length ∧ nn < 600
        · obtain ⟨hq1, hn1⟩ := hgo
          have i3 : (q : Int) < (ds.length : Int) := by omega
          have i4 : (0 : Int) ≤ (q : Int) := by omega
          have i5 : (nn : Int) < 600 := by omega
          obtain ⟨b, o, rfl, _, _, y0, y1, y2⟩ := dfRow (HIN.out.2.below HB.out) q hq1
          obtain ⟨wq, rfl⟩ : ∃ wq : World, wq = wr := ⟨_, rfl⟩
          have HSD := Lib.hid (dfSub HIN.out.2 q hq1)
          have HTD := Lib.hid (show ds.take (q + 1) = ds.take q ++ [ds[q]] from List.take_succ_eq_append_getElem hq1)
          have hnz := (HIN.out.2.sub q hq1).1
          generalize ds[q] = dd at *
          have z1 := cellLt x0
          have z2 := cellLt y0
          go_wp2_with fail
          have hw1 : IntKind.i64.wrap ((nn : Int) + 1) = (nn : Int) + 1 := IntWalk.i64_in _ (by omega)
          have hw2 : IntKind.i64.wrap ((nn : Int) + 1 + min 600 (dd.t.ls.length : Int)) = (nn : Int) + 1 + min 600 (dd.t.ls.length : Int) := IntWalk.i64_in _ (by omega)
          go_quiet (fail)
          clear hw1 hw2
          have HWN := Lib.hid (drewN_below' (bx1 wq (.cells #[.slice dd.t.A dd.t.ls.length dd.t.c, .int .i64 dd.t.root] 48)) nq)
          have HBX := Lib.hid (show ((wq.alloc (.cells #[.slice dd.t.A dd.t.ls.length dd.t.c, .int .i64 dd.t.root] 48)).drewN nq).heap[wq.heap.size]? = some (.cells #[.slice dd.t.A dd.t.ls.length dd.t.c, .int .i64 dd.t.root] 48 (0, 0)) from bx_new wq _)
          generalize (wq.alloc (.cells #[.slice dd.t.A dd.t.ls.length dd.t.c, .int .i64 dd.t.root] 48)).drewN nq = Wn at *
          have HBn := Lib.hid (show Below w.heap.size w Wn from Below.step HB.out HWN.out)
          have HSN := Lib.hid (show ndL.row Wn S dd.t.A dd.t.ls from HSD.out.2.below HBn.out)
          obtain ⟨n1, hn1'⟩ : ∃ n1 : Nat, (n1 : Int) = (nn : Int) + 1 + min 600 (dd.t.ls.length : Int) + min 600 ((dd.name.size : Int) / 20) := ⟨nn + 1 + min 600 dd.t.ls.length + min 600 (dd.name.size / 20), by omega⟩
          have hb1 : n1 ≤ 5000 := by omega
          rw [← hn1']
          have HFR := Lib.hid (show n1 < 600 → q + 1 ≤ n1 ∧ (∀ g ∈ gs.take p, Small9G g.ds) ∧ (∀ d ∈ ds.take q, Small9D d) ∧ dd.t.ls.length ≤ 600 from fun h => by
            have := HS.out hn1
            exact ⟨by omega, this.2.1, this.2.2, by omega⟩)
          clear hn1' HS
          go_wp2_with fail
          go_loopw [7, 3] (fun i n wr => In9Rel w Wn gs p ds q dd.t.ls i n wr) (fun i _ _ => dd.t.ls.length - (intOf i).toNat)
          case atStart => exact ⟨0, n1, Nat.zero_le _, rfl, rfl, hb1, Lib.hid (fun h => by have := HFR.out h; exact ⟨this.1, this.2.1, this.2.2.1, this.2.2.2, by simp⟩), Lib.hid (Below.refl _ _)⟩
          case round =>
            clear HFR hb1
            obtain ⟨m, n2, hm, rfl, rfl, hn2, HS2, HB2⟩ := hrel
            obtain ⟨r1, r2, _, _⟩ := blk2 (bx_kept HB2.out HBX.out)
            by_cases hgo2 : m < dd.t.ls.length ∧ n2 < 600
            · obtain ⟨hm1, hn3⟩ := hgo2
              have hll : dd.t.ls.length ≤ 281474976710656 := HSD.out.1
              have j1 : (m : Int) < (dd.t.ls.length : Int) := by omega
              have j2 : (0 : Int) ≤ (m : Int) := by omega
              have j3 : (n2 : Int) < 600 := by omega
              obtain ⟨nb, no, hnb, _, _, v0, v1, v2, v3, v4, v5, v6, v7, v8⟩ := ndRow (HSN.out.below HB2.out) m hm1
              have hts := (HSN.out.sub m hm1).1.2.1
              have hkl := (HSN.out.sub m hm1).1.2.2.1
              have HTN := Lib.hid (show dd.t.ls.take (m + 1) = dd.t.ls.take m ++ [dd.t.ls[m]] from List.take_succ_eq_append_getElem hm1)
              generalize dd.t.ls[m] = nd at *
              rw [hnb] at r1
              have hw1 : IntKind.i64.wrap ((n2 : Int) + min 600 (nd.nd.kids.length : Int)) = (n2 : Int) + min 600 (nd.nd.kids.length : Int) := IntWalk.i64_in _ (by omega)
              obtain ⟨n3, hn3'⟩ : ∃ n3 : Nat, (n3 : Int) = (n2 : Int) + min 600 (nd.nd.kids.length : Int) + min 600 ((nd.nd.text.size : Int) / 20) := ⟨n2 + min 600 nd.nd.kids.length + min 600 (nd.nd.text.size / 20), by omega⟩
              have hb3 : n3 ≤ 5000 := by omega
              have HFX := Lib.hid (show n3 < 600 → n2 < 600 ∧ n2 ≤ n3 ∧ nd.nd.kids.length ≤ 600 from fun h => by omega)
              have HN3 := Lib.hid hn3'
              clear hn3'
              as_aux_lemma =>
                go_wp2_with fail
                go_quiet (fail)
                clear hw1
                rw [← HN3.out]
                go_wp2_with fail
                refine ⟨⟨m + 1, n3, by omega, by go_num, rfl, hb3, Lib.hid (fun h => ?_), Lib.hid (HB2.out.trans (drewN_below' (Below.refl _ _) _))⟩, by simp only [intOf]; omega⟩
                have h3 := HFX.out h
                have h2 := HS2.out h3.1
                refine ⟨by omega, h2.2.1, h2.2.2.1, h2.2.2.2.1, fun l hl => ?_⟩
                rw [HTN.out] at hl
                rcases List.mem_append.1 hl with hl | hl
                · exact h2.2.2.2.2 l hl
                · simp only [List.mem_singleton] at hl; subst hl; exact h3.2.2
            · have HNX := Lib.hid (show n2 < 600 → q + 1 ≤ n2 ∧ (∀ g ∈ gs.take p, Small9G g.ds) ∧ ∀ d ∈ ds.take (q + 1), Small9D d from fun h => by
                have h2 := HS2.out h
                refine ⟨by omega, h2.2.1, fun d hd => ?_⟩
                rw [HTD.out] at hd
                rcases List.mem_append.1 hd with hd | hd
                · exact h2.2.2.1 d hd
                · simp only [List.mem_singleton] at hd; subst hd
                  have hmm : m = d.t.ls.length := by omega
                  exact ⟨h2.2.2.2.1, fun l hl => h2.2.2.2.2 l (by rw [hmm, List.take_length]; exact hl)⟩)
              by_cases hm1 : m < dd.t.ls.length
              · have j1 : (m : Int) < (dd.t.ls.length : Int) := by omega
                have j3 : ¬ (n2 : Int) < 600 := by omega
                as_aux_lemma =>
                  go_wp2_with fail
                  exact ⟨⟨q + 1, n2, by omega, by go_num, rfl, hn2, HNX, Lib.hid (Below.step HBn.out HB2.out)⟩, by simp only [intOf]; omega⟩
              · have j1 : ¬ (m : Int) < (dd.t.ls.length : Int) := by omega
                as_aux_lemma =>
                  go_wp2_with fail
                  exact ⟨⟨q + 1, n2, by omega, by go_num, rfl, hn2, HNX, Lib.hid (Below.step HBn.out HB2.out)⟩, by simp only [intOf]; omega⟩
        · have HNX := Lib.hid (show nn < 600 → ∀ g ∈ gs.take (p + 1), Small9G g.ds from fun h => by
            have h2 := HS.out h
            intro g hg
            rw [HTK.out] at hg
            rcases List.mem_append.1 hg with hg | hg
            · exact h2.2.1 g hg
            · simp only [List.mem_singleton] at hg; subst hg
              have hqq : q = ds.length := by omega
              exact ⟨by show ds.length ≤ 600; omega, fun d hd => h2.2.2 d (by rw [hqq, List.take_length]; exact hd)⟩)
          have z1 := cellLt x0
          by_cases hq1 : q < ds.length
          · have j1 : (q : Int) < (ds.length : Int) := by omega
            have j3 : ¬ (nn : Int) < 600 := by omega
            as_aux_lemma =>
              go_wp2_with fail
              exact ⟨⟨p + 1, nn, by omega, by go_num, rfl, hn, HNX, HB⟩, by simp only [intOf]; omega⟩
          · have j1 : ¬ (q : Int) < (ds.length : Int) := by omega
            as_aux_lemma =>
              go_wp2_with fail
              exact ⟨⟨p + 1, nn, by omega, by go_num, rfl, hn, HNX, HB⟩, by simp only [intOf]; omega⟩
    · obtain rfl : p = gs.length := by omega
      have HE := Lib.hid (show nn < 600 → ∀ g ∈ gs, Small9G g.ds from fun h g hg => HS.out h g (by rw [List.take_length]; exact hg))
      by_cases h5 : nn < 600
      · have j3 : ¬ (600 : Int) ≤ (nn : Int) := by omega
        go_wp2_with fail
        go_ret
        exact ⟨false, by first | rfl | (simp; omega), fun _ => HE.out h5, HB.out⟩
      · have j3 : (600 : Int) ≤ (nn : Int) := by omega
        go_wp2_with fail
        go_ret
        exact ⟨true, by first | rfl | (simp; omega), (fun h => by cases h), HB.out⟩
end Go.Proofs.YtmjkgnknfgoadaaGreatDoor
