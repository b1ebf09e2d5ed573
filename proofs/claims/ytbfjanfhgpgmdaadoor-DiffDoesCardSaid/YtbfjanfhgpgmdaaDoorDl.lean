/- The contract of tree.behind. -/
import Derived.Test.YtbfjanfhgpgmdaaDoorDj
import Derived.Test.YtbfjanfhgpgmdaaDoorDk
import Derived.Deep.RegionHeld3
namespace Go.Proofs.YtbfjanfhgpgmdaaDoor
open Go.RowKit
set_option linter.unusedSimpArgs false
set_option linter.unusedVariables false

def natsV (l : List Nat) : List Value := l.map fun k : Nat => Value.int .i64 (k : Int)
theorem natsV_length (l : List Nat) : (natsV l).length = l.length := by simp [natsV]
theorem natsV_one (l : List Nat) : ∀ u ∈ natsV l, u.oneCell' = true := fun u hu => by
  obtain ⟨k, _, rfl⟩ := List.mem_map.1 hu; rfl
theorem natsV_append (l m : List Nat) : natsV (l ++ m) = natsV l ++ natsV m := by simp [natsV]
theorem natsV_ints (l : List Nat) : natsV l = (l.map fun k : Nat => (k : Int)).map (Value.int .i64) := by simp [natsV]
theorem kids_nats (l : List Nd) (i : Nat) (hi : i < l.length) (h : ∀ k ∈ l[i].kids, 0 ≤ k) : intL.all l[i].kids = natsV (kidsAt l i) := by
  rw [intL_all]
  simp only [natsV, kidsAt, List.getElem?_eq_getElem hi, Option.map_some, Option.getD_some, List.map_map]
  refine List.map_congr_left fun k hk => ?_
  have := h k hk
  simp only [Function.comp_apply]
  rw [show ((k.toNat : Nat) : Int) = k by omega]
theorem ndBlk {w : World} {S : Nat → Prop} {b o : Nat} {l : List Ln} (h : ndL.row w S (some ⟨b, o, none⟩) l) (hl : 0 < l.length) : b < w.heap.size := by
  obtain ⟨b', o', e, _, hb, _⟩ := ndRow h 0 hl
  cases e; exact hb

theorem row_blk {w : World} {b : Nat} {cs : List Value} {T : TypeId} (h : w.heap[b]? = some (.cells cs.toArray T (0, 0))) : RowAt w (some ⟨b, 0, none⟩) cs := fun j u hu => by
  refine ⟨_, rfl, ?_⟩
  rw [Addr.add_lit]
  simp [World.cell?, h, hu]
/-- How many a slice holds. -/
def sliceLen : Value → Nat | .slice _ n _ => n | _ => 0
def BehindPost (l : List Nat) (w : World) (e : Ending) (w' : World) : Prop := ∃ g c, e = .returned (.slice (some ⟨g, 0, none⟩) l.length c) ∧ w'.ownsRow w.heap.size 3 1 (.slice (some ⟨g, 0, none⟩) l.length c) l.length (natsV l) ∧ Below w.heap.size w w'

set_option maxRecDepth 100000 in
set_option maxHeartbeats 3200000 in
theorem behind_any (A : Option Addr) (c : Nat) (ls : List Ln) (root : Int) (node : Nat) (S : Nat → Prop) (w : World) (hT : ndL.row w S A ls) (hl : ls.length ≤ 4294967296) (hr : rightP ⟨ls.map Ln.nd, root⟩) (hn : node < ls.length) :
    Calls Tryd.prog 86 #[.agg #[.slice A ls.length c, .int .i64 root], .int .i64 node] w (BehindPost (postN (ls.map Ln.nd) node) w) := by
  obtain ⟨i0, hi, hz0, hz1, hz2⟩ := info_parts infoInt
  have HT := Lib.hid hT; clear hT
  have HR := Lib.hid hr; clear hr
  have HPL := Lib.hid (show (postN (ls.map Ln.nd) node).length ≤ ls.length by have := post_length HR.out node (by simpa using hn); simpa using this)
  have HAH := Lib.hid (rightP_ahead HR.out)
  go_enter Tryd.func86, Tryd.ntmps86
  go_wp2_with fail
  go_loopw [5, 6] (fun v5 v6 wr => ∃ (o seen : List Nat) (V5 V6 : Option Addr) (c5 c6 m n : Nat), v5 = .slice V5 n c5 ∧ v6 = .slice V6 m c6 ∧ Hid (m = o.length) ∧ Hid (n = seen.length) ∧ Hid (wr.ownsRow (w.heap.size + 1) 3 1 (.slice V5 n c5) n (natsV seen)) ∧ Hid (wr.ownsRow (w.heap.size + 1) 3 1 (.slice V6 m c6) m (natsV o)) ∧ Hid (ApartB V5 V6) ∧ Hid (o.flatMap (postN (ls.map Ln.nd)) ++ seen.reverse = postN (ls.map Ln.nd) node) ∧ Hid (wr.heap[w.heap.size]? = some (.cells #[.slice A ls.length c, .int .i64 root] 34 (0, 0))) ∧ Hid (Below w.heap.size w wr))
    (fun v5 _ _ => ls.length - sliceLen v5)
  case atStart => exact ⟨[node], [], none, some ⟨w.heap.size + 1, 0, none⟩, 0, 1, 1, 0, rfl, rfl, Lib.hid rfl, Lib.hid rfl, Lib.hid (World.ownsRow_nil _ _ _ _), Lib.hid ⟨rfl, .inr ⟨w.heap.size + 1, 1, _, rfl, Nat.le_refl _, by have h := bx_new (w.alloc (.cells #[.slice A ls.length c, .int .i64 root] 34)) (.cells #[.int .i64 node] 3); simpa using h, by simp, by unfold maxLen; omega, rfl, rfl⟩⟩, Lib.hid (ApartB.none _), Lib.hid (by simp), Lib.hid (bx_old (bx_new w _)), Lib.hid (bx2 w _ _)⟩
  case round =>
    obtain ⟨o, seen, V5, V6, c5, c6, m, n, rfl, rfl, HM, HNN, HO5, HO6, HAP, HE, HK, HB⟩ := hrel
    have HWB := Lib.hid (walk_bound HE.out)
    rcases List.eq_nil_or_concat o with rfl | ⟨o', i, ho⟩
    · as_aux_lemma =>
        have HEE := Lib.hid (walk_end HE.out)
        obtain rfl : m = 0 := HM.out
        have hsl : 0 < n := by have := postN_ne (ls.map Ln.nd) node; have := HNN.out; rw [← HEE.out, List.length_reverse] at *; omega
        obtain ⟨g, hg, hg1, hg2⟩ := own_some HO5.out hsl
        subst hg
        have HRV := Lib.hid (reverse_own g c5 (w.heap.size + 1) (seen.map fun k : Nat => (k : Int)) wr 3 (by rw [List.length_map, ← natsV_ints, ← HNN.out]; exact HO5.out))
        simp only [List.length_map, ← HNN.out] at HRV
        go_wp2_with (go_at_call 85; refine (HRV.out).mono ?_; rintro e w2 ⟨rfl, hown2, hgrow2⟩; have HO7 := Lib.hid hown2; have HG7 := Lib.hid hgrow2; clear hown2 hgrow2)
        go_ret
        unfold BehindPost
        rw [← HEE.out, List.length_reverse, ← HNN.out]
        refine ⟨g, c5, rfl, ?_, ?_⟩
        · have := HO7.out
          rw [← List.map_reverse, ← natsV_ints] at this
          exact own_mono this (by omega)
        · exact HB.out.trans ((below_grownA HO5.out HG7.out (Nat.le_refl _) (by omega)).mono (by omega))
    · rw [List.concat_eq_append] at ho; subst ho
      have hil : i < ls.length := by have := (walk_mem HAH.out HE.out).1 i (by simp); omega
      obtain ⟨m', rfl⟩ : ∃ m', m = m' + 1 := ⟨o'.length, by rw [HM.out]; simp⟩
      have HM' := Lib.hid (show m' = o'.length by have := HM.out; simp at this; exact this)
      obtain ⟨g, hg, hg1, hg2⟩ := own_some HO6.out (by omega)
      subst hg
      have c0 := own_cell HO6.out m' (by omega) (u := .int .i64 (i : Int)) (by rw [HM'.out]; simp [natsV])
      obtain ⟨q1, q2, _, _⟩ := blk2 HK.out
      have hmb : m' + 1 + n ≤ ls.length := by have h1 := HWB.out; have h2 := HPL.out; have h3 := HM.out; have h4 := HNN.out; omega
      have HT' := Lib.hid (HT.out.agree (below_all HB.out))
      have HKR := Lib.hid (ndSub HT'.out i hil)
      have hkn : (kidsAt (ls.map Ln.nd) i).length = ls[i].nd.kids.length := by simp [kidsAt, List.getElem?_eq_getElem hil]
      have HKV := Lib.hid (show intL.all ls[i].nd.kids = natsV (kidsAt (ls.map Ln.nd) i) by
        have := kids_nats (ls.map Ln.nd) i (by simpa using hil) (fun k hk => (rightP_kid HR.out (i := i) (n := (ls.map Ln.nd)[i]'(by simpa using hil)) (List.getElem?_eq_getElem _) hk).1)
        simpa using this)
      have HE2 := Lib.hid (walk_step HAH.out HE.out)
      have hmk : m' + ls[i].nd.kids.length + (n + 1) ≤ ls.length := by
        have h1 := walk_bound HE2.out; have h2 := HPL.out; have h3 := HM'.out; have h4 := HNN.out
        simp only [List.length_append, hkn, List.length_singleton] at h1; omega
      have HKN := Lib.hid hkn; clear hkn
      obtain ⟨b, o, hA, _, _, x0, x1, x2, x3, x4, x5, x6, x7, x8⟩ := ndRow HT'.out i hil
      have hbl : b < w.heap.size := ndBlk (hA ▸ HT.out) (by omega)
      subst hA
      clear x0 x1 x2 x3 x4 x5 x6 x7
      have i1 : (i : Int) < (ls.length : Int) := by omega
      have i2 : (0 : Int) ≤ (i : Int) := by omega
      go_wp2_with fail
      clear c0
      have HSB := Lib.hid (show ∀ w', Below (w.heap.size + 1) wr w' → w'.cell? ⟨w.heap.size, 0, none⟩ = some (.slice (some ⟨b, o, none⟩) ls.length c) ∧ w'.cell? ⟨b, o + i * 9 + 8, none⟩ = some (.slice ls[i].A ls[i].nd.kids.length ls[i].c) from
        fun w' hb => ⟨(hb.cell (by show w.heap.size < _; omega)).trans q1, (hb.cell (by show b < _; omega)).trans x8⟩)
      clear q1 q2 x8
      have HCUT := Lib.hid (show wr.drew.ownsRow (w.heap.size + 1) 3 1 (.slice (some ⟨g, 0, none⟩) m' c6) m' (natsV o') by
        have := own_cut HO6.out (m := m') (by omega)
        rw [natsV_append, Nat.mul_one, List.take_left' (by rw [natsV_length]; exact HM'.out.symm)] at this
        exact this)
      have hcap := own_cap HO6.out
      have e3 : (m' : Int) ≤ (c6 : Int) := by omega
      have e4 : (0 : Int) ≤ (m' : Int) := by omega
      have f1 : m' + ls[i].nd.kids.length ≤ maxLen := by unfold maxLen; omega
      have f2 : (m' + ls[i].nd.kids.length) * 8 ≤ 140737488355328 := by omega
      have f3 : w.heap.size + 1 ≤ wr.drew.heap.size := by show _ ≤ wr.heap.size; omega
      have F := Lib.hid (And.intro f1 (And.intro f2 f3)); clear f1 f2 f3
      have e1 : IntKind.i64.wrap ((m' : Int) + 1 - 1) = (m' : Int) := by rw [IntWalk.i64_in _ (by omega)]; omega
      have e5 : IntKind.i64.wrap (m' : Int) = (m' : Int) := IntWalk.i64_in _ (by omega)
      go_region_held3 (fun w' => w'.cell? ⟨w.heap.size, 0, none⟩ = some (.slice (some ⟨b, o, none⟩) ls.length c) ∧ w'.cell? ⟨b, o + i * 9 + 8, none⟩ = some (.slice ls[i].A ls[i].nd.kids.length ls[i].c))
        (first | exact HSB.out _ (Below.refl _ _).drew | exact HSB.out _ HB2.out)
        ((refine step_append_at (by rfl) (.tmp 23) (.tmp 29) 55 (by rfl) (w.heap.size + 1) 3 i0 (.int .i64 0) 1 8 Tryd.underlying55 hi hz0 hz1 hz2 rfl (by decide) (some ⟨g, 0, none⟩) c6 m' (natsV o') (by rfl) HCUT.out ls[i].A ls[i].nd.kids.length ls[i].c (intL.all ls[i].nd.kids) (by rfl) (by rw [intL.all_length]; rfl) HKR.out.rowAt (intL.all_one' _) F.out.1 F.out.2.1 F.out.2.2 ?_
          intro V' vc' w2 HO2 HG2 HA2
          have HB2 := Lib.hid (show Below (w.heap.size + 1) wr w2 from (Below.refl _ wr).drew.trans (below_grownA HCUT.out HG2.out (Nat.le_refl _) F.out.2.2))))
      clear e1 e3 e4 e5
      have HO5b := Lib.hid (show (w2.alloc (.cells #[.int .i64 (i : Int)] 3)).ownsRow (w.heap.size + 1) 3 1 (.slice V5 n c5) n (natsV seen) from World.ownsRow.alloc (kept_apart (w := wr.drew) (show wr.drew.ownsRow _ _ _ _ _ _ from HO5.out) HG2.out HAP.out.symm) _)
      have HBS := Lib.hid HB2.out.size
      have F2 := Lib.hid (show n + 1 ≤ maxLen ∧ (n + 1) * 8 ≤ 140737488355328 ∧ w.heap.size + 1 ≤ (w2.alloc (.cells #[.int .i64 (i : Int)] 3)).heap.size from ⟨by unfold maxLen; omega, by omega, by have := HBS.out; simp; omega⟩)
      go_wp2_with (at_builtin; refine wpList_append_at _ rfl (.tmp 31) (.tmp 33) 55 rfl (w.heap.size + 1) 3 i0 (.int .i64 0) 1 8 Tryd.underlying55 hi hz0 hz1 hz2 rfl (by decide) V5 c5 n (natsV seen) rfl HO5b.out (some ⟨w2.heap.size, 0, none⟩) 1 1 (natsV [i]) rfl (by simp [natsV]) (row_blk (bx_new w2 _)) (natsV_one _) F2.out.1 F2.out.2.1 F2.out.2.2 ?_; intro V'' vc'' w3 HO3 HG3 HA3)
      have HA : Hid (ApartB V' V5) := Lib.hid (HAP.out.symm.grown (n := wr.drew.heap.size) (fun k hk => (own_blk HO5.out k hk).2) HA2.out)
      have HB3 := Lib.hid (show Below (w.heap.size + 1) wr w3 from (HB2.out.alloc (by have := HBS.out; omega) _).trans (below_grownA HO5b.out HG3.out (Nat.le_refl _) F2.out.2.2))
      refine ⟨⟨o' ++ kidsAt (ls.map Ln.nd) i, seen ++ [i], V'', V', vc'', vc', _, _, rfl, rfl, Lib.hid (by rw [List.length_append, HKN.out, HM'.out]), Lib.hid (by rw [List.length_append, HNN.out]; rfl), Lib.hid (by rw [natsV_append]; exact HO3.out), Lib.hid ?_, Lib.hid ?_, Lib.hid HE2.out, Lib.hid ((HB3.out.block _ (by omega)).trans HK.out), Lib.hid (HB.out.trans (HB3.out.mono (by omega)))⟩, by simp only [sliceLen]; omega⟩
      · rw [natsV_append, ← HKV.out]
        exact kept_apart (World.ownsRow.alloc HO2.out _) HG3.out HA.out.symm
      · exact HA.out.symm.grown (n := (w2.alloc (.cells #[.int .i64 (i : Int)] 3)).heap.size) (fun k hk => by have := (own_blk HO2.out k hk).2; simp; omega) HA3.out
end Go.Proofs.YtbfjanfhgpgmdaaDoor
