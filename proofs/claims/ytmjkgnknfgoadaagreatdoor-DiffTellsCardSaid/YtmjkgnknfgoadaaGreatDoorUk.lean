/- The contract of bonsairef08.text. -/
import Derived.Test.YtmjkgnknfgoadaaGreatDoorUh
import Derived.Test.YtmjkgnknfgoadaaGreatDoorRz
import Derived.Test.YtmjkgnknfgoadaaGreatDoorIq
import Derived.BigQuiet
import Derived.Deep.RegionHeld3
import Derived.Deep.DeepCutAuto
import Derived.Deep.Cut
import Derived.Deep.CutRange
import Derived.Test.YtmjkgnknfgoadaaGreatDoorRa
import Derived.Test.YtmjkgnknfgoadaaGreatDoorGo
import Derived.Test.YtmjkgnknfgoadaaGreatDoorNr
namespace Go.Proofs.YtmjkgnknfgoadaaGreatDoor
open Go.RowKit
set_option linter.unusedSimpArgs false
set_option linter.unusedVariables false
theorem text_len {t : Tr} (h : rightP t) (i : Nat) (hi : i < t.nodes.length) : (textN t.nodes i).length + 3 ≤ 2400 * t.nodes.length := by
  have h1 := rest_len (rightP_ahead h) 2400 (fun i => by
      obtain ⟨k, hk⟩ := ndAt_fit h i
      have := ahead_len hk; have := behind_len (ndAt t.nodes i); omega) i false
  have h2 := post_length h i hi
  have h3 := Nat.mul_le_mul_left 2400 h2
  show (restN t.nodes i 0 false).length + 3 ≤ _
  omega
theorem join_len (sep : List UInt8) (L : List (List UInt8)) (j : Nat) : (joinB sep (L.take j)).length ≤ (joinB sep L).length := by
  by_cases h : j < L.length
  · obtain ⟨r, hr⟩ := joinB_rest sep L j h
    rw [hr]; simp only [List.length_append]; omega
  · rw [List.take_of_length_le (by omega)]; exact Nat.le_refl _
theorem text_kids {l : List Nd} (h : Ahead l) (i : Nat) : textN l i = aheadB (ndAt l i) ++ joinB (betweenB (ndAt l i)) (kidTexts l i) ++ behindB (ndAt l i) := text_eq h i
def txA (s : List UInt8) : ByteArray := ⟨s.toArray⟩
def kidTx (l : List Nd) (i k : Nat) : List ByteArray := ((kidTexts l i).take k).map txA
theorem kidTexts_len (l : List Nd) (i : Nat) : (kidTexts l i).length = (kidsAt l i).length := by simp [kidTexts]
theorem kidTx_next (l : List Nd) (i k : Nat) (h : k < (kidsAt l i).length) : kidTx l i (k + 1) = kidTx l i k ++ [txA (wrapB (wrapsK (ndAt l i).kind (ndAt l (kidsAt l i)[k]).kind) (textN l (kidsAt l i)[k]))] := by
  unfold kidTx
  rw [List.take_succ_eq_append_getElem (by rw [kidTexts_len]; exact h), List.map_append]
  simp [kidTexts]
theorem nd_at {l : List Nd} {i : Nat} (h : i < l.length) : ndAt l i = l[i] := by unfold ndAt; rw [List.getElem?_eq_getElem h]; rfl
theorem kids_at {l : List Nd} {i : Nat} (h : i < l.length) : kidsAt l i = l[i].kids.map Int.toNat := by rw [kidsAt_nd, nd_at h]
def RTextRel (w : World) (TV NV : Obj) (l : List Nd) (i m : Nat) (v6 v7 : Value) (wr : World) : Prop :=
  ∃ (k : Nat) (V : Option Addr) (vc : Nat), k ≤ m ∧ v7 = .int .i64 k ∧ v6 = .slice V k vc ∧ Hid (wr.ownsRow (w.heap.size + 2) 9 1 (.slice V k vc) k (textsV (kidTx l i k))) ∧
    Hid (wr.heap[w.heap.size]? = some TV) ∧ Hid (wr.heap[w.heap.size + 1]? = some NV) ∧ Hid (Below w.heap.size w wr) ∧ Hid (w.heap.size + 2 ≤ wr.heap.size)
theorem kid_one {K : List (List UInt8)} (h : ((K.length : Nat) : Int) = 1) : ∃ a, K = [a] := by
  match K, h with
  | [a], _ => exact ⟨a, rfl⟩
  | [], h => simp at h
  | _ :: _ :: _, h => simp only [List.length_cons] at h; omega
theorem kid_none {K : List (List UInt8)} (h : ((K.length : Nat) : Int) = 0) : K = [] := List.eq_nil_of_length_eq_zero (by omega)
theorem tx0 {n : Nd} {K : List (List UInt8)} (h : fitN n K.length = true) (hk : n.kind = 0) : aheadB n ++ joinB (betweenB n) K ++ behindB n = [34, 34] := by
  unfold fitN at h
  simp only [hk, if_true, Bool.and_eq_true, noText, decide_eq_true_eq] at h
  rw [kid_none h.2]
  simp [aheadB, behindB, betweenB, hk, joinB, text_none h.1.1.2, litB]
theorem tx1 {n : Nd} {K : List (List UInt8)} (h : fitN n K.length = true) (hk : n.kind = 1) : aheadB n ++ joinB (betweenB n) K ++ behindB n = classB n := by
  unfold fitN at h
  simp [hk] at h
  rw [h.2]
  simp [aheadB, behindB, betweenB, hk, joinB]
theorem tx2 {n : Nd} {K : List (List UInt8)} (h : fitN n K.length = true) (hk : n.kind = 2) : aheadB n ++ joinB (betweenB n) K ++ behindB n = litB n.text.data.toList ∧ n.text.size ≤ 255 := by
  unfold fitN at h
  simp [hk] at h
  rw [h.1.2]
  simp [aheadB, behindB, betweenB, hk, joinB]
  omega
theorem tx3 {n : Nd} {K : List (List UInt8)} (h : fitN n K.length = true) (hk : n.kind = 3) : aheadB n ++ joinB (betweenB n) K ++ behindB n = n.text.data.toList := by
  unfold fitN at h
  simp [hk] at h
  rw [h.1.2]
  simp [aheadB, behindB, betweenB, hk, joinB]
theorem tx7 {n : Nd} {K : List (List UInt8)} (h : fitN n K.length = true) (hk : n.kind = 7) : ∃ a, K = [a] ∧ aheadB n ++ joinB (betweenB n) K ++ behindB n = [38] ++ a := by
  unfold fitN at h
  simp [hk] at h
  obtain ⟨a, rfl⟩ := kid_one (K := K) (by omega)
  exact ⟨a, rfl, by simp [aheadB, behindB, betweenB, hk, joinB]⟩
theorem tx8 {n : Nd} {K : List (List UInt8)} (h : fitN n K.length = true) (hk : n.kind = 8) : ∃ a, K = [a] ∧ aheadB n ++ joinB (betweenB n) K ++ behindB n = [33] ++ a := by
  unfold fitN at h
  simp [hk] at h
  obtain ⟨a, rfl⟩ := kid_one (K := K) (by omega)
  exact ⟨a, rfl, by simp [aheadB, behindB, betweenB, hk, joinB]⟩
theorem tx6 {n : Nd} {K : List (List UInt8)} (h : fitN n K.length = true) (hk : n.kind = 6) : ∃ a, K = [a] ∧ aheadB n ++ joinB (betweenB n) K ++ behindB n = a ++ countB n.mn n.mx := by
  unfold fitN at h
  simp [hk] at h
  obtain ⟨a, rfl⟩ := kid_one (K := K) (by omega)
  exact ⟨a, rfl, by simp [aheadB, behindB, betweenB, hk, joinB]⟩
theorem tx9 {n : Nd} {K : List (List UInt8)} (h : fitN n K.length = true) (hk : n.kind = 9) : n.text.size ≤ 32 ∧ ∃ a, K = [a] ∧ aheadB n ++ joinB (betweenB n) K ++ behindB n = [60] ++ n.text.data.toList ++ [58, 32] ++ a ++ [62] := by
  have hm := fit_may h (.inr hk)
  unfold fitN at h
  simp [hk] at h
  obtain ⟨a, rfl⟩ := kid_one (K := K) (by omega)
  simp only [mayL, decide_eq_true_eq] at hm
  have := hm.2.1
  exact ⟨by rw [← sz_data]; exact this, a, rfl, by simp [aheadB, behindB, betweenB, hk, joinB]⟩
theorem tx4 {n : Nd} {K : List (List UInt8)} (h : fitN n K.length = true) (hk : n.kind = 4) : 2 ≤ K.length ∧ aheadB n ++ joinB (betweenB n) K ++ behindB n = joinB [32] K := by
  unfold fitN at h
  simp [hk] at h
  exact ⟨by omega, by simp [aheadB, behindB, betweenB, hk]⟩
theorem tx5 {n : Nd} {K : List (List UInt8)} (h : fitN n K.length = true) (hk : n.kind = 5) : 2 ≤ K.length ∧ aheadB n ++ joinB (betweenB n) K ++ behindB n = joinB [32, 47, 32] K := by
  unfold fitN at h
  simp [hk] at h
  exact ⟨by omega, by simp [aheadB, behindB, betweenB, hk]⟩
set_option maxRecDepth 100000 in
set_option maxHeartbeats 12800000 in
theorem rtext_any (t : Lt) (S : Nat → Prop) (hr : rightP t.tr) (hl : t.ls.length ≤ 1000000) : ∀ (i : Nat) (w : World), i < t.ls.length → t.inn w S →
    Calls Tryz.prog 153 #[.agg #[.slice t.A t.ls.length t.c, .int .i64 t.root], .int .i64 i] w (TextPost (textN t.tr.nodes i) w) := by
  obtain ⟨i0, hi0, hz0, hz1, hz2⟩ := info_parts infoText
  intro i
  induction i using Nat.strongRecOn with
  | _ i ih =>
  intro w hi hT
  have hlm : t.tr.nodes.length = t.ls.length := by simp [Lt.tr]
  have him : i < t.tr.nodes.length := by omega
  have hnd : t.tr.nodes[i] = t.ls[i].nd := by simp [Lt.tr]
  have HREC := Lib.hid (show ∀ k (hk : k < t.ls[i].nd.kids.length) w', Below w.heap.size w w' → Calls Tryz.prog 153 #[.agg #[.slice t.A t.ls.length t.c, .int .i64 t.root], .int .i64 t.ls[i].nd.kids[k]] w' (TextPost (textN t.tr.nodes t.ls[i].nd.kids[k].toNat) w') from fun k hk w' hb => by
    have h1 := rightP_kid hr (i := i) (n := t.ls[i].nd) (by rw [List.getElem?_eq_getElem him, hnd]) (List.getElem_mem hk)
    have h2 := ih t.ls[i].nd.kids[k].toNat (by omega) w' (by omega) (hT.below hb)
    rwa [show ((t.ls[i].nd.kids[k].toNat : Nat) : Int) = t.ls[i].nd.kids[k] by omega] at h2)
  have HKZ := Lib.hid (show ∀ k (hk : k < t.ls[i].nd.kids.length), ∃ m : Nat, t.ls[i].nd.kids[k] = (m : Int) ∧ m < t.ls.length from fun k hk => by
    have h1 := rightP_kid hr (i := i) (n := t.ls[i].nd) (by rw [List.getElem?_eq_getElem him, hnd]) (List.getElem_mem hk)
    exact ⟨t.ls[i].nd.kids[k].toNat, by omega, by omega⟩)
  have hKA : kidsAt t.tr.nodes i = t.ls[i].nd.kids.map Int.toNat := by rw [kids_at him, hnd]
  have hNA : ndAt t.tr.nodes i = t.ls[i].nd := by rw [nd_at him, hnd]
  have HFIT := Lib.hid (show fitN t.ls[i].nd t.ls[i].nd.kids.length = true from rightP_fit hr (by rw [List.getElem?_eq_getElem him, hnd]))
  have HKD := Lib.hid (show ∀ m (hm : m < t.ls.length), 0 ≤ t.ls[m].nd.kind ∧ t.ls[m].nd.kind ≤ 9 from fun m hm => by
    have h1 : fitN t.ls[m].nd t.ls[m].nd.kids.length = true := rightP_fit hr (i := m) (n := t.ls[m].nd) (by simp [Lt.tr, hm])
    have h2 := ((hT.2.sub m hm).1).1
    refine ⟨h2.1, ?_⟩
    rcases Int.lt_or_le 9 t.ls[m].nd.kind with h | h
    · rw [fitN_other _ _ (by omega)] at h1; cases h1
    · exact h)
  have HLEN := Lib.hid (show ∀ m, m < t.ls.length → (textN t.tr.nodes m).length + 3 ≤ 2400000000 from fun m hm => by
    have h1 := text_len hr m (by omega); rw [hlm] at h1; omega)
  have HTX := Lib.hid (text_kids (rightP_ahead hr) i)
  have HNX := Lib.hid (fun k h => kidTx_next t.tr.nodes i k h)
  have HJL := Lib.hid (show ∀ j, (joinB (betweenB (ndAt t.tr.nodes i)) ((kidTexts t.tr.nodes i).take j)).length ≤ 2400000000 from fun j => by
    have h1 := join_len (betweenB (ndAt t.tr.nodes i)) (kidTexts t.tr.nodes i) j
    have h2 := congrArg List.length HTX.out
    simp only [List.length_append] at h2
    have h3 := HLEN.out i hi
    omega)
  have HKN := Lib.hid (show ∀ m (hm : m < t.ls.length), ndAt t.tr.nodes m = t.ls[m].nd from fun m hm => by rw [nd_at (by omega)]; simp [Lt.tr])
  have HKL := Lib.hid (kidTexts_len t.tr.nodes i)
  have hkz : (kidsAt t.tr.nodes i).length = t.ls[i].nd.kids.length := by rw [hKA]; simp
  have HNXK := Lib.hid (show ∀ k (hk : k < t.ls[i].nd.kids.length) (m : Nat) (hm : m < t.ls.length), t.ls[i].nd.kids[k] = (m : Int) → kidTx t.tr.nodes i (k + 1) = kidTx t.tr.nodes i k ++ [txA (wrapB (wrapsK t.ls[i].nd.kind t.ls[m].nd.kind) (textN t.tr.nodes m))] from fun k hk m hm he => by
    have h1 := HNX.out k (by omega)
    have h2 : (kidsAt t.tr.nodes i)[k]'(by omega) = m := by
      simp only [hKA, List.getElem_map]; omega
    rw [h1, h2, hNA, HKN.out m hm])
  rw [hkz] at HKL
  rw [hNA] at HTX HJL
  have HW := Lib.hid (ndWf hT.2 i hi)
  have HKD2 := Lib.hid (HKD.out i hi)
  have HT := Lib.hid hT
  have hnl : t.ls[i].nd.kids.length ≤ 1000000 := by
    have h1 := right_kids_len hr (i := i) (n := t.ls[i].nd) (by rw [List.getElem?_eq_getElem him, hnd])
    omega
  clear ih hKA hNA hkz hnd him hlm HNX HKN hr
  unfold TextPost
  have HB0 := Lib.hid (bx1 w (.cells #[.slice t.A t.ls.length t.c, .int .i64 t.root] 48))
  have HK0 := Lib.hid (bx_new w (.cells #[.slice t.A t.ls.length t.c, .int .i64 t.root] 48))
  obtain ⟨b, o, hA, _, _, x0, x1, x2, x3, x4, x5, x6, x7, x8⟩ := ndRow (hT.below HB0.out).2 i hi
  have HKR := Lib.hid (ndSub hT.2 i hi)
  have i1 : (i : Int) < (t.ls.length : Int) := by omega
  have i2 : (0 : Int) ≤ (i : Int) := by omega
  have HNW := Lib.hid (bx2 w (.cells #[.slice t.A t.ls.length t.c, .int .i64 t.root] 48) (.cells #[.int .u8 t.ls[i].nd.kind, .int .u64 t.ls[i].nd.s0, .int .u64 t.ls[i].nd.s1, .int .u64 t.ls[i].nd.s2, .int .u64 t.ls[i].nd.s3, .string t.ls[i].nd.text, .int .i64 t.ls[i].nd.mn, .int .i64 t.ls[i].nd.mx, .slice t.ls[i].A t.ls[i].nd.kids.length t.ls[i].c] 71))
  have HKT := Lib.hid (bx_old (p := .cells #[.int .u8 t.ls[i].nd.kind, .int .u64 t.ls[i].nd.s0, .int .u64 t.ls[i].nd.s1, .int .u64 t.ls[i].nd.s2, .int .u64 t.ls[i].nd.s3, .string t.ls[i].nd.text, .int .i64 t.ls[i].nd.mn, .int .i64 t.ls[i].nd.mx, .slice t.ls[i].A t.ls[i].nd.kids.length t.ls[i].c] 71) HK0.out)
  have HKN := Lib.hid (show ((w.alloc (.cells #[.slice t.A t.ls.length t.c, .int .i64 t.root] 48)).alloc (.cells #[.int .u8 t.ls[i].nd.kind, .int .u64 t.ls[i].nd.s0, .int .u64 t.ls[i].nd.s1, .int .u64 t.ls[i].nd.s2, .int .u64 t.ls[i].nd.s3, .string t.ls[i].nd.text, .int .i64 t.ls[i].nd.mn, .int .i64 t.ls[i].nd.mx, .slice t.ls[i].A t.ls[i].nd.kids.length t.ls[i].c] 71)).heap[w.heap.size + 1]? = some (.cells #[.int .u8 t.ls[i].nd.kind, .int .u64 t.ls[i].nd.s0, .int .u64 t.ls[i].nd.s1, .int .u64 t.ls[i].nd.s2, .int .u64 t.ls[i].nd.s3, .string t.ls[i].nd.text, .int .i64 t.ls[i].nd.mn, .int .i64 t.ls[i].nd.mx, .slice t.ls[i].A t.ls[i].nd.kids.length t.ls[i].c] 71 (0, 0)) from by
    have h := bx_new (w.alloc (.cells #[.slice t.A t.ls.length t.c, .int .i64 t.root] 48)) (.cells #[.int .u8 t.ls[i].nd.kind, .int .u64 t.ls[i].nd.s0, .int .u64 t.ls[i].nd.s1, .int .u64 t.ls[i].nd.s2, .int .u64 t.ls[i].nd.s3, .string t.ls[i].nd.text, .int .i64 t.ls[i].nd.mn, .int .i64 t.ls[i].nd.mx, .slice t.ls[i].A t.ls[i].nd.kids.length t.ls[i].c] 71)
    rw [World.size_alloc] at h; exact h)
  have HKC := Lib.hid (show ∀ w', Below w.heap.size w w' → ∀ m (hm : m < t.ls.length), w'.cell? ⟨b, o + m * 9, none⟩ = some (.int .u8 t.ls[m].nd.kind) from fun w' hb m hm => by
    obtain ⟨b', o', hA', _, _, z0, _⟩ := ndRow (hT.below hb).2 m hm
    rw [hA] at hA'; cases hA'; exact z0)
  rw [hA] at HREC HKT HKN HNW HK0 HB0 x0 x1 x2 x3 x4 x5 x6 x7 x8
  rw [hA]
  generalize t.ls[i] = n at *
  go_enter Tryz.func153, Tryz.ntmps153
  go_wp2_with fail
  clear x0 x1 x2 x3 x4 x5 x6 x7 x8
  go_loopw [6, 7] (fun v6 v7 wr => RTextRel w (.cells #[.slice (some ⟨b, o, none⟩) t.ls.length t.c, .int .i64 t.root] 48 (0, 0)) (.cells #[.int .u8 n.nd.kind, .int .u64 n.nd.s0, .int .u64 n.nd.s1, .int .u64 n.nd.s2, .int .u64 n.nd.s3, .string n.nd.text, .int .i64 n.nd.mn, .int .i64 n.nd.mx, .slice n.A n.nd.kids.length n.c] 71 (0, 0)) t.tr.nodes i n.nd.kids.length v6 v7 wr) (fun _ v7 _ => n.nd.kids.length - (intOf v7).toNat)
  case atStart => exact ⟨0, none, 0, Nat.zero_le _, rfl, rfl, Lib.hid (World.ownsRow_nil _ _ _ _), HKT, HKN, HNW, Lib.hid (by simp)⟩
  case round =>
    clear HKT HKN HNW HK0 HB0
    obtain ⟨k, V, vc, hk, rfl, rfl, HO, HT0, HN0, HB, HZ⟩ := hrel
    obtain ⟨p1, p2, _, _⟩ := blk2 HT0.out
    obtain ⟨q0, q1, q2, q3, q4, q5, q6, q7, q8, _⟩ := blk9 HN0.out
    by_cases hlt : k < n.nd.kids.length
    · have j1 : (k : Int) < (n.nd.kids.length : Int) := by omega
      have j2 : (0 : Int) ≤ (k : Int) := by omega
      obtain ⟨kb, ko, hkA, _, _, y0⟩ := intRow (HKR.out.agree (below_all HB.out)) k hlt
      obtain ⟨m, hm, hml⟩ := HKZ.out k hlt
      have HRC := Lib.hid (HREC.out k hlt)
      have HNX := Lib.hid (HNXK.out k hlt m hml hm)
      have HLM := Lib.hid (HLEN.out m hml)
      have hkm := HKD.out m hml
      have HKY := Lib.hid (show ∀ w', Below wr.heap.size wr w' → w'.cell? ⟨kb, ko + k, none⟩ = some (.int .i64 m) from fun w' hb => (hb.cell (by exact cellLt y0)).trans (by rw [y0, hm]))
      rw [hm, Int.toNat_natCast] at HRC
      unfold TextPost at HRC
      rw [hm] at y0
      rw [hkA] at q8
      have HKA := Lib.hid hkA; clear hkA
      have HF := Lib.hid (show k + 1 ≤ maxLen ∧ (k + 1) * 16 ≤ 140737488355328 from ⟨by unfold maxLen; omega, by omega⟩)
      have HRW := Lib.hid (fun w => rwraps_any n.nd.kind t.ls[m].nd.kind (HKD2.out) hkm w)
      have HKM := Lib.hid (fun w' hb => HKC.out w' hb m hml)
      have hlm2 := HLM.out
      have m1 : (m : Int) < (t.ls.length : Int) := by omega
      have m2 : (0 : Int) ≤ (m : Int) := by omega
      generalize t.ls[m] = km at *
      generalize textN t.tr.nodes m = tx at *
      have HE := Lib.hid (Below.refl wr.heap.size wr)
      have HCL := Lib.hid (show ∀ w', Below wr.heap.size wr w' → w'.cell? ⟨w.heap.size, 0, none⟩ = some (.slice (some ⟨b, o, none⟩) t.ls.length t.c) ∧ w'.cell? ⟨w.heap.size, 1, none⟩ = some (.int .i64 t.root) ∧ w'.cell? ⟨w.heap.size + 1, 8, none⟩ = some (.slice (some ⟨kb, ko, none⟩) n.nd.kids.length n.c) ∧ w'.cell? ⟨kb, ko + k, none⟩ = some (.int .i64 m) from fun w' h => by
        obtain ⟨g1, g2, _, _⟩ := blk2 (bx_kept h HT0.out)
        obtain ⟨_, _, _, _, _, _, _, _, g8, _⟩ := blk9 (bx_kept h HN0.out)
        exact ⟨g1, g2, by rw [g8, HKA.out], HKY.out w' h⟩)
      cases hwp : wrapsK n.nd.kind km.nd.kind
      · rw [hwp] at HRW HNX
        have HTS := Lib.hid (show (⟨tx.toArray⟩ : ByteArray) = txA (wrapB false tx) from rfl)
        rw [← HTS.out] at HNX
        clear hwp HTS
        generalize (⟨tx.toArray⟩ : ByteArray) = sx at *
        go_wp2_with fail
        go_cut [8] (fun v8 wx => v8 = .string sx ∧ Hid (Below wr.heap.size wr wx))
        case first =>
          go_region_held3 (fun w' => w'.cell? ⟨w.heap.size, 0, none⟩ = some (.slice (some ⟨b, o, none⟩) t.ls.length t.c) ∧ w'.cell? ⟨w.heap.size, 1, none⟩ = some (.int .i64 t.root) ∧ w'.cell? ⟨w.heap.size + 1, 8, none⟩ = some (.slice (some ⟨kb, ko, none⟩) n.nd.kids.length n.c) ∧ w'.cell? ⟨kb, ko + k, none⟩ = some (.int .i64 m))
            (exact HCL.out _ (by first | exact HE.out | exact HE.out.drew))
            ((go_at_call 153; (with_reducible refine (HRC.out _ (Below.step HB.out (by first | exact HE.out | exact HE.out.drew))).mono ?_); rintro e wx ⟨rfl, hb⟩; have HE' := Lib.hid (Below.step (by first | exact HE.out | exact HE.out.drew) hb); clear HE; have HE := HE'; clear HE' hb))
          all_goals go_wp2_with fail
          all_goals go_meet
          all_goals exact ⟨rfl, HE⟩
        case rest =>
          obtain ⟨rfl, HD⟩ := hcut
          have HB5 := Lib.hid (Below.step HB.out HD.out); have HT5 := Lib.hid (bx_kept HD.out HT0.out); have HN5 := Lib.hid (bx_kept HD.out HN0.out)
          have HO5 := Lib.hid (own_belowA HO.out HD.out)
          have HZ5 := Lib.hid (Nat.le_trans HZ.out HD.out.size)
          obtain ⟨g1, g2, g3, g4⟩ := HCL.out _ HD.out
          have z0 := HKM.out _ HB5.out
          obtain ⟨y0', _⟩ := blk9 HN5.out
          clear p1 p2 q0 q1 q2 q3 q4 q5 q6 q7 q8 HB HT0 HN0 HO HZ HE HCL HKY HKM HRC HD y0
          as_aux_lemma =>
            go_wp2_with fail
            go_quiet ((go_at_call 166; refine Calls.quiet_of_same ((HRW.out _).mono (fun _ _ h => ⟨h.2, h.1.symm⟩))))
            go_wp2_with (at_builtin; refine wpList_append_at _ rfl (.tmp 47) (.tmp 49) 27 rfl (w.heap.size + 2) 9 i0 _ 1 16 Tryz.underlying27 hi0 hz0 hz1 hz2 rfl (by decide) V vc k (textsV (kidTx t.tr.nodes i k)) rfl (World.ownsRow.alloc HO5.out _) (some ⟨_, 0, none⟩) 1 1 [.string sx] rfl rfl (row_blk (bx_new _ _)) (fun u hu => by simp only [List.mem_singleton] at hu; subst hu; rfl) HF.out.1 HF.out.2 (by have := HZ5.out; simp; omega) ?_; intro V' vc' w7 HO7 HG7 HA7)
            have hz := HZ5.out
            have hbk := fun x hx => (own_blk HO5.out x hx).1
            refine ⟨⟨k + 1, V', vc', hlt, by go_num, rfl, Lib.hid ?_, Lib.hid ((HG7.out.block _ (by simp; omega) (fun e => by have := hbk _ e.symm; omega)).trans (bx_old HT5.out)), Lib.hid ((HG7.out.block _ (by simp; omega) (fun e => by have := hbk _ e.symm; omega)).trans (bx_old HN5.out)), Lib.hid (((drewN_belowU HB5.out _).alloc HB5.out.size _).grown HG7.out (by simp; omega) (fun x hx => by have := hbk x hx; omega)), Lib.hid (by have h := HG7.out.size; simp at h; omega)⟩, by simp only [intOf]; omega⟩
            rw [HNX.out]
            have e : ∀ x, textsV (kidTx t.tr.nodes i k ++ [x]) = textsV (kidTx t.tr.nodes i k) ++ [.string x] := fun x => by simp [textsV]
            rw [e]; exact HO7.out
      · rw [hwp] at HRW HNX
        have HTS := Lib.hid (show (⟨#[40]⟩ ++ (⟨tx.toArray⟩ : ByteArray) ++ ⟨#[41]⟩ : ByteArray) = txA (wrapB true tx) from ByteArray.ext (by simp [txA, wrapB]))
        have hsz : (⟨tx.toArray⟩ : ByteArray).size ≤ 2400000000 := by show tx.length ≤ _; omega
        rw [← HTS.out] at HNX
        clear hwp HTS
        generalize (⟨tx.toArray⟩ : ByteArray) = sx at *
        have c1 : ¬ 9223372036854775807 < 1 + sx.size := by omega
        have c2 : ¬ 9223372036854775807 < 1 + sx.size + 1 := by omega
        go_wp2_with fail
        go_cut [8] (fun v8 wx => v8 = .string sx ∧ Hid (Below wr.heap.size wr wx))
        case first =>
          go_region_held3 (fun w' => w'.cell? ⟨w.heap.size, 0, none⟩ = some (.slice (some ⟨b, o, none⟩) t.ls.length t.c) ∧ w'.cell? ⟨w.heap.size, 1, none⟩ = some (.int .i64 t.root) ∧ w'.cell? ⟨w.heap.size + 1, 8, none⟩ = some (.slice (some ⟨kb, ko, none⟩) n.nd.kids.length n.c) ∧ w'.cell? ⟨kb, ko + k, none⟩ = some (.int .i64 m))
            (exact HCL.out _ (by first | exact HE.out | exact HE.out.drew))
            ((go_at_call 153; (with_reducible refine (HRC.out _ (Below.step HB.out (by first | exact HE.out | exact HE.out.drew))).mono ?_); rintro e wx ⟨rfl, hb⟩; have HE' := Lib.hid (Below.step (by first | exact HE.out | exact HE.out.drew) hb); clear HE; have HE := HE'; clear HE' hb))
          all_goals go_wp2_with fail
          all_goals go_meet
          all_goals exact ⟨rfl, HE⟩
        case rest =>
          obtain ⟨rfl, HD⟩ := hcut
          have HB5 := Lib.hid (Below.step HB.out HD.out); have HT5 := Lib.hid (bx_kept HD.out HT0.out); have HN5 := Lib.hid (bx_kept HD.out HN0.out)
          have HO5 := Lib.hid (own_belowA HO.out HD.out)
          have HZ5 := Lib.hid (Nat.le_trans HZ.out HD.out.size)
          obtain ⟨g1, g2, g3, g4⟩ := HCL.out _ HD.out
          have z0 := HKM.out _ HB5.out
          obtain ⟨y0', _⟩ := blk9 HN5.out
          clear p1 p2 q0 q1 q2 q3 q4 q5 q6 q7 q8 HB HT0 HN0 HO HZ HE HCL HKY HKM HRC HD y0
          as_aux_lemma =>
            go_wp2_with fail
            go_quiet ((go_at_call 166; refine Calls.quiet_of_same ((HRW.out _).mono (fun _ _ h => ⟨h.2, h.1.symm⟩))))
            go_wp2_with (at_builtin; refine wpList_append_at _ rfl (.tmp 47) (.tmp 49) 27 rfl (w.heap.size + 2) 9 i0 _ 1 16 Tryz.underlying27 hi0 hz0 hz1 hz2 rfl (by decide) V vc k (textsV (kidTx t.tr.nodes i k)) rfl (World.ownsRow.alloc HO5.out _) (some ⟨_, 0, none⟩) 1 1 [.string (⟨#[40]⟩ ++ sx ++ ⟨#[41]⟩)] rfl rfl (row_blk (bx_new _ _)) (fun u hu => by simp only [List.mem_singleton] at hu; subst hu; rfl) HF.out.1 HF.out.2 (by have := HZ5.out; simp; omega) ?_; intro V' vc' w7 HO7 HG7 HA7)
            have hz := HZ5.out
            have hbk := fun x hx => (own_blk HO5.out x hx).1
            refine ⟨⟨k + 1, V', vc', hlt, by go_num, rfl, Lib.hid ?_, Lib.hid ((HG7.out.block _ (by simp; omega) (fun e => by have := hbk _ e.symm; omega)).trans (bx_old HT5.out)), Lib.hid ((HG7.out.block _ (by simp; omega) (fun e => by have := hbk _ e.symm; omega)).trans (bx_old HN5.out)), Lib.hid (((drewN_belowU HB5.out _).alloc HB5.out.size _).grown HG7.out (by simp; omega) (fun x hx => by have := hbk x hx; omega)), Lib.hid (by have h := HG7.out.size; simp at h; omega)⟩, by simp only [intOf]; omega⟩
            rw [HNX.out]
            have e : ∀ x, textsV (kidTx t.tr.nodes i k ++ [x]) = textsV (kidTx t.tr.nodes i k) ++ [.string x] := fun x => by simp [textsV]
            rw [e]; exact HO7.out
    · obtain rfl : k = n.nd.kids.length := by omega
      clear hlt hk HKZ HREC HKC HNXK HLEN HKR
      have hkd := HKD2.out
      have hwf := HW.out
      have hft := HFIT.out
      rw [← HKL.out] at hft
      have hkx : kidTx t.tr.nodes i n.nd.kids.length = (kidTexts t.tr.nodes i).map txA := by
        unfold kidTx; rw [List.take_of_length_le (by rw [HKL.out]; exact Nat.le_refl _)]
      rw [hkx] at HO
      have hkl := HKL.out
      clear HKD HKL hkx HFIT
      have HTX2 := Lib.hid (show (⟨(textN t.tr.nodes i).toArray⟩ : ByteArray) = ⟨(aheadB n.nd ++ joinB (betweenB n.nd) (kidTexts t.tr.nodes i) ++ behindB n.nd).toArray⟩ from by rw [HTX.out])
      clear HTX
      generalize kidTexts t.tr.nodes i = KT at *
      rw [← hkl] at HO
      have HLM := Lib.hid (show ∀ j (hj : j < KT.length), KT[j].length ≤ 2400000000 from fun j hj => by
        have h1 := HJL.out (j + 1)
        rw [joinB_next _ _ _ hj] at h1
        simp only [List.length_append] at h1
        omega)
      have hcase : n.nd.kind = 0 ∨ n.nd.kind = 1 ∨ n.nd.kind = 2 ∨ n.nd.kind = 3 ∨ n.nd.kind = 4 ∨ n.nd.kind = 5 ∨ n.nd.kind = 6 ∨ n.nd.kind = 7 ∨ n.nd.kind = 8 ∨ n.nd.kind = 9 := by omega
      have HKN := Lib.hid hkl; clear hkl hkd HKD2 p1 p2
      have HRO := Lib.hid (show ∀ a, KT = [a] → ∃ g, V = some ⟨g, 0, none⟩ ∧ ∀ w', Below wr.heap.size wr w' → w'.cell? ⟨g, 0, none⟩ = some (.string (txA a)) from fun a ha => by
        subst ha
        obtain ⟨g, hg, _, _⟩ := own_some HO.out (by simp)
        subst hg
        have hc := World.ownsRow.cellAt HO.out 0 (by simp)
        exact ⟨g, rfl, fun w' hb => (hb.cell (p := ⟨g, 0, none⟩) (own_lt HO.out).2).trans (hc.trans rfl)⟩)
      rcases hcase with h | h | h | h | h | h | h | h | h | h
      · have HTE := Lib.hid (tx0 hft h)
        rw [HTE.out] at HTX2; rw [h] at q0
        clear HTE hft HRO HJL HLM
        as_aux_lemma =>
          go_wp2_with fail
          go_ret
          exact ⟨by rw [HTX2.out]; try rfl, HB.out⟩
      · have HTE := Lib.hid (tx1 hft h)
        rw [HTE.out] at HTX2; rw [h] at q0
        obtain ⟨_, _, _, u0, u1, u2, u3⟩ := hwf
        obtain ⟨w0, e0⟩ := Int.eq_ofNat_of_zero_le u0.1
        obtain ⟨w1, e1⟩ := Int.eq_ofNat_of_zero_le u1.1
        obtain ⟨w2, e2⟩ := Int.eq_ofNat_of_zero_le u2.1
        obtain ⟨w3, e3⟩ := Int.eq_ofNat_of_zero_le u3.1
        have HCL := Lib.hid (fun w => rclass_any w0 w1 w2 w3 (by have := u0.2; unfold u64N; omega) (by have := u1.2; unfold u64N; omega) (by have := u2.2; unfold u64N; omega) (by have := u3.2; unfold u64N; omega) w)
        have HCB := Lib.hid (show classB n.nd = classF (hasW [w0, w1, w2, w3]) from by unfold classB wordsN; rw [e0, e1, e2, e3]; rfl)
        rw [e0] at q1; rw [e1] at q2; rw [e2] at q3; rw [e3] at q4
        rw [HCB.out] at HTX2
        clear HTE hft HRO HJL HLM e0 e1 e2 e3 HCB u0 u1 u2 u3
        generalize classF (hasW [w0, w1, w2, w3]) = CL at *
        unfold wordsV TextPost at HCL
        as_aux_lemma =>
          go_wp2_with (go_at_call 167; (with_reducible refine (HCL.out _).mono ?_); rintro e w5 ⟨rfl, hb5⟩; have HB5 := Lib.hid (Below.step HB.out hb5); clear hb5)
          go_ret
          exact ⟨by rw [HTX2.out]; try rfl, HB5.out⟩
      · obtain ⟨hte, hts⟩ := tx2 hft h
        rw [hte] at HTX2; rw [h] at q0
        have HLI := Lib.hid (fun w => rlit_any n.nd.text w (by omega))
        clear hte hft HRO HJL HLM
        as_aux_lemma =>
          go_wp2_with (go_at_call 168; (with_reducible refine (HLI.out _).mono ?_); rintro e w5 ⟨rfl, hb5⟩; have HB5 := Lib.hid (Below.step HB.out hb5); clear hb5)
          go_ret
          exact ⟨by rw [HTX2.out]; try rfl, HB5.out⟩
      · have HTE := Lib.hid (tx3 hft h)
        rw [HTE.out] at HTX2; rw [h] at q0
        clear HTE hft HRO HJL HLM
        as_aux_lemma =>
          go_wp2_with fail
          go_ret
          exact ⟨by rw [HTX2.out]; try rfl, HB.out⟩
      · obtain ⟨hk2, hte⟩ := tx4 hft h
        rw [hte] at HTX2
        have hbt : betweenB n.nd = [32] := by simp [betweenB, h]
        rw [hbt] at HJL
        rw [h] at q0
        obtain ⟨g, hg, _, _⟩ := own_some HO.out (by omega)
        subst hg
        have HCE := Lib.hid (show ∀ j (hj : j < KT.length), wr.cell? ⟨g, j, none⟩ = some (.string (txA KT[j])) from fun j hj => (World.ownsRow.cellAt HO.out j (by omega)).trans (by simp [textsV, hj]))
        have c0 := HCE.out 0 (by omega)
        have HS0 := Lib.hid (show txA KT[0] = ⟨(joinB [32] (KT.take 1)).toArray⟩ from by
          have h1 := joinB_next [32] KT 0 (by omega)
          rw [show 0 + 1 = 1 from rfl] at h1
          rw [h1]; simp [joinB, txA])
        have hs0 : (txA KT[0]).size ≤ 2400000000 := HLM.out 0 (by omega)
        have hkn := HKN.out
        have i0 : (0 : Int) < (n.nd.kids.length : Int) := by omega
        generalize txA KT[0] = s0 at *
        clear hft hte hbt HRO
        as_aux_lemma =>
          go_wp2_with fail
          go_loop [10, 11] (fun v10 v11 => ∃ (j : Nat) (s : ByteArray), 1 ≤ j ∧ j ≤ n.nd.kids.length ∧ v11 = .int .i64 j ∧ v10 = .string s ∧ s.size ≤ 2400000000 ∧ Hid (s = ⟨(joinB [32] (KT.take j)).toArray⟩)) (fun _ v11 => n.nd.kids.length - (intOf v11).toNat)
          case atStart => exact ⟨1, s0, Nat.le_refl _, by omega, rfl, rfl, hs0, HS0⟩
          case round =>
            clear c0 hs0 HS0 i0
            obtain ⟨j, s, hj1, hj2, rfl, rfl, hs, HS⟩ := hrel
            by_cases hjl : j < n.nd.kids.length
            · have hjk : j < KT.length := by omega
              have i0 : (j : Int) < (n.nd.kids.length : Int) := by omega
              have i1 : (0 : Int) ≤ (j : Int) := by omega
              have c0 := HCE.out j hjk
              have hsk : (txA KT[j]).size ≤ 2400000000 := HLM.out j hjk
              have HNX := Lib.hid (show s ++ ⟨#[32]⟩ ++ txA KT[j] = ⟨(joinB [32] (KT.take (j + 1))).toArray⟩ from by
                rw [HS.out, joinB_next [32] KT j hjk, if_pos (by omega)]
                exact ByteArray.ext (by simp [txA]))
              have hsn : (s ++ ⟨#[32]⟩ ++ txA KT[j]).size ≤ 2400000000 := by rw [HNX.out]; exact HJL.out (j + 1)
              generalize txA KT[j] = sj at *
              have c1 : ¬ 9223372036854775807 < s.size + 1 := by omega
              have c2 : ¬ 9223372036854775807 < s.size + 1 + sj.size := by omega
              clear hjk
              go_wp2_with fail
              exact ⟨⟨j + 1, _, by omega, hjl, by go_num, rfl, hsn, HNX⟩, by simp [intOf]; omega⟩
            · obtain rfl : j = n.nd.kids.length := by omega
              have HS2 := Lib.hid (show (⟨(textN t.tr.nodes i).toArray⟩ : ByteArray) = s from by
                rw [HTX2.out, HS.out, List.take_of_length_le (by omega)])
              go_wp2_with fail
              go_ret
              exact ⟨by rw [HS2.out]; try rfl, HB.out⟩
      · obtain ⟨hk2, hte⟩ := tx5 hft h
        rw [hte] at HTX2
        have hbt : betweenB n.nd = [32, 47, 32] := by simp [betweenB, h]
        rw [hbt] at HJL
        rw [h] at q0
        obtain ⟨g, hg, _, _⟩ := own_some HO.out (by omega)
        subst hg
        have HCE := Lib.hid (show ∀ j (hj : j < KT.length), wr.cell? ⟨g, j, none⟩ = some (.string (txA KT[j])) from fun j hj => (World.ownsRow.cellAt HO.out j (by omega)).trans (by simp [textsV, hj]))
        have c0 := HCE.out 0 (by omega)
        have HS0 := Lib.hid (show txA KT[0] = ⟨(joinB [32, 47, 32] (KT.take 1)).toArray⟩ from by
          have h1 := joinB_next [32, 47, 32] KT 0 (by omega)
          rw [show 0 + 1 = 1 from rfl] at h1
          rw [h1]; simp [joinB, txA])
        have hs0 : (txA KT[0]).size ≤ 2400000000 := HLM.out 0 (by omega)
        have hkn := HKN.out
        have i0 : (0 : Int) < (n.nd.kids.length : Int) := by omega
        generalize txA KT[0] = s0 at *
        clear hft hte hbt HRO
        as_aux_lemma =>
          go_wp2_with fail
          go_loop [10, 11] (fun v10 v11 => ∃ (j : Nat) (s : ByteArray), 1 ≤ j ∧ j ≤ n.nd.kids.length ∧ v11 = .int .i64 j ∧ v10 = .string s ∧ s.size ≤ 2400000000 ∧ Hid (s = ⟨(joinB [32, 47, 32] (KT.take j)).toArray⟩)) (fun _ v11 => n.nd.kids.length - (intOf v11).toNat)
          case atStart => exact ⟨1, s0, Nat.le_refl _, by omega, rfl, rfl, hs0, HS0⟩
          case round =>
            clear c0 hs0 HS0 i0
            obtain ⟨j, s, hj1, hj2, rfl, rfl, hs, HS⟩ := hrel
            by_cases hjl : j < n.nd.kids.length
            · have hjk : j < KT.length := by omega
              have i0 : (j : Int) < (n.nd.kids.length : Int) := by omega
              have i1 : (0 : Int) ≤ (j : Int) := by omega
              have c0 := HCE.out j hjk
              have hsk : (txA KT[j]).size ≤ 2400000000 := HLM.out j hjk
              have HNX := Lib.hid (show s ++ ⟨#[32, 47, 32]⟩ ++ txA KT[j] = ⟨(joinB [32, 47, 32] (KT.take (j + 1))).toArray⟩ from by
                rw [HS.out, joinB_next [32, 47, 32] KT j hjk, if_pos (by omega)]
                exact ByteArray.ext (by simp [txA]))
              have hsn : (s ++ ⟨#[32, 47, 32]⟩ ++ txA KT[j]).size ≤ 2400000000 := by rw [HNX.out]; exact HJL.out (j + 1)
              generalize txA KT[j] = sj at *
              have c1 : ¬ 9223372036854775807 < s.size + 3 := by omega
              have c2 : ¬ 9223372036854775807 < s.size + 3 + sj.size := by omega
              clear hjk
              go_wp2_with fail
              exact ⟨⟨j + 1, _, by omega, hjl, by go_num, rfl, hsn, HNX⟩, by simp [intOf]; omega⟩
            · obtain rfl : j = n.nd.kids.length := by omega
              have HS2 := Lib.hid (show (⟨(textN t.tr.nodes i).toArray⟩ : ByteArray) = s from by
                rw [HTX2.out, HS.out, List.take_of_length_le (by omega)])
              go_wp2_with fail
              go_ret
              exact ⟨by rw [HS2.out]; try rfl, HB.out⟩
      · obtain ⟨a, ha, hte⟩ := tx6 hft h
        rw [hte] at HTX2; rw [h] at q0
        obtain ⟨g, rfl, hg⟩ := HRO.out a ha
        subst ha
        have HG := Lib.hid hg
        have hal := HLM.out 0 (by simp)
        have HCT := Lib.hid (fun w => rcount_any n.nd.mn n.nd.mx w)
        have hcb := countB_len n.nd.mn n.nd.mx
        have HAP := Lib.hid (show (⟨(a ++ countB n.nd.mn n.nd.mx).toArray⟩ : ByteArray) = txA a ++ ⟨(countB n.nd.mn n.nd.mx).toArray⟩ from ByteArray.ext (by simp [txA]))
        rw [HAP.out] at HTX2
        have hsa : (txA a).size ≤ 2400000000 := hal
        have hsb : (⟨(countB n.nd.mn n.nd.mx).toArray⟩ : ByteArray).size ≤ 7 := hcb
        unfold TextPost at HCT
        have HCL := Lib.hid (show ∀ w', Below wr.heap.size wr w' → w'.cell? ⟨w.heap.size + 1, 6, none⟩ = some (.int .i64 n.nd.mn) ∧ w'.cell? ⟨w.heap.size + 1, 7, none⟩ = some (.int .i64 n.nd.mx) ∧ w'.cell? ⟨g, 0, none⟩ = some (.string (txA a)) from fun w' hb => by
          obtain ⟨_, _, _, _, _, _, g6, g7, _⟩ := blk9 (bx_kept hb HN0.out)
          exact ⟨g6, g7, HG.out w' hb⟩)
        clear hte hft HRO HJL HLM hg hal hcb HAP
        generalize (⟨(countB n.nd.mn n.nd.mx).toArray⟩ : ByteArray) = cb at *
        generalize txA a = ta at *
        have c1 : ¬ 9223372036854775807 < ta.size + cb.size := by omega
        have i0 : (0 : Int) < (n.nd.kids.length : Int) := by have := HKN.out; simp only [List.length_cons, List.length_nil] at this; omega
        have i0n : 0 < n.nd.kids.length := by omega
        have i0l : (0 : Int) ≤ (n.nd.kids.length : Int) := by omega
        have HE := Lib.hid (Below.refl wr.heap.size wr)
        as_aux_lemma =>
          go_wp2_with fail
          go_cut [4] (fun v4 wx => v4 = .string (ta ++ cb) ∧ Hid (Below wr.heap.size wr wx))
          case first =>
            go_region_held3 (fun w' => w'.cell? ⟨w.heap.size + 1, 6, none⟩ = some (.int .i64 n.nd.mn) ∧ w'.cell? ⟨w.heap.size + 1, 7, none⟩ = some (.int .i64 n.nd.mx) ∧ w'.cell? ⟨g, 0, none⟩ = some (.string ta))
              (exact HCL.out _ (by first | exact HE.out | exact HE.out.drew))
              ((go_at_call 169; (with_reducible refine (HCT.out _).mono ?_); rintro e wx ⟨rfl, hb⟩; have HE' := Lib.hid (Below.step (by first | exact HE.out | exact HE.out.drew) hb); clear HE; have HE := HE'; clear HE' hb))
            all_goals go_wp2_with fail
            all_goals go_meet
            all_goals exact ⟨rfl, HE⟩
          case rest =>
            obtain ⟨rfl, HD⟩ := hcut
            go_wp2_with fail
            go_ret
            exact ⟨by rw [HTX2.out]; try rfl, Below.step HB.out HD.out⟩
      · obtain ⟨a, ha, hte⟩ := tx7 hft h
        rw [hte] at HTX2; rw [h] at q0
        obtain ⟨g, rfl, hg⟩ := HRO.out a ha
        subst ha
        have c0 := hg wr (Below.refl _ _)
        have hal := HLM.out 0 (by simp)
        have HAP := Lib.hid (show (⟨([38] ++ a).toArray⟩ : ByteArray) = ⟨#[38]⟩ ++ txA a from ByteArray.ext (by simp [txA]))
        rw [HAP.out] at HTX2
        have hsa : (txA a).size ≤ 2400000000 := hal
        clear hte hft HRO HJL HLM hg hal HAP
        generalize txA a = ta at *
        have c1 : ¬ 9223372036854775807 < 1 + ta.size := by omega
        have i0 : (0 : Int) < (n.nd.kids.length : Int) := by have := HKN.out; simp only [List.length_cons, List.length_nil] at this; omega
        as_aux_lemma =>
          go_wp2_with fail
          go_ret
          exact ⟨by rw [HTX2.out]; try rfl, HB.out⟩
      · obtain ⟨a, ha, hte⟩ := tx8 hft h
        rw [hte] at HTX2; rw [h] at q0
        obtain ⟨g, rfl, hg⟩ := HRO.out a ha
        subst ha
        have c0 := hg wr (Below.refl _ _)
        have hal := HLM.out 0 (by simp)
        have HAP := Lib.hid (show (⟨([33] ++ a).toArray⟩ : ByteArray) = ⟨#[33]⟩ ++ txA a from ByteArray.ext (by simp [txA]))
        rw [HAP.out] at HTX2
        have hsa : (txA a).size ≤ 2400000000 := hal
        clear hte hft HRO HJL HLM hg hal HAP
        generalize txA a = ta at *
        have c1 : ¬ 9223372036854775807 < 1 + ta.size := by omega
        have i0 : (0 : Int) < (n.nd.kids.length : Int) := by have := HKN.out; simp only [List.length_cons, List.length_nil] at this; omega
        as_aux_lemma =>
          go_wp2_with fail
          go_ret
          exact ⟨by rw [HTX2.out]; try rfl, HB.out⟩
      · obtain ⟨hts, a, ha, hte⟩ := tx9 hft h
        rw [hte] at HTX2; rw [h] at q0
        obtain ⟨g, rfl, hg⟩ := HRO.out a ha
        subst ha
        have c0 := hg wr (Below.refl _ _)
        have hal := HLM.out 0 (by simp)
        have HAP := Lib.hid (show (⟨([60] ++ n.nd.text.data.toList ++ [58, 32] ++ a ++ [62]).toArray⟩ : ByteArray) = ⟨#[60]⟩ ++ n.nd.text ++ ⟨#[58, 32]⟩ ++ txA a ++ ⟨#[62]⟩ from ByteArray.ext (by simp [txA]))
        rw [HAP.out] at HTX2
        have hsa : (txA a).size ≤ 2400000000 := hal
        clear hte hft HRO HJL HLM hg hal HAP
        generalize txA a = ta at *
        have c1 : ¬ 9223372036854775807 < 1 + n.nd.text.size := by omega
        have c2 : ¬ 9223372036854775807 < 1 + n.nd.text.size + 2 := by omega
        have c3 : ¬ 9223372036854775807 < 1 + n.nd.text.size + 2 + ta.size := by omega
        have c4 : ¬ 9223372036854775807 < 1 + n.nd.text.size + 2 + ta.size + 1 := by omega
        have i0 : (0 : Int) < (n.nd.kids.length : Int) := by have := HKN.out; simp only [List.length_cons, List.length_nil] at this; omega
        as_aux_lemma =>
          go_wp2_with fail
          go_quiet (fail)
          go_wp2_with fail
          go_ret
          exact ⟨by rw [HTX2.out]; try rfl, drewN_belowU HB.out _⟩
end Go.Proofs.YtmjkgnknfgoadaaGreatDoor
/- The contracts of bonsairef08.Tree, Def, Grammar. -/
namespace Go.Proofs.YtmjkgnknfgoadaaGreatDoor
open Go.RowKit
set_option linter.unusedSimpArgs false
set_option linter.unusedVariables false
structure Mod8 (t : Lt) : Prop where
  len : t.ls.length ≤ 1000000
  kids : ∀ l ∈ t.ls, l.nd.kids.length ≤ 4294967296
  all : (kidsOf (t.ls.map Ln.nd)).length ≤ 4611686018427387904
set_option maxRecDepth 100000 in
set_option maxHeartbeats 3200000 in
theorem rtree_any (t : Lt) (S : Nat → Prop) (w : World) (hT : t.inn w S) (hm : Mod8 t) :
    Calls Tryz.prog 120 #[.agg #[.slice t.A t.ls.length t.c, .int .i64 t.root]] w (TextPost (treeB t.tr) w) := by
  have HB0 := Lib.hid (bx1 w (.cells #[.slice t.A t.ls.length t.c, .int .i64 t.root] 48))
  have HK0 := Lib.hid (bx_new w (.cells #[.slice t.A t.ls.length t.c, .int .i64 t.root] 48))
  have HR := Lib.hid (fun w' (hb : Below w.heap.size w w') => rright_any t.A t.c t.ls t.root S w' (hT.below hb).2 (by have := hm.len; omega) hm.kids hm.all)
  rw [show (⟨t.ls.map Ln.nd, t.root⟩ : Tr) = t.tr from rfl] at HR
  unfold TextPost
  cases hr : rightT t.tr
  · rw [hr] at HR
    have HE := Lib.hid (treeB_no hr)
    rw [HE.out]
    clear hm hT hr HE
    obtain ⟨p1, p2, _, _⟩ := blk2 HK0.out
    go_enter Tryz.func120, Tryz.ntmps120
    go_wp2_with (go_at_call 109; (with_reducible refine (HR.out _ HB0.out).mono ?_); rintro e w1 ⟨rfl, hb⟩; have HB1 := Lib.hid (Below.step HB0.out hb); clear hb)
    go_ret
    exact ⟨rfl, HB1.out⟩
  · rw [hr] at HR
    have hrp := (rightT_iff _).1 hr
    have HE := Lib.hid (show treeB t.tr = textN t.tr.nodes t.root.toNat from by unfold treeB; rw [if_pos hr]; rfl)
    have hro : 0 ≤ t.root ∧ t.root.toNat < t.ls.length := by
      have h := hrp.1
      have h2 : t.tr.nodes.length = t.ls.length := by simp [Lt.tr]
      have h3 : t.tr.root = t.root := rfl
      omega
    obtain ⟨rn, hrn⟩ := Int.eq_ofNat_of_zero_le hro.1
    have HTX := Lib.hid (show ∀ w', Below w.heap.size w w' → Calls Tryz.prog 153 #[.agg #[.slice t.A t.ls.length t.c, .int .i64 t.root], .int .i64 t.root] w' (TextPost (treeB t.tr) w') from fun w' hb => by
      have h := rtext_any t S hrp hm.len t.root.toNat w' hro.2 (hT.below hb)
      rw [HE.out]
      rwa [show ((t.root.toNat : Nat) : Int) = t.root by omega] at h)
    unfold TextPost at HTX
    clear hm hT hr hrp HE hro hrn
    generalize treeB t.tr = TB at *
    obtain ⟨p1, p2, _, _⟩ := blk2 HK0.out
    go_enter Tryz.func120, Tryz.ntmps120
    go_wp2_with (first
      | (go_at_call 109; (with_reducible refine (HR.out _ HB0.out).mono ?_); rintro e w1 ⟨rfl, hb⟩; have HB1 := Lib.hid (Below.step HB0.out hb); have HK1 := Lib.hid (bx_kept hb HK0.out); clear hb p1 p2; obtain ⟨p1, p2, _, _⟩ := blk2 HK1.out)
      | (go_at_call 153; (with_reducible refine (HTX.out _ HB1.out).mono ?_); rintro e w2 ⟨rfl, hb⟩; have HB2 := Lib.hid (Below.step HB1.out hb); clear hb)
      | fail)
    go_ret
    exact ⟨rfl, HB2.out⟩
set_option maxRecDepth 100000 in
set_option maxHeartbeats 3200000 in
theorem rdef_any (d : Ld) (S : Nat → Prop) (w : World) (hT : d.t.inn w S) (hm : Mod8 d.t) (hs : d.name.size ≤ 281474976710656) :
    Calls Tryz.prog 82 #[.agg #[.string d.name, .slice d.t.A d.t.ls.length d.t.c, .int .i64 d.t.root]] w (TextPost (defB d.df) w) := by
  obtain ⟨nm, t⟩ := d
  simp only at hT hm hs
  have HB0 := Lib.hid (bx1 w (.cells #[.string nm, .slice t.A t.ls.length t.c, .int .i64 t.root] 50))
  have HK0 := Lib.hid (bx_new w (.cells #[.string nm, .slice t.A t.ls.length t.c, .int .i64 t.root] 50))
  have HR := Lib.hid (fun w' (hb : Below w.heap.size w w') => rright_any t.A t.c t.ls t.root S w' (hT.below hb).2 (by have := hm.len; omega) hm.kids hm.all)
  rw [show (⟨t.ls.map Ln.nd, t.root⟩ : Tr) = t.tr from rfl] at HR
  have HTX := Lib.hid (show ∀ w', Below w.heap.size w w' → _ from fun w' hb => rtree_any t S w' (hT.below hb) hm)
  have HMY := Lib.hid (fun w => rmay_any nm w hs)
  have HD := defB_cases (Ld.df ⟨nm, t⟩)
  have hlen := treeB_len t.tr
  have hln : t.tr.nodes.length = t.ls.length := by simp [Lt.tr]
  have hml := hm.len
  simp only [Ld.df] at HD ⊢
  unfold TextPost at *
  obtain ⟨k0, k1, k2⟩ := blk3' HK0.out
  cases hn : mayL nm.data.toList
  · rw [hn] at HMY
    have HE := Lib.hid (show defB ⟨nm, t.tr⟩ = [] from by
      rcases HD with ⟨_, h⟩ | ⟨_, _, h⟩ | ⟨_, h, _⟩
      · exact h
      · exact h
      · rw [hn] at h; cases h)
    rw [HE.out]
    clear hm hT HD hlen hln hml HE hn HTX HR
    go_enter Tryz.func82, Tryz.ntmps82
    go_wp2_with (go_at_call 62; (with_reducible refine (HMY.out _).mono ?_); rintro e w1 ⟨rfl, rfl⟩)
    go_ret
    exact ⟨rfl, HB0.out⟩
  · rw [hn] at HMY
    cases hr : rightT t.tr
    · rw [hr] at HR
      have HE := Lib.hid (show defB ⟨nm, t.tr⟩ = [] from by
        rcases HD with ⟨_, h⟩ | ⟨_, _, h⟩ | ⟨h, _, _⟩
        · exact h
        · exact h
        · exact absurd (treeB_no hr) h)
      rw [HE.out]
      clear hm hT HD hlen hln hml HE hn HTX hr
      go_enter Tryz.func82, Tryz.ntmps82
      go_wp2_with (first
        | (go_at_call 62; (with_reducible refine (HMY.out _).mono ?_); rintro e w1 ⟨rfl, rfl⟩)
        | (go_at_call 109; (with_reducible refine (HR.out _ HB0.out).mono ?_); rintro e w2 ⟨rfl, hb⟩; have HB2 := Lib.hid (Below.step HB0.out hb); clear hb)
        | fail)
      go_ret
      exact ⟨rfl, HB2.out⟩
    · rw [hr] at HR
      have HE := Lib.hid (show (⟨(defB ⟨nm, t.tr⟩).toArray⟩ : ByteArray) = nm ++ ⟨#[32, 60, 45, 32]⟩ ++ ⟨(treeB t.tr).toArray⟩ ++ ⟨#[10]⟩ from by
        rcases HD with ⟨h, _⟩ | ⟨_, h, _⟩ | ⟨_, _, h⟩
        · exact absurd h (treeB_ne hr)
        · rw [hn] at h; cases h
        · rw [h]; exact ByteArray.ext (by simp))
      rw [HE.out]
      have hsz : (⟨(treeB t.tr).toArray⟩ : ByteArray).size ≤ 2400000000 := by show (treeB t.tr).length ≤ _; omega
      clear hm hT HD hlen hln hml HE hn hr
      generalize (⟨(treeB t.tr).toArray⟩ : ByteArray) = tb at *
      have c1 : ¬ 9223372036854775807 < nm.size + 4 := by omega
      have c2 : ¬ 9223372036854775807 < nm.size + 4 + tb.size := by omega
      have c3 : ¬ 9223372036854775807 < nm.size + 4 + tb.size + 1 := by omega
      go_enter Tryz.func82, Tryz.ntmps82
      go_wp2_with (first
        | (go_at_call 62; (with_reducible refine (HMY.out _).mono ?_); rintro e w1 ⟨rfl, rfl⟩)
        | (go_at_call 109; (with_reducible refine (HR.out _ HB0.out).mono ?_); rintro e w2 ⟨rfl, hb⟩; have HB2 := Lib.hid (Below.step HB0.out hb); have HK2 := Lib.hid (bx_kept hb HK0.out); clear hb k0 k1 k2)
        | fail)
      have HE := Lib.hid (Below.refl w2.heap.size w2)
      have HCL := Lib.hid (show ∀ w', Below w2.heap.size w2 w' → w'.cell? ⟨w.heap.size, 0, none⟩ = some (.string nm) ∧ w'.cell? ⟨w.heap.size, 1, none⟩ = some (.slice t.A t.ls.length t.c) ∧ w'.cell? ⟨w.heap.size, 2, none⟩ = some (.int .i64 t.root) from fun w' hb => blk3' (bx_kept hb HK2.out))
      go_cut [2] (fun v2 wx => v2 = .string (nm ++ ⟨#[32, 60, 45, 32]⟩ ++ tb ++ ⟨#[10]⟩) ∧ Hid (Below w2.heap.size w2 wx))
      case first =>
        go_region_held3 (fun w' => w'.cell? ⟨w.heap.size, 0, none⟩ = some (.string nm) ∧ w'.cell? ⟨w.heap.size, 1, none⟩ = some (.slice t.A t.ls.length t.c) ∧ w'.cell? ⟨w.heap.size, 2, none⟩ = some (.int .i64 t.root))
          (exact HCL.out _ (by first | exact HE.out | exact HE.out.drew))
          ((go_at_call 120; (with_reducible refine (HTX.out _ (Below.step HB2.out (by first | exact HE.out | exact HE.out.drew))).mono ?_); rintro e wx ⟨rfl, hb⟩; have HE' := Lib.hid (Below.step (by first | exact HE.out | exact HE.out.drew) hb); clear HE; have HE := HE'; clear HE' hb))
        all_goals go_wp2_with fail
        all_goals go_meet
        all_goals exact ⟨rfl, HE⟩
      case rest =>
        obtain ⟨rfl, HD⟩ := hcut
        go_wp2_with fail
        go_ret
        exact ⟨rfl, Below.step HB2.out HD.out⟩
set_option maxRecDepth 100000 in
set_option maxHeartbeats 3200000 in
theorem rgram_any (A : Option Addr) (c : Nat) (ds : List Ld) (S : Nat → Prop) (w : World) (hT : dfL.row w S A ds) (hl : ds.length ≤ 50000) (hm : ∀ d ∈ ds, Mod8 d.t) :
    Calls Tryz.prog 65 #[.agg #[.slice A ds.length c]] w (TextPost (gramT (ds.map Ld.df)) w) := by
  unfold TextPost
  have HT := Lib.hid hT; have HM := Lib.hid hm
  have HML := Lib.hid (show ∀ d ∈ ds.map Ld.df, d.body.nodes.length ≤ 1000000 from fun d hd => by
    obtain ⟨x, hx, rfl⟩ := List.mem_map.1 hd
    simpa [Ld.df, Lt.tr] using (hm x hx).len)
  clear hT hm
  go_enter Tryz.func65, Tryz.ntmps65
  have HB0 := Lib.hid (bx1 w (.cells #[.slice A ds.length c] 24))
  have HK0 := Lib.hid (bx_new w (.cells #[.slice A ds.length c] 24))
  go_wp2_with fail
  go_loopw [3, 4] (fun v3 i wr => ∃ (k : Nat) (s : ByteArray), k ≤ ds.length ∧ i = .int .i64 k ∧ v3 = .string s ∧ Hid (∀ d ∈ (ds.map Ld.df).take k, okD d) ∧ Hid (s = ⟨(((ds.map Ld.df).take k).flatMap defB).toArray⟩) ∧ Hid (wr.heap[w.heap.size]? = some (.cells #[.slice A ds.length c] 24 (0, 0))) ∧ Hid (Below w.heap.size w wr)) (fun _ i _ => ds.length - (intOf i).toNat)
  case atStart => exact ⟨0, ⟨#[]⟩, by omega, rfl, rfl, Lib.hid (by simp), Lib.hid (by simp), HK0, HB0⟩
  case round =>
    clear HK0 HB0
    obtain ⟨k, s, hk, rfl, rfl, HOK, HS, HK, HB⟩ := hrel
    obtain ⟨p1, p2⟩ := blk1 HK.out
    by_cases hlt : k < ds.length
    · obtain ⟨b, o, rfl, _, _, x0, x1, x2⟩ := dfRow (HT.out.agree (below_all HB.out)) k hlt
      have i1 : (k : Int) < (ds.length : Int) := by omega
      have i2 : (0 : Int) ≤ (k : Int) := by omega
      have hln : s.size ≤ 50000 * 2400000037 := by
        rw [HS.out]
        show (((ds.map Ld.df).take k).flatMap defB).length ≤ _
        refine Nat.le_trans (gram_len _ fun d hd => HML.out d (List.mem_of_mem_take hd)) ?_
        simp only [List.length_take, List.length_map]; exact Nat.mul_le_mul_right _ (by omega)
      have HMEM := Lib.hid (show ds[k].df ∈ ds.map Ld.df from List.mem_map_of_mem (List.getElem_mem hlt))
      have HTK := Lib.hid (show (ds.map Ld.df).take (k + 1) = (ds.map Ld.df).take k ++ [ds[k].df] from by
        rw [List.take_succ_eq_append_getElem (by simpa using hlt)]; simp)
      have hdl := defB_len ds[k].df
      have hdm : ds[k].df.body.nodes.length ≤ 1000000 := HML.out _ HMEM.out
      have HDI := Lib.hid (defB_iff ds[k].df)
      have HDA := Lib.hid (show ∀ w', Below w.heap.size w w' → _ from fun w' hb => rdef_any ds[k] S w' (dfSub (HT.out.agree (below_all hb)) k hlt) (HM.out _ (List.getElem_mem hlt)) (HT.out.sub k hlt).1)
      have hdb : (⟨(defB ds[k].df).toArray⟩ : ByteArray).size ≤ 2400000037 := by show (defB ds[k].df).length ≤ _; omega
      unfold TextPost at HDA
      have HNI := Lib.hid (show (⟨(defB ds[k].df).toArray⟩ : ByteArray) = ⟨#[]⟩ ↔ defB ds[k].df = [] from ⟨fun h => by have h2 := congrArg ByteArray.size h; exact List.eq_nil_of_length_eq_zero h2, fun h => by rw [h]⟩)
      have HNO := Lib.hid (fun h => gramT_no HMEM.out (fun k => (HDI.out.2 k) h))
      have HAP := Lib.hid (show s ++ ⟨(defB ds[k].df).toArray⟩ = ⟨(((ds.map Ld.df).take (k + 1)).flatMap defB).toArray⟩ from by
        rw [HS.out, HTK.out, List.flatMap_append]
        exact ByteArray.ext (by simp))
      generalize hdf : (⟨(defB ds[k].df).toArray⟩ : ByteArray) = db at *
      have HDF := Lib.hid hdf; clear hdf hdl hdm
      by_cases hz : db = ⟨#[]⟩
      · have HG := Lib.hid (HNO.out (HNI.out.1 hz))
        subst hz
        as_aux_lemma =>
          go_wp2_with (go_at_call 82; (with_reducible refine (HDA.out _ HB.out).mono ?_); rintro e w1 ⟨rfl, hb⟩; have HB1 := Lib.hid (Below.step HB.out hb); clear hb)
          go_ret
          exact ⟨by rw [HG.out]; rfl, HB1.out⟩
      · have hne : 0 < db.size := by
          rcases Nat.eq_zero_or_pos db.size with h | h
          · exact absurd (ByteArray.ext (Array.eq_empty_of_size_eq_zero h)) hz
          · exact h
        obtain ⟨e1, e2⟩ := bytes_ne db hne
        have HYES := Lib.hid (HDI.out.1 (fun h => hz (HNI.out.2 h)))
        have c1 : ¬ 9223372036854775807 < s.size + db.size := by omega
        clear hz hne
        as_aux_lemma =>
          go_wp2_with (go_at_call 82; (with_reducible refine (HDA.out _ HB.out).mono ?_); rintro e w1 ⟨rfl, hb⟩; have HB1 := Lib.hid (Below.step HB.out hb); have HK1 := Lib.hid (bx_kept hb HK.out); clear hb)
          refine ⟨⟨k + 1, _, by omega, by go_num, rfl, Lib.hid ?_, HAP, HK1, HB1⟩, by simp only [intOf]; omega⟩
          intro x hx
          rw [HTK.out] at hx
          rcases List.mem_append.1 hx with hx | hx
          · exact HOK.out x hx
          · simp only [List.mem_singleton] at hx; subst hx; exact HYES.out
    · have HE := Lib.hid (show (ds.map Ld.df).take k = ds.map Ld.df from List.take_of_length_le (by simp; omega))
      have HG := Lib.hid (show (⟨(gramT (ds.map Ld.df)).toArray⟩ : ByteArray) = s from by
        have h1 := HOK.out
        rw [HE.out] at h1
        rw [gramT_ok h1, HS.out, HE.out])
      as_aux_lemma =>
        go_wp2_with fail
        go_ret
        exact ⟨by rw [HG.out]; try rfl, HB.out⟩
end Go.Proofs.YtmjkgnknfgoadaaGreatDoor
