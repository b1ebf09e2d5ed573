/- The contracts of bonsairef08.Tree, Def, Grammar. -/
import Derived.Test.YtdcgbcdmkhleoaaDoorUi
import Derived.Test.YtdcgbcdmkhleoaaDoorRa
import Derived.Test.YtdcgbcdmkhleoaaDoorGo
import Derived.Test.YtdcgbcdmkhleoaaDoorNr
namespace Go.Proofs.YtdcgbcdmkhleoaaDoor
open Go.RowKit
set_option linter.unusedSimpArgs false
set_option linter.unusedVariables false

/-- What the reference asks of a tree's memory. -/
structure Mod8 (t : Lt) : Prop where
  len : t.ls.length ≤ 1000000
  kids : ∀ l ∈ t.ls, l.nd.kids.length ≤ 4294967296
  all : (kidsOf (t.ls.map Ln.nd)).length ≤ 4611686018427387904

set_option maxRecDepth 100000 in
set_option maxHeartbeats 3200000 in
theorem rtree_any (t : Lt) (S : Nat → Prop) (w : World) (hT : t.inn w S) (hm : Mod8 t) :
    Calls Tryd.prog 12 #[.agg #[.slice t.A t.ls.length t.c, .int .i64 t.root]] w (TextPost (treeB t.tr) w) := by
  have HB0 := Lib.hid (bx1 w (.cells #[.slice t.A t.ls.length t.c, .int .i64 t.root] 24))
  have HK0 := Lib.hid (bx_new w (.cells #[.slice t.A t.ls.length t.c, .int .i64 t.root] 24))
  have HR := Lib.hid (fun w' (hb : Below w.heap.size w w') => rright_any t.A t.c t.ls t.root S w' (hT.below hb).2 (by have := hm.len; omega) hm.kids hm.all)
  rw [show (⟨t.ls.map Ln.nd, t.root⟩ : Tr) = t.tr from rfl] at HR
  unfold TextPost
  cases hr : rightT t.tr
  · rw [hr] at HR
    have HE := Lib.hid (treeB_no hr)
    rw [HE.out]
    clear hm hT hr HE
    obtain ⟨p1, p2, _, _⟩ := blk2 HK0.out
    go_enter Tryd.func12, Tryd.ntmps12
    go_wp2_with (go_at_call 55; (with_reducible refine (HR.out _ HB0.out).mono ?_); rintro e w1 ⟨rfl, hb⟩; have HB1 := Lib.hid (Below.step HB0.out hb); clear hb)
    go_ret
    exact ⟨rfl, HB1.out⟩
  · rw [hr] at HR
    have hrp := (rightT_iff _).1 hr
    have HE := Lib.hid (show treeB t.tr = textN t.tr.nodes t.root.toNat from by unfold treeB; rw [if_pos hr]; rfl)
    have hro : 0 ≤ t.root ∧ t.root.toNat < t.ls.length := by
      have h := hrp.1
      have h2 : t.tr.nodes.length = t.ls.length := by simp [Lt.tr]
      have h3 : t.tr.root = t.root := rfl
      omega
    obtain ⟨rn, hrn⟩ := Int.eq_ofNat_of_zero_le hro.1
    have HTX := Lib.hid (show ∀ w', Below w.heap.size w w' → Calls Tryd.prog 56 #[.agg #[.slice t.A t.ls.length t.c, .int .i64 t.root], .int .i64 t.root] w' (TextPost (treeB t.tr) w') from fun w' hb => by
      have h := rtext_any t S hrp hm.len t.root.toNat w' hro.2 (hT.below hb)
      rw [HE.out]
      rwa [show ((t.root.toNat : Nat) : Int) = t.root by omega] at h)
    unfold TextPost at HTX
    clear hm hT hr hrp HE hro hrn
    generalize treeB t.tr = TB at *
    obtain ⟨p1, p2, _, _⟩ := blk2 HK0.out
    go_enter Tryd.func12, Tryd.ntmps12
    go_wp2_with (first
      | (go_at_call 55; (with_reducible refine (HR.out _ HB0.out).mono ?_); rintro e w1 ⟨rfl, hb⟩; have HB1 := Lib.hid (Below.step HB0.out hb); have HK1 := Lib.hid (bx_kept hb HK0.out); clear hb p1 p2; obtain ⟨p1, p2, _, _⟩ := blk2 HK1.out)
      | (go_at_call 56; (with_reducible refine (HTX.out _ HB1.out).mono ?_); rintro e w2 ⟨rfl, hb⟩; have HB2 := Lib.hid (Below.step HB1.out hb); clear hb)
      | fail)
    go_ret
    exact ⟨rfl, HB2.out⟩

set_option maxRecDepth 100000 in
set_option maxHeartbeats 3200000 in
theorem rdef_any (d : Ld) (S : Nat → Prop) (w : World) (hT : d.t.inn w S) (hm : Mod8 d.t) (hs : d.name.size ≤ 281474976710656) :
    Calls Tryd.prog 25 #[.agg #[.string d.name, .slice d.t.A d.t.ls.length d.t.c, .int .i64 d.t.root]] w (TextPost (defB d.df) w) := by
  obtain ⟨nm, t⟩ := d
  simp only at hT hm hs
  have HB0 := Lib.hid (bx1 w (.cells #[.string nm, .slice t.A t.ls.length t.c, .int .i64 t.root] 47))
  have HK0 := Lib.hid (bx_new w (.cells #[.string nm, .slice t.A t.ls.length t.c, .int .i64 t.root] 47))
  have HR := Lib.hid (fun w' (hb : Below w.heap.size w w') => rright_any t.A t.c t.ls t.root S w' (hT.below hb).2 (by have := hm.len; omega) hm.kids hm.all)
  rw [show (⟨t.ls.map Ln.nd, t.root⟩ : Tr) = t.tr from rfl] at HR
  have HTX := Lib.hid (show ∀ w', Below w.heap.size w w' → _ from fun w' hb => rtree_any t S w' (hT.below hb) hm)
  have HMY := Lib.hid (fun w => rmay_any nm w hs)
  have HD := defB_cases (Ld.df ⟨nm, t⟩)
  have hlen := treeB_len t.tr
  have hln : t.tr.nodes.length = t.ls.length := by simp [Lt.tr]
  have hml := hm.len
  simp only [Ld.df] at HD ⊢
  unfold TextPost at *
  obtain ⟨k0, k1, k2⟩ := blk3' HK0.out
  cases hn : mayL nm.data.toList
  · rw [hn] at HMY
    have HE := Lib.hid (show defB ⟨nm, t.tr⟩ = [] from by
      rcases HD with ⟨_, h⟩ | ⟨_, _, h⟩ | ⟨_, h, _⟩
      · exact h
      · exact h
      · rw [hn] at h; cases h)
    rw [HE.out]
    clear hm hT HD hlen hln hml HE hn HTX HR
    go_enter Tryd.func25, Tryd.ntmps25
    go_wp2_with (go_at_call 63; (with_reducible refine (HMY.out _).mono ?_); rintro e w1 ⟨rfl, rfl⟩)
    go_ret
    exact ⟨rfl, HB0.out⟩
  · rw [hn] at HMY
    cases hr : rightT t.tr
    · rw [hr] at HR
      have HE := Lib.hid (show defB ⟨nm, t.tr⟩ = [] from by
        rcases HD with ⟨_, h⟩ | ⟨_, _, h⟩ | ⟨h, _, _⟩
        · exact h
        · exact h
        · exact absurd (treeB_no hr) h)
      rw [HE.out]
      clear hm hT HD hlen hln hml HE hn HTX hr
      go_enter Tryd.func25, Tryd.ntmps25
      go_wp2_with (first
        | (go_at_call 63; (with_reducible refine (HMY.out _).mono ?_); rintro e w1 ⟨rfl, rfl⟩)
        | (go_at_call 55; (with_reducible refine (HR.out _ HB0.out).mono ?_); rintro e w2 ⟨rfl, hb⟩; have HB2 := Lib.hid (Below.step HB0.out hb); clear hb)
        | fail)
      go_ret
      exact ⟨rfl, HB2.out⟩
    · rw [hr] at HR
      have HE := Lib.hid (show (⟨(defB ⟨nm, t.tr⟩).toArray⟩ : ByteArray) = nm ++ ⟨#[32, 60, 45, 32]⟩ ++ ⟨(treeB t.tr).toArray⟩ ++ ⟨#[10]⟩ from by
        rcases HD with ⟨h, _⟩ | ⟨_, h, _⟩ | ⟨_, _, h⟩
        · exact absurd h (treeB_ne hr)
        · rw [hn] at h; cases h
        · rw [h]; exact ByteArray.ext (by simp))
      rw [HE.out]
      have hsz : (⟨(treeB t.tr).toArray⟩ : ByteArray).size ≤ 2400000000 := by show (treeB t.tr).length ≤ _; omega
      clear hm hT HD hlen hln hml HE hn hr
      generalize (⟨(treeB t.tr).toArray⟩ : ByteArray) = tb at *
      have c1 : ¬ 9223372036854775807 < nm.size + 4 := by omega
      have c2 : ¬ 9223372036854775807 < nm.size + 4 + tb.size := by omega
      have c3 : ¬ 9223372036854775807 < nm.size + 4 + tb.size + 1 := by omega
      go_enter Tryd.func25, Tryd.ntmps25
      go_wp2_with (first
        | (go_at_call 63; (with_reducible refine (HMY.out _).mono ?_); rintro e w1 ⟨rfl, rfl⟩)
        | (go_at_call 55; (with_reducible refine (HR.out _ HB0.out).mono ?_); rintro e w2 ⟨rfl, hb⟩; have HB2 := Lib.hid (Below.step HB0.out hb); have HK2 := Lib.hid (bx_kept hb HK0.out); clear hb k0 k1 k2)
        | fail)
      have HE := Lib.hid (Below.refl w2.heap.size w2)
      have HCL := Lib.hid (show ∀ w', Below w2.heap.size w2 w' → w'.cell? ⟨w.heap.size, 0, none⟩ = some (.string nm) ∧ w'.cell? ⟨w.heap.size, 1, none⟩ = some (.slice t.A t.ls.length t.c) ∧ w'.cell? ⟨w.heap.size, 2, none⟩ = some (.int .i64 t.root) from fun w' hb => blk3' (bx_kept hb HK2.out))
      go_cut [2] (fun v2 wx => v2 = .string (nm ++ ⟨#[32, 60, 45, 32]⟩ ++ tb ++ ⟨#[10]⟩) ∧ Hid (Below w2.heap.size w2 wx))
      case first =>
        go_region_held3 (fun w' => w'.cell? ⟨w.heap.size, 0, none⟩ = some (.string nm) ∧ w'.cell? ⟨w.heap.size, 1, none⟩ = some (.slice t.A t.ls.length t.c) ∧ w'.cell? ⟨w.heap.size, 2, none⟩ = some (.int .i64 t.root))
          (exact HCL.out _ (by first | exact HE.out | exact HE.out.drew))
          ((go_at_call 12; (with_reducible refine (HTX.out _ (Below.step HB2.out (by first | exact HE.out | exact HE.out.drew))).mono ?_); rintro e wx ⟨rfl, hb⟩; have HE' := Lib.hid (Below.step (by first | exact HE.out | exact HE.out.drew) hb); clear HE; have HE := HE'; clear HE' hb))
        all_goals go_wp2_with fail
        all_goals go_meet
        all_goals exact ⟨rfl, HE⟩
      case rest =>
        obtain ⟨rfl, HD⟩ := hcut
        go_wp2_with fail
        go_ret
        exact ⟨rfl, Below.step HB2.out HD.out⟩

set_option maxRecDepth 100000 in
set_option maxHeartbeats 3200000 in
theorem rgram_any (A : Option Addr) (c : Nat) (ds : List Ld) (S : Nat → Prop) (w : World) (hT : dfL.row w S A ds) (hl : ds.length ≤ 50000) (hm : ∀ d ∈ ds, Mod8 d.t) :
    Calls Tryd.prog 26 #[.agg #[.slice A ds.length c]] w (TextPost (gramT (ds.map Ld.df)) w) := by
  unfold TextPost
  have HT := Lib.hid hT; have HM := Lib.hid hm
  have HML := Lib.hid (show ∀ d ∈ ds.map Ld.df, d.body.nodes.length ≤ 1000000 from fun d hd => by
    obtain ⟨x, hx, rfl⟩ := List.mem_map.1 hd
    simpa [Ld.df, Lt.tr] using (hm x hx).len)
  clear hT hm
  go_enter Tryd.func26, Tryd.ntmps26
  have HB0 := Lib.hid (bx1 w (.cells #[.slice A ds.length c] 50))
  have HK0 := Lib.hid (bx_new w (.cells #[.slice A ds.length c] 50))
  go_wp2_with fail
  go_loopw [3, 4] (fun v3 i wr => ∃ (k : Nat) (s : ByteArray), k ≤ ds.length ∧ i = .int .i64 k ∧ v3 = .string s ∧ Hid (∀ d ∈ (ds.map Ld.df).take k, okD d) ∧ Hid (s = ⟨(((ds.map Ld.df).take k).flatMap defB).toArray⟩) ∧ Hid (wr.heap[w.heap.size]? = some (.cells #[.slice A ds.length c] 50 (0, 0))) ∧ Hid (Below w.heap.size w wr)) (fun _ i _ => ds.length - (intOf i).toNat)
  case atStart => exact ⟨0, ⟨#[]⟩, by omega, rfl, rfl, Lib.hid (by simp), Lib.hid (by simp), HK0, HB0⟩
  case round =>
    clear HK0 HB0
    obtain ⟨k, s, hk, rfl, rfl, HOK, HS, HK, HB⟩ := hrel
    obtain ⟨p1, p2⟩ := blk1 HK.out
    by_cases hlt : k < ds.length
    · obtain ⟨b, o, rfl, _, _, x0, x1, x2⟩ := dfRow (HT.out.agree (below_all HB.out)) k hlt
      have i1 : (k : Int) < (ds.length : Int) := by omega
      have i2 : (0 : Int) ≤ (k : Int) := by omega
      have hln : s.size ≤ 50000 * 2400000037 := by
        rw [HS.out]
        show (((ds.map Ld.df).take k).flatMap defB).length ≤ _
        refine Nat.le_trans (gram_len _ fun d hd => HML.out d (List.mem_of_mem_take hd)) ?_
        simp only [List.length_take, List.length_map]; exact Nat.mul_le_mul_right _ (by omega)
      have HMEM := Lib.hid (show ds[k].df ∈ ds.map Ld.df from List.mem_map_of_mem (List.getElem_mem hlt))
      have HTK := Lib.hid (show (ds.map Ld.df).take (k + 1) = (ds.map Ld.df).take k ++ [ds[k].df] from by
        rw [List.take_succ_eq_append_getElem (by simpa using hlt)]; simp)
      have hdl := defB_len ds[k].df
      have hdm : ds[k].df.body.nodes.length ≤ 1000000 := HML.out _ HMEM.out
      have HDI := Lib.hid (defB_iff ds[k].df)
      have HDA := Lib.hid (show ∀ w', Below w.heap.size w w' → _ from fun w' hb => rdef_any ds[k] S w' (dfSub (HT.out.agree (below_all hb)) k hlt) (HM.out _ (List.getElem_mem hlt)) (HT.out.sub k hlt).1)
      have hdb : (⟨(defB ds[k].df).toArray⟩ : ByteArray).size ≤ 2400000037 := by show (defB ds[k].df).length ≤ _; omega
      unfold TextPost at HDA
      have HNI := Lib.hid (show (⟨(defB ds[k].df).toArray⟩ : ByteArray) = ⟨#[]⟩ ↔ defB ds[k].df = [] from ⟨fun h => by have h2 := congrArg ByteArray.size h; exact List.eq_nil_of_length_eq_zero h2, fun h => by rw [h]⟩)
      have HNO := Lib.hid (fun h => gramT_no HMEM.out (fun k => (HDI.out.2 k) h))
      have HAP := Lib.hid (show s ++ ⟨(defB ds[k].df).toArray⟩ = ⟨(((ds.map Ld.df).take (k + 1)).flatMap defB).toArray⟩ from by
        rw [HS.out, HTK.out, List.flatMap_append]
        exact ByteArray.ext (by simp))
      generalize hdf : (⟨(defB ds[k].df).toArray⟩ : ByteArray) = db at *
      have HDF := Lib.hid hdf; clear hdf hdl hdm
      by_cases hz : db = ⟨#[]⟩
      · have HG := Lib.hid (HNO.out (HNI.out.1 hz))
        subst hz
        as_aux_lemma =>
          go_wp2_with (go_at_call 25; (with_reducible refine (HDA.out _ HB.out).mono ?_); rintro e w1 ⟨rfl, hb⟩; have HB1 := Lib.hid (Below.step HB.out hb); clear hb)
          go_ret
          exact ⟨by rw [HG.out]; rfl, HB1.out⟩
      · have hne : 0 < db.size := by
          rcases Nat.eq_zero_or_pos db.size with h | h
          · exact absurd (ByteArray.ext (Array.eq_empty_of_size_eq_zero h)) hz
          · exact h
        obtain ⟨e1, e2⟩ := bytes_ne db hne
        have HYES := Lib.hid (HDI.out.1 (fun h => hz (HNI.out.2 h)))
        have c1 : ¬ 9223372036854775807 < s.size + db.size := by omega
        clear hz hne
        as_aux_lemma =>
          go_wp2_with (go_at_call 25; (with_reducible refine (HDA.out _ HB.out).mono ?_); rintro e w1 ⟨rfl, hb⟩; have HB1 := Lib.hid (Below.step HB.out hb); have HK1 := Lib.hid (bx_kept hb HK.out); clear hb)
          refine ⟨⟨k + 1, _, by omega, by go_num, rfl, Lib.hid ?_, HAP, HK1, HB1⟩, by simp only [intOf]; omega⟩
          intro x hx
          rw [HTK.out] at hx
          rcases List.mem_append.1 hx with hx | hx
          · exact HOK.out x hx
          · simp only [List.mem_singleton] at hx; subst hx; exact HYES.out
    · have HE := Lib.hid (show (ds.map Ld.df).take k = ds.map Ld.df from List.take_of_length_le (by simp; omega))
      have HG := Lib.hid (show (⟨(gramT (ds.map Ld.df)).toArray⟩ : ByteArray) = s from by
        have h1 := HOK.out
        rw [HE.out] at h1
        rw [gramT_ok h1, HS.out, HE.out])
      as_aux_lemma =>
        go_wp2_with fail
        go_ret
        exact ⟨by rw [HG.out]; try rfl, HB.out⟩
end Go.Proofs.YtdcgbcdmkhleoaaDoor
