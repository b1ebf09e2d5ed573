/- The contract of bonsairef03's Unliteral. -/
import Derived.Test.YtidcoldoalimfaaMb
import Derived.Test.YtidcoldoalimfaaLi
import Derived.Test.YtidcoldoalimfaaLx
namespace Go.Proofs.Ytidcoldoalimfaa
open Go.RowKit
set_option linter.unusedSimpArgs false
set_option linter.unusedVariables false

theorem neB (b : UInt8) (k : Nat) (hk : k < 256) (h : b ≠ UInt8.ofNat k) : ((b.toNat : Int) != (k : Int)) = true := by
  rw [bne, eqB b k hk, decide_eq_false h]; rfl
theorem cells_snoc (l : List UInt8) (b : UInt8) : Lib.byteCells (l ++ [b]) = Lib.byteCells l ++ [.int .u8 (b.toNat : Int)] := by simp [Lib.byteCells]
theorem un_no {t : List UInt8} {p k : Nat} (hc : t[0]? = some 34) (h : (RN [34] 34 t 1).2 = (p, k)) (hk : k ≠ 0) : unlitR t = ([], p, k) := by
  rw [unlitR_of hc, h]
  simp only
  rw [if_pos hk]
theorem un_yes {t ob : List UInt8} {a : Nat} (hc : t[0]? = some 34) (h : RN [34] 34 t 1 = (ob, a, 0)) : unlitR t = if 255 < ob.length then ([], 0, 40) else (ob, a + 1, 0) := by
  rw [unlitR_of hc, h]
  simp only
  rw [if_neg (by simp)]
def ULRel (w : World) (t : ByteArray) (o i : Value) (wr : World) : Prop :=
  ∃ (a : Nat) (ob : List UInt8) (V : Option Addr) (c : Nat), a ≤ t.size ∧ 1 ≤ a ∧ o = .slice V ob.length c ∧ i = .int .i64 (a : Int) ∧ Hid (wr.ownsRow w.heap.size 5 1 (.slice V ob.length c) ob.length (Lib.byteCells ob)) ∧
    Hid (RN [34] 34 t.data.toList 1 = (ob ++ (RN [34] 34 t.data.toList a).1, (RN [34] 34 t.data.toList a).2)) ∧ Hid (ob.length + 1 ≤ a) ∧ Hid (Below w.heap.size w wr)
theorem UnlitPost.of {t : List UInt8} {w w' : World} {l : List UInt8} {p k : Nat} {e : Ending} {z y : Int} (h : unlitR t = (l, p, k)) (hz : z = (p : Int)) (hy : y = (k : Int)) (he : e = .returned (.tuple #[.string ⟨l.toArray⟩, .int .i64 z, .int .i64 y])) (hb : Below w.heap.size w w') : UnlitPost t w e w' := by
  subst hz hy
  unfold UnlitPost
  rw [h]
  exact ⟨he, hb⟩
set_option maxRecDepth 100000 in
set_option maxHeartbeats 2000000 in
theorem rulit_any (t : ByteArray) (w : World) (hs : t.size ≤ 1000000) : Calls Try.prog 21 #[.string t] w (UnlitPost t.data.toList w) := by
  have HZ := Lib.hid (sz_data t)
  by_cases h0 : t.size = 0
  · have HN := Lib.hid (show unlitR t.data.toList = ([], 0, 8) from by unfold unlitR; rw [List.getElem?_eq_none (by have := HZ.out; omega)])
    have he : t = ⟨#[]⟩ := by
      have : t.data.size = 0 := h0
      cases t; simp at this; subst this; rfl
    subst he
    go_enter Try.func21, Try.ntmps21
    go_wp2_with fail
    exact bodyPost_ret (v := .tuple #[.string ⟨#[]⟩, .int .i64 0, .int .i64 8]) (by simp [results, Try.results21, go_sem]) rfl (UnlitPost.of HN.out rfl rfl rfl (Below.refl _ _))
  have hpos : 0 < t.size := by omega
  have ⟨e1, e2⟩ := bytes_ne t hpos
  have HA := Lib.hid (Lib.data_getElem? t 0 hpos)
  by_cases hc : t[0] = 34
  · have i1 : ((t[0].toNat : Int) != 34) = false := by rw [hc]; rfl
    rw [hc] at HA
    go_enter Try.func21, Try.ntmps21
    go_wp2_with fail
    obtain ⟨j0, hj, hy0, hy1, hy2⟩ := info_parts infoByteQ
    clear i1
    go_loopw [5, 6] (fun o i wr => ULRel w t o i wr) (fun _ i _ => t.size - (intOf i).toNat)
    case atStart => exact ⟨1, [], none, 0, by omega, by omega, rfl, rfl, Lib.hid (World.ownsRow_nil _ _ _ _), Lib.hid rfl, Lib.hid (by simp), Lib.hid (Below.refl _ _)⟩
    case round =>
      obtain ⟨a, ob, V, c, ha, ha1, rfl, rfl, HO, HRN, HL, HB⟩ := hrel
      by_cases hlt : a < t.size
      · have k1 : (a : Int) < (t.size : Int) := by omega
        have k0 : (0 : Int) ≤ (a : Int) := by omega
        have HE := Lib.hid (Lib.data_getElem? t a hlt)
        obtain ⟨x, hx⟩ : ∃ x, t[a] = x := ⟨_, rfl⟩
        rw [hx] at HE
        by_cases hq : x = 34
        · subst hq
          have k2 : (((34 : UInt8).toNat : Int) != 34) = false := rfl
          have HF := Lib.hid (un_yes HA.out (show RN [34] 34 t.data.toList 1 = (ob, a, 0) from by rw [HRN.out, RN_end HE.out, List.append_nil]))
          by_cases hl : 255 < ob.length
          · have k3 : (255 : Int) < (ob.length : Int) := by omega
            have HG := Lib.hid (HF.out.trans (if_pos hl))
            go_wp2_with fail
            exact bodyPost_ret (v := .tuple #[.string ⟨#[]⟩, .int .i64 0, .int .i64 40]) (by simp [results, Try.results21, go_sem]) rfl (UnlitPost.of HG.out rfl rfl rfl HB.out)
          · have k3 : ¬ (255 : Int) < (ob.length : Int) := by omega
            have HG := Lib.hid (HF.out.trans (if_neg hl))
            have hcv := conv_row HO.out rfl
            go_wp2_with fail
            exact bodyPost_ret (v := .tuple #[.string ⟨ob.toArray⟩, .int .i64 ((a : Int) + 1), .int .i64 0]) (by simp [results, Try.results21, go_sem]) rfl (UnlitPost.of HG.out (by omega) rfl rfl HB.out)
        · have k2 : ((x.toNat : Int) != 34) = true := neB x 34 (by decide) hq
          have HSG := Lib.hid (fun w' => rsign_any t ⟨#[34, 92]⟩ [34] a w' (.inl rfl) rfl hs (by omega))
          cases hsg : signR [34] t.data.toList a with
          | no p k =>
            have HK := Lib.hid (show k ≠ 0 from by rcases signR_no hsg with h | h <;> omega)
            have k3 : ((k : Int) == 0) = false := by have := HK.out; simp; omega
            have HF := Lib.hid (un_no HA.out (show (RN [34] 34 t.data.toList 1).2 = (p, k) from by rw [HRN.out, RN_no ha (by rw [HE.out]; simpa using hq) hsg]) HK.out)
            rw [hsg] at HSG
            clear hsg
            go_wp2_with (first | (go_at_call 32; (with_reducible refine (HSG.out _).mono ?_); rintro e w' ⟨rfl, rfl⟩; simp only [sgRV]) | fail)
            exact bodyPost_ret (v := .tuple #[.string ⟨#[]⟩, .int .i64 (p : Int), .int .i64 (k : Int)]) (by simp [results, Try.results21, go_sem]) rfl (UnlitPost.of HF.out rfl rfl rfl HB.out)
          | ok b n =>
            have hn := signR_ok hsg
            have HF := Lib.hid (show RN [34] 34 t.data.toList 1 = ((ob ++ [b]) ++ (RN [34] 34 t.data.toList n).1, (RN [34] 34 t.data.toList n).2) from by rw [HRN.out, RN_ok (by rw [HE.out]; simpa using hq) hsg, List.append_assoc]; rfl)
            rw [hsg] at HSG
            clear hsg
            go_wp2_with (first | (go_at_call 32; (with_reducible refine (HSG.out _).mono ?_); rintro e w' ⟨rfl, rfl⟩; simp only [sgRV]) | (at_builtin; refine wpList_append_at _ rfl (.tmp 36) (.tmp 38) 37 rfl w.heap.size 5 j0 _ 1 1 Try.underlying37 hj hy0 hy1 hy2 rfl (by decide) V c ob.length (Lib.byteCells ob) rfl (World.ownsRow.alloc HO.out _) (some ⟨wr.heap.size, 0, none⟩) 1 1 [.int .u8 (b.toNat : Int)] rfl rfl (row_blk (cs := [.int .u8 (b.toNat : Int)]) (bx_new wr _)) (fun u hu => by simp only [List.mem_singleton] at hu; subst hu; rfl) (by unfold maxLen; have := HL.out; have := HZ.out; omega) (by have := HL.out; omega) (by have := HB.out.size; simp; omega) ?_; intro V' vc' w3 HO3 HG3 HA3) | fail)
            have hbk := fun x hx => (own_blk HO.out x hx).1
            have hz := HB.out.size
            have HO4 := Lib.hid (show w3.ownsRow w.heap.size 5 1 (.slice V' (ob ++ [b]).length vc') (ob ++ [b]).length (Lib.byteCells (ob ++ [b])) from by rw [cells_snoc, List.length_append]; exact HO3.out)
            have hL := HL.out
            have hZ := HZ.out
            refine ⟨⟨n, ob ++ [b], V', vc', by omega, by omega, by rw [List.length_append]; rfl, rfl, HO4, HF, Lib.hid ?_, Lib.hid ((Below.step HB.out (bx1 wr _)).grown HG3.out (by simp; omega) (fun x hx => hbk x hx))⟩, ?_⟩
            · rw [List.length_append, List.length_singleton]; omega
            · simp only [intOf]; omega
      · obtain rfl : a = t.size := by omega
        have hne : t.data.toList[t.size]? = none := List.getElem?_eq_none (by have := HZ.out; omega)
        have HF := Lib.hid (un_no HA.out (show (RN [34] 34 t.data.toList 1).2 = (t.size, 8) from by rw [HRN.out, RN_no (by have := HZ.out; omega) (by rw [hne]; simp) (sg_none hne)]; simp [HZ.out]) (by decide))
        clear hne
        go_wp2_with fail
        exact bodyPost_ret (v := .tuple #[.string ⟨#[]⟩, .int .i64 (t.size : Int), .int .i64 8]) (by simp [results, Try.results21, go_sem]) rfl (UnlitPost.of HF.out rfl rfl rfl HB.out)
  · have i1 : ((t[0].toNat : Int) != 34) = true := neB t[0] 34 (by decide) hc
    have HN := Lib.hid (show unlitR t.data.toList = ([], 0, 4) from by unfold unlitR; rw [HA.out]; simp only; rw [if_pos hc])
    go_enter Try.func21, Try.ntmps21
    go_wp2_with fail
    exact bodyPost_ret (v := .tuple #[.string ⟨#[]⟩, .int .i64 0, .int .i64 4]) (by simp [results, Try.results21, go_sem]) rfl (UnlitPost.of HN.out rfl rfl rfl (Below.refl _ _))
end Go.Proofs.Ytidcoldoalimfaa
