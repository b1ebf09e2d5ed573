/- The contracts of gram.Find and gram.Names. -/
import Derived.Test.YtdcgbcdmkhleoaaDoorHe
import Derived.Test.YtdcgbcdmkhleoaaDoorDs
namespace Go.Proofs.YtdcgbcdmkhleoaaDoor
open Go.RowKit
set_option linter.unusedSimpArgs false
set_option linter.unusedVariables false

theorem findG_skip : ∀ (g : List Df) (s : ByteArray) (k : Nat) (hk : k < g.length), (∀ d ∈ g.take k, d.name ≠ s) → g[k].name = s → findG g s = (k : Int)
  | d :: g, s, 0, _, _, h => by
    have h : d.name = s := h
    simp [findG, h]
  | d :: g, s, k + 1, hk, h0, h => by
    have h1 : d.name ≠ s := h0 d (by simp)
    have h2 := findG_skip g s k (by simpa using hk) (fun x hx => h0 x (by simp [hx])) h
    rw [findG, if_neg h1, if_neg (by omega), h2]
    rfl
theorem findG_none : ∀ (g : List Df) (s : ByteArray), (∀ d ∈ g, d.name ≠ s) → findG g s = -1
  | [], _, _ => rfl
  | d :: g, s, h => by
    rw [findG, if_neg (h d List.mem_cons_self), findG_none g s (fun x hx => h x (List.mem_cons_of_mem _ hx))]
    rfl
def FindRel (w : World) (H : Nat) (A : Option Addr) (c : Nat) (ds : List Ld) (s : ByteArray) (i : Value) (wr : World) : Prop :=
  ∃ k : Nat, k ≤ ds.length ∧ i = .int .i64 k ∧ Hid (∀ d ∈ (ds.map Ld.df).take k, d.name ≠ s) ∧ Hid (wr.heap[H]? = some (.cells #[.slice A ds.length c] 50 (0, 0))) ∧ Hid (Below H w wr)
set_option maxRecDepth 100000 in
set_option maxHeartbeats 3200000 in
theorem find_any (A : Option Addr) (c : Nat) (ds : List Ld) (s : ByteArray) (S : Nat → Prop) (w : World) (hT : dfL.row w S A ds) (hl : ds.length ≤ 4294967296) :
    Calls Tryd.prog 40 #[.agg #[.slice A ds.length c], .string s] w fun e w' => e = .returned (.int .i64 (findG (ds.map Ld.df) s)) ∧ Below w.heap.size w w' := by
  have HT := Lib.hid hT; clear hT
  go_enter Tryd.func40, Tryd.ntmps40
  have HB0 := Lib.hid (bx1 w (.cells #[.slice A ds.length c] 50))
  have HK0 := Lib.hid (bx_new w (.cells #[.slice A ds.length c] 50))
  go_wp2_with fail
  go_loopw [10] (fun i wr => FindRel w w.heap.size A c ds s i wr) (fun i _ => ds.length - (intOf i).toNat)
  case atStart => exact ⟨0, Nat.zero_le _, rfl, Lib.hid (by simp), HK0, HB0⟩
  case round =>
    clear HK0 HB0
    obtain ⟨k, hk, rfl, HNO, HK, HB⟩ := hrel
    by_cases hlt : k < ds.length
    · have i1 : (k : Int) < (ds.length : Int) := by omega
      have i2 : (0 : Int) ≤ (k : Int) := by omega
      obtain ⟨b, o, rfl, _, _, x0, x1, x2⟩ := dfRow (HT.out.below HB.out) k hlt
      have HNM := Lib.hid (show ((ds.map Ld.df)[k]'(by simpa using hlt)).name = ds[k].name from by simp [Ld.df])
      generalize hd : ds[k] = d at *
      have HDD := Lib.hid hd; clear hd
      have HBR := Lib.hid (bx1 wr (.cells #[.string d.name, .slice d.t.A d.t.ls.length d.t.c, .int .i64 d.t.root] 47))
      by_cases he : d.name = s
      · have e1 : (d.name.toList == s.toList) = true := by rw [he]; simp
        have HF := Lib.hid (findG_skip (ds.map Ld.df) s k (by simpa using hlt) HNO.out (HNM.out.trans he))
        clear he
        as_aux_lemma =>
          go_wp2_with fail
          go_ret
          exact ⟨by rw [HF.out]; rfl, Below.step HB.out HBR.out⟩
      · have e1 : (d.name.toList == s.toList) = false := by
          rw [beq_eq_false_iff_ne]
          intro h
          rw [Lib.toList_data, Lib.toList_data] at h
          exact he (text_ext h)
        have HE := Lib.hid he; clear he
        as_aux_lemma =>
          go_wp2_with fail
          exact ⟨⟨k + 1, by omega, by go_num, Lib.hid (fun x hx => by
            rw [List.take_succ_eq_append_getElem (by simpa using hlt)] at hx
            rcases List.mem_append.1 hx with hx | hx
            · exact HNO.out x hx
            · simp only [List.mem_singleton] at hx; subst hx; rw [HNM.out]; exact HE.out), Lib.hid (bx_kept HBR.out HK.out), Lib.hid (Below.step HB.out HBR.out)⟩, by simp only [intOf]; omega⟩
    · obtain rfl : k = ds.length := by omega
      have HF := Lib.hid (findG_none (ds.map Ld.df) s (fun d hd => HNO.out d (by rw [List.take_of_length_le (by simp)]; exact hd)))
      as_aux_lemma =>
        go_wp2_with fail
        go_ret
        exact ⟨by rw [HF.out]; rfl, HB.out⟩
end Go.Proofs.YtdcgbcdmkhleoaaDoor
