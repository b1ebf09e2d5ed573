/- Path.With of a grammar that lies there; the law's same; plain: what is put in two rules may be put the other way about. -/
import Derived.Test.YtfncfmiccomgcaaDoorAt
import Derived.Test.YtfncfmiccomgcaaDoorBb
namespace Go.Proofs.YtfncfmiccomgcaaDoor
open Go.RowKit
set_option linter.unusedSimpArgs false
set_option linter.unusedVariables false

/-! ### plain -/
theorem pWith_get {g a : List Df} {r : Int} {p : List Int} {x : Tr} (h : pWith g r p x = some a) : 0 ≤ r ∧ r < (g.length : Int) ∧ ∃ y, putT (((g[r.toNat]?).map Df.body).getD ⟨[], 0⟩) p x = some y ∧ a = g.set r.toNat ⟨((g[r.toNat]?).map Df.name).getD ⟨#[]⟩, treeOf (makeTT y)⟩ := by
  unfold pWith at h
  split at h
  · rename_i hr
    obtain ⟨y, h1, h2⟩ := Option.map_eq_some_iff.1 h
    exact ⟨hr.1, hr.2, y, h1, h2.symm⟩
  · cases h
theorem pWith_apart {g a b : List Df} {r s : Int} {p q : List Int} {x y : Tr} (hne : r ≠ s) (ha : pWith g r p x = some a) (hb : pWith g s q y = some b) : ∃ c, pWith a s q y = some c ∧ pWith b r p x = some c := by
  obtain ⟨hr0, hr1, u, hu, rfl⟩ := pWith_get ha
  obtain ⟨hs0, hs1, v, hv, rfl⟩ := pWith_get hb
  have hn : r.toNat ≠ s.toNat := by omega
  refine ⟨(g.set r.toNat ⟨((g[r.toNat]?).map Df.name).getD ⟨#[]⟩, treeOf (makeTT u)⟩).set s.toNat ⟨((g[s.toNat]?).map Df.name).getD ⟨#[]⟩, treeOf (makeTT v)⟩, ?_, ?_⟩
  · unfold pWith
    rw [if_pos (by rw [List.length_set]; omega), List.getElem?_set_ne hn, hv]; rfl
  · unfold pWith
    rw [if_pos (by rw [List.length_set]; omega), List.getElem?_set_ne (Ne.symm hn), hu, List.set_comm _ _ hn]; rfl
def SmallDf (n : Nat) (f : Df) : Prop := f.body.nodes.length ≤ n ∧ ∀ nd ∈ f.body.nodes, nd.kids.length ≤ n
theorem pWith_small {g a : List Df} {r : Int} {p : List Int} {x : Tr} {n m : Nat} (h : pWith g r p x = some a) (hg : ∀ f ∈ g, SmallDf n f) (hx : x.nodes.length ≤ m) : ∀ f ∈ a, SmallDf (n + m) f := by
  obtain ⟨hr0, hr1, u, hu, rfl⟩ := pWith_get h
  have hr : r.toNat < g.length := by omega
  intro f hf
  rcases List.mem_or_eq_of_mem_set hf with hf | rfl
  · have h1 := hg f hf
    exact ⟨by have := h1.1; omega, fun nd hnd => by have := h1.2 nd hnd; omega⟩
  · have h1 := sz_putT hu
    have h2 := sz_make u
    have h3 : (((g[r.toNat]?).map Df.body).getD ⟨[], 0⟩).nodes.length ≤ n := by
      rw [List.getElem?_eq_getElem hr]; exact (hg _ (List.getElem_mem hr)).1
    exact ⟨by show szTT (makeTT u) ≤ _; omega, fun nd hnd => by have := sz_kids _ nd hnd; omega⟩

/-! ### grammars that lie there -/
def GLies (w : World) (G : List Df) (A : Option Addr) (ds : List Ld) : Prop := dfL.row w (fun _ => True) A ds ∧ ds.map Ld.df = G
theorem GLies.below {w w' : World} {G : List Df} {A : Option Addr} {ds : List Ld} (h : GLies w G A ds) (hb : Below w.heap.size w w') : GLies w' G A ds := ⟨h.1.below hb, h.2⟩
theorem GLies.small {w : World} {G : List Df} {A : Option Addr} {ds : List Ld} {n : Nat} (h : GLies w G A ds) (hs : ∀ f ∈ G, SmallDf n f) : ∀ d ∈ ds, d.t.ls.length ≤ n ∧ ∀ l ∈ d.t.ls, l.nd.kids.length ≤ n := fun d hd => by
  have h1 := hs d.df (by rw [← h.2]; exact List.mem_map.2 ⟨d, hd, rfl⟩)
  refine ⟨by have := h1.1; simpa [Ld.df, Lt.tr] using this, fun l hl => h1.2 l.nd (List.mem_map.2 ⟨l, hl, rfl⟩)⟩
def GTup (R : Option (List Df)) (w : World) (e : Ending) (w' : World) : Prop := ∃ (V : Option Addr) (vc : Nat) (es : List Ld), e = .returned (.tuple #[.agg #[.slice V es.length vc], .bool R.isSome]) ∧ (∀ G, R = some G → GLies w' G V es) ∧ Below w.heap.size w w'
theorem pwith_lies {w : World} {G : List Df} {X : Tr} {A PA XA : Option Addr} {c pc xc : Nat} {ds : List Ld} {xs : List Ln} {r xr : Int} {p : List Int} {n : Nat} (hG : GLies w G A ds) (hP : intL.row w (fun _ => True) PA p) (hX : Lies w X XA xc xs xr) (hs : ∀ f ∈ G, SmallDf n f) (hn : n ≤ 1000000) (hgl : ds.length ≤ 4294967296) (hxl : xs.length ≤ 1000000) (hpl : p.length ≤ 4611686018427387904) (ht : CntTab w) :
    Calls Tryd.prog 15 #[.agg #[.slice A ds.length c], .agg #[.int .i64 r, .slice PA p.length pc], .agg #[.slice XA xs.length xc, .int .i64 xr]] w (GTup (pWith G r p X) w) := by
  have hsm := hG.small hs
  refine (pwith_any A c ds r PA pc p XA xc xs xr _ _ _ w hG.1 hP hX.1 (by omega) hgl (fun d hd => ⟨by have := (hsm d hd).1; omega, fun l hl => by have := (hsm d hd).2 l hl; omega⟩) (fun d hd => by have := (hsm d hd).1; omega) hpl ht).mono ?_
  rintro e w' hq
  unfold PWithPost at hq
  rw [hG.2, hX.2] at hq
  rcases h : pWith G r p X with _ | G'
  · obtain ⟨rfl, hb⟩ := hq.2 h
    exact ⟨none, 0, [], rfl, (fun _ h => by cases h), hb⟩
  · obtain ⟨V, vc, es, rfl, h1, h2, hb⟩ := hq.1 G' h
    exact ⟨V, vc, es, rfl, (fun _ h => by cases h; exact ⟨h2.inn.mono (fun _ _ _ => trivial), h1⟩), hb⟩
set_option maxRecDepth 100000 in
set_option maxHeartbeats 12800000 in
theorem same18_any (A B : Option Addr) (c d : Nat) (ls ms : List Ld) (S T : Nat → Prop) (w : World) (hA : dfL.row w S A ls) (hB : dfL.row w T B ms) (he : ls.map Ld.df = ms.map Ld.df) (hl : ls.length ≤ 281474976710656) :
    Calls Tryd.prog 16 #[.agg #[.slice A ls.length c], .agg #[.slice B ms.length d]] w fun e w' => e = .returned (.bool true) ∧ Below w.heap.size w w' := by
  have hlen : ms.length = ls.length := by have := congrArg List.length he; simpa using this.symm
  have HA := Lib.hid hA; have HB := Lib.hid hB; have HE := Lib.hid he
  clear hA hB he
  have HK := Lib.hid (show ∀ w', Below ((w.alloc (.cells #[.slice A ls.length c] 29)).alloc (.cells #[.slice B ls.length d] 29)).heap.size ((w.alloc (.cells #[.slice A ls.length c] 29)).alloc (.cells #[.slice B ls.length d] 29)) w' → (w'.heap[w.heap.size]? = some (.cells #[.slice A ls.length c] 29 (0, 0)) ∧ w'.heap[w.heap.size + 1]? = some (.cells #[.slice B ls.length d] 29 (0, 0))) ∧ Below w.heap.size w w' from fun w' hb => ⟨bx2_kept hb, Below.step (bx2 w _ _) hb⟩)
  rw [hlen]
  go_enter Tryd.func16, Tryd.ntmps16
  go_wp2_with fail
  generalize ((w.alloc (.cells #[.slice A ls.length c] 29)).alloc (.cells #[.slice B ls.length d] 29)) = W0 at *
  go_loopw [5] (fun i wr => ∃ k : Nat, k ≤ ls.length ∧ i = .int .i64 k ∧ Hid (Below W0.heap.size W0 wr)) (fun i _ => ls.length - (intOf i).toNat)
  case atStart => exact ⟨0, Nat.zero_le _, rfl, Lib.hid (Below.refl _ _)⟩
  case round =>
    obtain ⟨k, hk, rfl, HBW⟩ := hrel
    obtain ⟨⟨ha, hb⟩, hbw⟩ := HK.out wr HBW.out
    obtain ⟨p1, _⟩ := blk1 ha
    obtain ⟨q1, _⟩ := blk1 hb
    by_cases hlt : k < ls.length
    · have i1 : (k : Int) < (ls.length : Int) := by omega
      have i2 : (0 : Int) ≤ (k : Int) := by omega
      obtain ⟨ab, ao, rfl, _, hal, x0, x1, x2⟩ := dfRow (HA.out.below hbw) k hlt
      obtain ⟨bb, bo, rfl, _, hbl, y0, y1, y2⟩ := dfRow (HB.out.below hbw) k (by omega)
      have HND := Lib.hid (show ls[k].df = (ms[k]'(by omega)).df from by
        have h1 := congrArg (·[k]?) HE.out
        simp only [List.getElem?_map] at h1
        rw [List.getElem?_eq_getElem hlt, List.getElem?_eq_getElem (show k < ms.length by omega)] at h1
        simpa using h1)
      have HSA := Lib.hid (dfSub (HA.out.below hbw) k hlt)
      have HSB := Lib.hid (dfSub (HB.out.below hbw) k (by omega))
      generalize ls[k] = la at *
      generalize ms[k]'(by omega) = lb at *
      obtain ⟨an, ⟨aA, ac, al, ar⟩⟩ := la
      obtain ⟨bn, ⟨bB, bc, bl, br⟩⟩ := lb
      obtain ⟨rfl, hnl, rfl⟩ : an = bn ∧ al.map Ln.nd = bl.map Ln.nd ∧ ar = br := by
        have h := HND.out
        simp only [Ld.df, Lt.tr, Df.mk.injEq, Tr.mk.injEq] at h
        exact ⟨h.1, h.2.1, h.2.2⟩
      simp only at x0 x1 x2 y0 y1 y2
      have HNL := Lib.hid hnl; clear hnl HND
      have HSA2 := Lib.hid (show al.length ≤ 281474976710656 ∧ ndL.row wr S aA al from HSA.out)
      have HSB2 := Lib.hid (show bl.length ≤ 281474976710656 ∧ ndL.row wr T bB bl from HSB.out)
      have HST := Lib.hid (show ∀ w', Below wr.heap.size wr w' → (w'.cell? ⟨w.heap.size, 0, none⟩ = some (.slice (some ⟨ab, ao, none⟩) ls.length c) ∧ w'.cell? ⟨w.heap.size + 1, 0, none⟩ = some (.slice (some ⟨bb, bo, none⟩) ls.length d)) ∧ (w'.cell? ⟨ab, ao + k * 3, none⟩ = some (.string an) ∧ w'.cell? ⟨ab, ao + k * 3 + 1, none⟩ = some (.slice aA al.length ac) ∧ w'.cell? ⟨ab, ao + k * 3 + 2, none⟩ = some (.int .i64 ar)) ∧ w'.cell? ⟨bb, bo + k * 3, none⟩ = some (.string an) ∧ w'.cell? ⟨bb, bo + k * 3 + 1, none⟩ = some (.slice bB bl.length bc) ∧ w'.cell? ⟨bb, bo + k * 3 + 2, none⟩ = some (.int .i64 ar) from fun w' hb =>
        ⟨⟨(hb.cell (cellLt p1)).trans p1, (hb.cell (cellLt q1)).trans q1⟩, ⟨(hb.cell (cellLt x0)).trans x0, (hb.cell (cellLt x1)).trans x1, (hb.cell (cellLt x2)).trans x2⟩, (hb.cell (cellLt y0)).trans y0, (hb.cell (cellLt y1)).trans y1, (hb.cell (cellLt y2)).trans y2⟩)
      go_upto_region 6 with (fail)
      clear x0 x1 x2 y0 y1 y2 p1 q1 ha hb
      as_aux_lemma =>
        go_region_held3 (fun w' => (w'.cell? ⟨w.heap.size, 0, none⟩ = some (.slice (some ⟨ab, ao, none⟩) ls.length c) ∧ w'.cell? ⟨w.heap.size + 1, 0, none⟩ = some (.slice (some ⟨bb, bo, none⟩) ls.length d)) ∧ (w'.cell? ⟨ab, ao + k * 3, none⟩ = some (.string an) ∧ w'.cell? ⟨ab, ao + k * 3 + 1, none⟩ = some (.slice aA al.length ac) ∧ w'.cell? ⟨ab, ao + k * 3 + 2, none⟩ = some (.int .i64 ar)) ∧ w'.cell? ⟨bb, bo + k * 3, none⟩ = some (.string an) ∧ w'.cell? ⟨bb, bo + k * 3 + 1, none⟩ = some (.slice bB bl.length bc) ∧ w'.cell? ⟨bb, bo + k * 3 + 2, none⟩ = some (.int .i64 ar))
          (first | exact HST.out _ (Below.refl _ _).drew | exact HST.out _ HB3.out)
          (((go_at_call 13; (with_reducible refine (exact4_any aA bB ac bc al bl ar S T _ (HSA2.out.2.agree (drew_agree _ _)) (HSB2.out.2.agree (drew_agree _ _)) HNL.out HSA2.out.1).mono ?_)); rintro e w3 ⟨rfl, hb3⟩; have HB3 := Lib.hid (show Below wr.heap.size wr w3 from (Below.refl _ wr).drew.trans hb3); clear hb3))
        go_wp2_with fail
        exact ⟨⟨k + 1, by omega, by go_num, Lib.hid (Below.step HBW.out HB3.out)⟩, by simp only [intOf]; omega⟩
    · go_wp2_with fail
      go_ret
      exact ⟨rfl, hbw⟩

end Go.Proofs.YtfncfmiccomgcaaDoor
