/- A grammar with another body, or without a rule, whether there is such a rule or not: the code's and the reference's. -/
import Derived.Test.YtdcgbcdmkhleoaaDoorVd
import Derived.Test.YtdcgbcdmkhleoaaDoorVe
import Derived.Test.YtdcgbcdmkhleoaaDoorVf
import Derived.Test.YtdcgbcdmkhleoaaDoorIy
import Derived.Test.YtdcgbcdmkhleoaaDoorIx
namespace Go.Proofs.YtdcgbcdmkhleoaaDoor
open Go.RowKit
set_option linter.unusedSimpArgs false
set_option linter.unusedVariables false

def inR (n : Nat) (r : Int) : Bool := decide (0 ≤ r ∧ r < (n : Int))
def withE (g : List Df) (r : Int) (b : Tr) : List Df := if inR g.length r then g.set r.toNat ⟨((g[r.toNat]?).map Df.name).getD ⟨#[]⟩, b⟩ else []
def dropE (g : List Df) (r : Int) : List Df := if inR g.length r then g.eraseIdx r.toNat else []
/-- A grammar of the call's own, and whether there is one. -/
def Chg (e1 : List Df) (b : Bool) (w : World) (e : Ending) (w' : World) : Prop := ∃ (V : Option Addr) (vc : Nat) (ds : List Ld), e = .returned (.tuple #[.agg #[.slice V ds.length vc], .bool b]) ∧ ds.map Ld.df = e1 ∧ GramOwn w' (fun y => w.heap.size ≤ y ∧ y < w'.heap.size) V vc ds ∧ Below w.heap.size w w'
def RChg (e1 : List Df) (b : Bool) (w : World) (e : Ending) (w' : World) : Prop := ∃ (V : Option Addr) (vc : Nat) (ds : List Ld), e = .returned (.tuple #[.agg #[.slice V ds.length vc], .bool b]) ∧ ds.map Ld.df = e1 ∧ dfL.row w' (fun _ => True) V ds ∧ Below w.heap.size w w'
theorem GramOwn.cap {w : World} {S : Nat → Prop} {A : Option Addr} {c : Nat} {ds : List Ld} (h : GramOwn w S A c ds) : GramOwn w (fun y => S y ∧ y < w.heap.size) A c ds := by
  obtain ⟨Q, h1, h2, h3⟩ := h.kids
  refine ⟨h.len, h.row.mono (fun k hk hs => ⟨hs, hk⟩), fun i x => Q i x ∧ x < w.heap.size, fun i hi => ⟨(h1 i hi).1, (h1 i hi).2.mono (fun x hx hq => ⟨hq, hx⟩)⟩, fun i x hx => ⟨h2 i x hx.1, hx.2⟩, fun i j x hij hi hj => h3 i j x hij hi.1 hj.1⟩
theorem gram_none (w : World) (S : Nat → Prop) : GramOwn w S none 0 [] := ⟨by simp, OwnS.nil _ _ _ _, fun _ _ => False, fun i h => by simp at h, fun _ _ h => h.elim, fun _ _ _ _ h => h.elim⟩
theorem out_of {n : Nat} {r : Int} (h : inR n r = false) : r < 0 ∨ (n : Int) ≤ r := by
  have h := of_decide_eq_false h
  omega
theorem in_of {n : Nat} {r : Int} (h : inR n r = true) : ∃ k : Nat, r = (k : Int) ∧ k < n := by
  have h := of_decide_eq_true h
  exact ⟨r.toNat, by omega, by omega⟩
theorem gwith_all (A : Option Addr) (c : Nat) (ds : List Ld) (r : Int) (t : Lt) (S T : Nat → Prop) (w : World) (hA : dfL.row w S A ds) (hT : t.inn w T) (hl : ds.length ≤ 4294967296) (hm : ∀ d ∈ ds, DMod d) (htl : t.ls.length ≤ 4294967296) (htk : ∀ l ∈ t.ls, l.nd.kids.length ≤ 4294967296) :
    Calls Tryd.prog 35 #[.agg #[.slice A ds.length c], .int .i64 r, .agg #[.slice t.A t.ls.length t.c, .int .i64 t.root]] w (Chg (withE (ds.map Ld.df) r t.tr) (inR ds.length r) w) := by
  unfold withE
  rw [List.length_map]
  cases hi : inR ds.length r
  · refine (with_no A c ds r t w (out_of hi)).mono ?_
    rintro e w' ⟨rfl, hb⟩
    exact ⟨none, 0, [], rfl, by simp, gram_none _ _, hb⟩
  · obtain ⟨k, rfl, hk⟩ := in_of hi
    refine (with_any A c ds k t S T w hA hT hl hm hk htl htk).mono ?_
    rintro e w' ⟨V, vc, d1, rfl, hd, hg, hb⟩
    exact ⟨V, vc, d1, rfl, by rw [if_pos rfl]; simpa using hd, hg.cap, hb⟩
theorem gdrop_all (A : Option Addr) (c : Nat) (ds : List Ld) (r : Int) (S : Nat → Prop) (w : World) (hA : dfL.row w S A ds) (hl : ds.length ≤ 4294967296) (hm : ∀ d ∈ ds, DMod d) :
    Calls Tryd.prog 36 #[.agg #[.slice A ds.length c], .int .i64 r] w (Chg (dropE (ds.map Ld.df) r) (inR ds.length r) w) := by
  unfold dropE
  rw [List.length_map]
  cases hi : inR ds.length r
  · refine (drop_no A c ds r w (out_of hi)).mono ?_
    rintro e w' ⟨rfl, hb⟩
    exact ⟨none, 0, [], rfl, by simp, gram_none _ _, hb⟩
  · obtain ⟨k, rfl, hk⟩ := in_of hi
    refine (drop_any A c ds k S w hA hl hm hk).mono ?_
    rintro e w' ⟨V, vc, d1, rfl, hd, hg, hb⟩
    exact ⟨V, vc, d1, rfl, by rw [if_pos rfl]; simpa using hd, hg.cap, hb⟩
theorem rwith_all (A : Option Addr) (c : Nat) (ds : List Ld) (r : Int) (t : Lt) (S T : Nat → Prop) (w : World) (hA : dfL.row w S A ds) (hT : t.inn w T) (hl : ds.length ≤ 4294967296) :
    Calls Tryd.prog 44 #[.agg #[.slice A ds.length c], .int .i64 r, .agg #[.slice t.A t.ls.length t.c, .int .i64 t.root]] w (RChg (withE (ds.map Ld.df) r t.tr) (inR ds.length r) w) := by
  unfold withE
  rw [List.length_map]
  cases hi : inR ds.length r
  · refine (rwith_no A c ds r t w (out_of hi)).mono ?_
    rintro e w' ⟨rfl, hb⟩
    exact ⟨none, 0, [], rfl, by simp, Lay.row.nil _ _ _, hb⟩
  · obtain ⟨k, rfl, hk⟩ := in_of hi
    refine (rwith_any A c ds k t S T w hA hT hl hk).mono ?_
    rintro e w' ⟨V, vc, d1, rfl, hd, hg, hb⟩
    exact ⟨V, vc, d1, rfl, by rw [if_pos rfl]; simpa using hd, hg, hb⟩
theorem rdrop_all (A : Option Addr) (c : Nat) (ds : List Ld) (r : Int) (S : Nat → Prop) (w : World) (hA : dfL.row w S A ds) (hl : ds.length ≤ 4294967296) (hc : ds.length ≤ c) (hcm : c ≤ 9223372036854775807) :
    Calls Tryd.prog 45 #[.agg #[.slice A ds.length c], .int .i64 r] w (RChg (dropE (ds.map Ld.df) r) (inR ds.length r) w) := by
  unfold dropE
  rw [List.length_map]
  cases hi : inR ds.length r
  · refine (rdrop_no A c ds r w (out_of hi)).mono ?_
    rintro e w' ⟨rfl, hb⟩
    exact ⟨none, 0, [], rfl, by simp, Lay.row.nil _ _ _, hb⟩
  · obtain ⟨k, rfl, hk⟩ := in_of hi
    refine (rdrop_any A c ds k S w hA hl hk hc hcm).mono ?_
    rintro e w' ⟨V, vc, d1, rfl, hd, hg, hb⟩
    exact ⟨V, vc, d1, rfl, by rw [if_pos rfl]; simpa using hd, hg, hb⟩
/-- A rule that is not out of all measure, as it reads. -/
def DfMod (d : Df) : Prop := d.body.nodes.length ≤ 4294967296 ∧ ∀ n ∈ d.body.nodes, n.kids.length ≤ 4294967296
theorem dmod_iff (d : Ld) : DMod d ↔ DfMod d.df := by
  unfold DMod DfMod
  simp only [Ld.df, Lt.tr, List.length_map, List.mem_map, forall_exists_index, and_imp, forall_apply_eq_imp_iff₂]
theorem dmod_ofE {ds : List Ld} {g : List Df} (h : ds.map Ld.df = g) (hg : ∀ d ∈ g, DfMod d) : ∀ d ∈ ds, DMod d := fun d hd => (dmod_iff d).2 (hg _ (by rw [← h]; exact List.mem_map_of_mem hd))
theorem withE_mod {g : List Df} {r : Int} {b : Tr} (hg : ∀ d ∈ g, DfMod d) (hb : b.nodes.length ≤ 4294967296 ∧ ∀ n ∈ b.nodes, n.kids.length ≤ 4294967296) : ∀ d ∈ withE g r b, DfMod d := fun d hd => by
  unfold withE at hd
  split at hd
  · rcases List.mem_or_eq_of_mem_set hd with hd | rfl
    · exact hg d hd
    · exact hb
  · cases hd
theorem dropE_mod {g : List Df} {r : Int} (hg : ∀ d ∈ g, DfMod d) : ∀ d ∈ dropE g r, DfMod d := fun d hd => by
  unfold dropE at hd
  split at hd
  · exact hg d (List.mem_of_mem_eraseIdx hd)
  · cases hd
theorem withE_len (g : List Df) (r : Int) (b : Tr) : (withE g r b).length ≤ g.length := by
  unfold withE; split <;> simp
theorem dropE_len (g : List Df) (r : Int) : (dropE g r).length ≤ g.length := by
  unfold dropE; split
  · rw [List.length_eraseIdx]; split <;> omega
  · simp
end Go.Proofs.YtdcgbcdmkhleoaaDoor
