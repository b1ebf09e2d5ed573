/- Plain: trees as such, and the arenas that they stand in. -/
import Derived.Test.YtfncfmiccomgcaaDoorHt
namespace Go.Proofs.YtfncfmiccomgcaaDoor
set_option linter.unusedSimpArgs false
set_option linter.unusedVariables false

inductive TT where
  | mk : Nd → List TT → TT
def TT.nd : TT → Nd
  | .mk n _ => n
def TT.kids : TT → List TT
  | .mk _ k => k
theorem TT.eta (x : TT) : TT.mk x.nd x.kids = x := by cases x; rfl
theorem TT.ind {P : TT → Prop} (h : ∀ n ks, (∀ t ∈ ks, P t) → P (.mk n ks)) : ∀ t, P t
  | .mk n ks => h n ks (go ks)
  where go : ∀ ts : List TT, ∀ t ∈ ts, P t
    | [], _, h => nomatch h
    | t :: ts, x, hx => (List.mem_cons.1 hx).elim (fun e => e ▸ TT.ind h t) (fun m => go ts x m)
/-- The arena of a tree, clean. -/
def flatT : TT → List Nd
  | .mk n ks => catN 0 (go ks) ++ [{ n with kids := endsN 0 (go ks) }]
  where go : List TT → List (List Nd)
    | [] => []
    | t :: ts => flatT t :: go ts
theorem flatT_go : ∀ ts, flatT.go ts = ts.map flatT
  | [] => rfl
  | t :: ts => by rw [flatT.go, flatT_go ts]; rfl
theorem flatT_mk (n : Nd) (ks : List TT) : flatT (.mk n ks) = catN 0 (ks.map flatT) ++ [{ n with kids := endsN 0 (ks.map flatT) }] := by rw [flatT, flatT_go]
def treeOf (x : TT) : Tr := ⟨flatT x, ((flatT x).length : Int) - 1⟩

/-! ### what an arena says of a node -/
def denF (l : List Nd) : Nat → Nat → TT
  | 0, i => .mk (bareN (ndAt l i)) []
  | f + 1, i => .mk (bareN (ndAt l i)) ((kidsAt l i).map (denF l f))
def den (l : List Nd) (i : Nat) : TT := denF l (i + 1) i
theorem denF_stable {l : List Nd} (h : Ahead l) : ∀ (f g i : Nat), i < f → i < g → denF l f i = denF l g i
  | 0, _, _, hf, _ => by omega
  | _, 0, _, _, hg => by omega
  | f + 1, g + 1, i, hf, hg => by
    simp only [denF]
    congr 1
    exact List.map_congr_left fun k hk => denF_stable h f g k (by have := h i k hk; omega) (by have := h i k hk; omega)
theorem den_eq {l : List Nd} (h : Ahead l) (i : Nat) : den l i = .mk (bareN (ndAt l i)) ((kidsAt l i).map (den l)) := by
  show denF l (i + 1) i = _
  simp only [denF]
  congr 1
  exact List.map_congr_left fun k hk => denF_stable h i (k + 1) k (h i k hk) (by omega)
theorem post_sub {l : List Nd} (h : Ahead l) {i k : Nat} (hk : k ∈ kidsAt l i) (hn : (postN l i).Nodup) : (postN l k).Nodup := by
  rw [postN_eq h, List.nodup_append] at hn
  obtain ⟨a, b, e⟩ := List.append_of_mem hk
  have := hn.1
  rw [e, List.flatMap_append, List.flatMap_cons, List.nodup_append] at this
  exact (List.nodup_append.1 this.2.1).1
theorem taken_flat {l : List Nd} (h : Ahead l) : ∀ i, (postN l i).Nodup → takenL l i = flatT (den l i) := by
  intro i
  induction i using Nat.strongRecOn with
  | _ i ih =>
    intro hn
    rw [taken_split h hn, den_eq h, flatT_mk, List.map_map]
    have e : (kidsAt l i).map (takenL l) = (kidsAt l i).map (flatT ∘ den l) := List.map_congr_left fun k hk => ih k (h i k hk) (post_sub h hk hn)
    rw [e]
    rfl
theorem takenT_of {t : Tr} (h : Ahead t.nodes) {i : Nat} (hn : (postN t.nodes i).Nodup) : takenT t i = treeOf (den t.nodes i) := by
  unfold takenT treeOf
  rw [← taken_flat h i hn, taken_length]

/-! ### an arena that says a tree -/
/-- In this arena the tree stands at that place. -/
def Rep (l : List Nd) : TT → Nat → Prop
  | .mk n ks, i => ∃ m, l[i]? = some m ∧ bareN m = n ∧ go m.kids ks
  where go : List Int → List TT → Prop
    | [], [] => True
    | z :: zs, t :: ts => (0 ≤ z ∧ Rep l t z.toNat) ∧ go zs ts
    | _, _ => False
theorem rep_go {l : List Nd} : ∀ (zs : List Int) (ts : List TT), Rep.go l zs ts ↔ zs.length = ts.length ∧ ∀ j (h : j < zs.length) (h' : j < ts.length), 0 ≤ zs[j] ∧ Rep l ts[j] zs[j].toNat
  | [], [] => by simp [Rep.go]
  | [], _ :: _ => by simp [Rep.go]
  | _ :: _, [] => by simp [Rep.go]
  | z :: zs, t :: ts => by
    rw [Rep.go, rep_go zs ts]
    constructor
    · rintro ⟨h0, h1, h2⟩
      refine ⟨by simp [h1], fun j h h' => ?_⟩
      cases j with
      | zero => exact h0
      | succ j => exact h2 j (by simpa using h) (by simpa using h')
    · rintro ⟨h1, h2⟩
      refine ⟨h2 0 (by simp) (by simp), by simpa using h1, fun j h h' => ?_⟩
      exact h2 (j + 1) (by simpa using h) (by simpa using h')
theorem rep_iff {l : List Nd} {n : Nd} {ks : List TT} {i : Nat} : Rep l (.mk n ks) i ↔ ∃ m, l[i]? = some m ∧ bareN m = n ∧ m.kids.length = ks.length ∧ ∀ j (h : j < m.kids.length) (h' : j < ks.length), 0 ≤ m.kids[j] ∧ Rep l ks[j] m.kids[j].toNat := by
  rw [Rep]
  simp only [rep_go]
theorem Rep.lt {l : List Nd} {x : TT} {i : Nat} (h : Rep l x i) : i < l.length := by
  cases x with
  | mk n ks =>
    obtain ⟨m, hm, _⟩ := rep_iff.1 h
    exact (List.getElem?_eq_some_iff.1 hm).1
theorem Rep.append {l m : List Nd} {x : TT} : ∀ {i : Nat}, Rep l x i → Rep (l ++ m) x i := by
  induction x using TT.ind with
  | h n ks ih =>
    intro i h
    obtain ⟨a, ha, hb, hl, hk⟩ := rep_iff.1 h
    refine rep_iff.2 ⟨a, ?_, hb, hl, fun j h1 h2 => ⟨(hk j h1 h2).1, ih _ (List.getElem_mem h2) (hk j h1 h2).2⟩⟩
    rw [List.getElem?_append_left (List.getElem?_eq_some_iff.1 ha).1]; exact ha
theorem Rep.shift {l pre : List Nd} {x : TT} : ∀ {i : Nat}, Rep l x i → Rep (pre ++ l.map (shiftN pre.length)) x (pre.length + i) := by
  induction x using TT.ind with
  | h n ks ih =>
    intro i h
    obtain ⟨a, ha, hb, hl, hk⟩ := rep_iff.1 h
    refine rep_iff.2 ⟨shiftN pre.length a, ?_, hb, by simp [shiftN, hl], fun j h1 h2 => ?_⟩
    · rw [List.getElem?_append_right (by omega), Nat.add_sub_cancel_left, List.getElem?_map, ha]; rfl
    · have h1' : j < a.kids.length := by simpa [shiftN] using h1
      obtain ⟨h3, h4⟩ := hk j h1' h2
      have e : (shiftN pre.length a).kids[j] = a.kids[j] + (pre.length : Int) := by simp [shiftN]
      rw [e]
      refine ⟨by omega, ?_⟩
      have := ih _ (List.getElem_mem h2) h4
      rw [show (a.kids[j] + (pre.length : Int)).toNat = pre.length + a.kids[j].toNat by omega]
      exact this
theorem Rep.unique {l : List Nd} {x : TT} : ∀ {y : TT} {i : Nat}, Rep l x i → Rep l y i → x = y := by
  induction x using TT.ind with
  | h n ks ih =>
    intro y i h k
    cases y with
    | mk n' ks' =>
      obtain ⟨a, ha, hb, hl, hk⟩ := rep_iff.1 h
      obtain ⟨a', ha', hb', hl', hk'⟩ := rep_iff.1 k
      rw [ha] at ha'; cases ha'
      rw [hb] at hb'; subst hb'
      congr 1
      refine List.ext_getElem (by omega) fun j h1 h2 => ?_
      exact ih _ (List.getElem_mem h1) (hk j (by omega) h1).2 (hk' j (by omega) h2).2
/-- Kids stand ahead, and none is below 0. -/
def AheadZ (l : List Nd) : Prop := ∀ (i : Nat) (n : Nd), l[i]? = some n → ∀ k ∈ n.kids, 0 ≤ k ∧ k < (i : Int)
theorem AheadZ.ahead {l : List Nd} (h : AheadZ l) : Ahead l := fun i k hk => by
  simp only [kidsAt, List.mem_map] at hk
  obtain ⟨z, hz, rfl⟩ := hk
  cases e : l[i]? with
  | none => rw [e] at hz; simp at hz
  | some n =>
    rw [e] at hz
    have := h i n e z (by simpa using hz)
    omega
theorem right_aheadZ {t : Tr} (h : rightP t) : AheadZ t.nodes := fun i n hn k hk => rightP_kid h hn hk
theorem rep_den {l : List Nd} (h : AheadZ l) : ∀ i, i < l.length → Rep l (den l i) i := by
  have hA := h.ahead
  intro i
  induction i using Nat.strongRecOn with
  | _ i ih =>
    intro hi
    have e := List.getElem?_eq_getElem hi
    have en : ndAt l i = l[i] := by simp [ndAt, e]
    have ek : kidsAt l i = l[i].kids.map Int.toNat := by rw [kidsAt_nd, en]
    rw [den_eq hA]
    refine rep_iff.2 ⟨l[i], e, by rw [en], by rw [ek]; simp, fun j h1 h2 => ?_⟩
    have hk := h i _ e _ (List.getElem_mem h1)
    refine ⟨hk.1, ?_⟩
    have := ih l[i].kids[j].toNat (by omega) (by omega)
    simpa [ek] using this
theorem Rep.den {l : List Nd} {x : TT} (hA : AheadZ l) {i : Nat} (h : Rep l x i) : den l i = x :=
  (rep_den hA i h.lt).unique h

/-- A tree that is told with bare nodes. -/
def bareTT : TT → Prop
  | .mk n ks => n.kids = [] ∧ go ks
  where go : List TT → Prop
    | [] => True
    | t :: ts => bareTT t ∧ go ts
theorem bareTT_go : ∀ ts, bareTT.go ts ↔ ∀ t ∈ ts, bareTT t
  | [] => by simp [bareTT.go]
  | t :: ts => by rw [bareTT.go, bareTT_go ts]; simp
theorem bareTT_mk {n : Nd} {ks : List TT} : bareTT (.mk n ks) ↔ n.kids = [] ∧ ∀ t ∈ ks, bareTT t := by rw [bareTT, bareTT_go]
theorem bare_of {n : Nd} (h : n.kids = []) : bareN n = n := by cases n; simp only [bareN] at h ⊢; rw [h]
theorem bare_den {l : List Nd} (hA : Ahead l) : ∀ i, bareTT (den l i) := by
  intro i
  induction i using Nat.strongRecOn with
  | _ i ih =>
    rw [den_eq hA, bareTT_mk]
    refine ⟨rfl, fun t ht => ?_⟩
    obtain ⟨k, hk, rfl⟩ := List.mem_map.1 ht
    exact ih k (hA i k hk)
theorem flat_ne (x : TT) : 1 ≤ (flatT x).length := by cases x with | mk n ks => rw [flatT_mk]; simp
theorem ends_length' : ∀ (off : Nat) (T : List (List Nd)), (endsN off T).length = T.length
  | _, [] => rfl
  | off, t :: ts => by simp only [endsN, List.length_cons, ends_length']
/-- What stands in a row of arenas. -/
theorem rep_cat : ∀ (ks : List TT) (pre : List Nd), (∀ t ∈ ks, ∀ p : List Nd, Rep (p ++ (flatT t).map (shiftN p.length)) t (p.length + ((flatT t).length - 1))) →
    ∀ j (h : j < (endsN pre.length (ks.map flatT)).length) (h' : j < ks.length), 0 ≤ (endsN pre.length (ks.map flatT))[j] ∧ Rep (pre ++ catN pre.length (ks.map flatT)) ks[j] ((endsN pre.length (ks.map flatT))[j]).toNat
  | [], pre, _, j, _, h' => by simp at h'
  | t :: ts, pre, hP, 0, h, h' => by
    have h1 := hP t List.mem_cons_self pre
    have h2 := flat_ne t
    simp only [List.map_cons, endsN, catN, List.getElem_cons_zero]
    refine ⟨by omega, ?_⟩
    rw [show ((((pre.length + (flatT t).length : Nat) : Int) - 1).toNat) = pre.length + ((flatT t).length - 1) by omega, ← List.append_assoc]
    exact h1.append
  | t :: ts, pre, hP, j + 1, h, h' => by
    have ih := rep_cat ts (pre ++ (flatT t).map (shiftN pre.length)) (fun x hx => hP x (List.mem_cons_of_mem _ hx)) j
    simp only [List.length_append, List.length_map] at ih
    simp only [List.map_cons, endsN, catN, List.getElem_cons_succ, ← List.append_assoc]
    exact ih (by simpa [endsN] using h) (by simpa using h')
theorem shift_bare (p : Nat) (n : Nd) : bareN (shiftN p n) = bareN n := rfl
theorem cat_shift : ∀ (off p : Nat) (T : List (List Nd)), (catN off T).map (shiftN p) = catN (p + off) T
  | _, _, [] => rfl
  | off, p, t :: ts => by
    simp only [catN, List.map_append, List.map_map, cat_shift (off + t.length) p ts]
    congr 1
    · refine List.map_congr_left fun n _ => ?_
      simp only [Function.comp_apply, shiftN, List.map_map]
      congr 1
      refine List.map_congr_left fun z _ => ?_
      simp only [Function.comp_apply]; omega
    · congr 1; omega
theorem ends_shift : ∀ (off p : Nat) (T : List (List Nd)), (endsN off T).map (· + (p : Int)) = endsN (p + off) T
  | _, _, [] => rfl
  | off, p, t :: ts => by
    simp only [endsN, List.map_cons, ends_shift (off + t.length) p ts]
    congr 1
    · omega
    · congr 1; omega
theorem rep_flat {x : TT} : bareTT x → ∀ pre : List Nd, Rep (pre ++ (flatT x).map (shiftN pre.length)) x (pre.length + ((flatT x).length - 1)) := by
  induction x using TT.ind with
  | h n ks ih =>
    intro hb pre
    obtain ⟨hn, hk⟩ := bareTT_mk.1 hb
    have h1 := rep_cat ks pre fun t ht p => ih t ht (hk t ht) p
    have hl : (catN 0 (ks.map flatT)).length = (catN pre.length (ks.map flatT)).length := by
      rw [show pre.length = pre.length + 0 by omega, ← cat_shift]; simp
    rw [flatT_mk, List.map_append, cat_shift, ← List.append_assoc, Nat.add_zero]
    refine rep_iff.2 ⟨shiftN pre.length { n with kids := endsN 0 (ks.map flatT) }, ?_, ?_, ?_, fun j h2 h3 => ?_⟩
    · rw [List.getElem?_append_right (by simp [hl])]
      simp [hl]
    · rw [shift_bare]; exact bare_of hn ▸ rfl
    · simp [shiftN, ends_length']
    · have e : (shiftN pre.length { n with kids := endsN 0 (ks.map flatT) }).kids = endsN pre.length (ks.map flatT) := by
        show (endsN 0 (ks.map flatT)).map (· + (pre.length : Int)) = _
        rw [ends_shift, Nat.add_zero]
      have h2' : j < (endsN pre.length (ks.map flatT)).length := by rw [← e]; exact h2
      have e2 : (shiftN pre.length { n with kids := endsN 0 (ks.map flatT) }).kids[j] = (endsN pre.length (ks.map flatT))[j] := by simp only [e]
      rw [e2]
      exact ⟨(h1 j h2' h3).1, (h1 j h2' h3).2.append⟩
theorem rep_treeOf {x : TT} (h : bareTT x) : Rep (flatT x) x ((flatT x).length - 1) := by
  have h1 := rep_flat h []
  have e : (flatT x).map (shiftN 0) = flatT x := by
    refine Eq.trans (List.map_congr_left fun n _ => ?_) (List.map_id _)
    cases n; simp [shiftN]
  simpa [e] using h1
end Go.Proofs.YtfncfmiccomgcaaDoor

/- Plain: what makes a tree normal. -/
namespace Go.Proofs.YtfncfmiccomgcaaDoor
set_option linter.unusedSimpArgs false
set_option linter.unusedVariables false

def emptyN : Nd := ⟨0, 0, 0, 0, 0, ⟨#[]⟩, 0, 0, []⟩
def setN : Nd := ⟨1, 0, 0, 0, 0, ⟨#[]⟩, 0, 0, []⟩
def seqN : Nd := ⟨4, 0, 0, 0, 0, ⟨#[]⟩, 0, 0, []⟩
def choN : Nd := ⟨5, 0, 0, 0, 0, ⟨#[]⟩, 0, 0, []⟩
abbrev TT.kd (x : TT) : Int := x.nd.kind
/-- All nodes fit. -/
def fitTT : TT → Prop
  | .mk n ks => (n.kids = [] ∧ fitN n ks.length = true) ∧ go ks
  where go : List TT → Prop
    | [] => True
    | t :: ts => fitTT t ∧ go ts
theorem fitTT_go : ∀ ts, fitTT.go ts ↔ ∀ t ∈ ts, fitTT t
  | [] => by simp [fitTT.go]
  | t :: ts => by rw [fitTT.go, fitTT_go ts]; simp
theorem fitTT_mk {n : Nd} {ks : List TT} : fitTT (.mk n ks) ↔ (n.kids = [] ∧ fitN n ks.length = true) ∧ ∀ t ∈ ks, fitTT t := by rw [fitTT, fitTT_go]
theorem fit_bareTT {x : TT} : fitTT x → bareTT x := by
  induction x using TT.ind with
  | h n ks ih => intro h; obtain ⟨⟨h1, _⟩, h2⟩ := fitTT_mk.1 h; exact bareTT_mk.2 ⟨h1, fun t ht => ih t ht (h2 t ht)⟩
theorem plain_nd {n : Nd} {k : Int} (hk : n.kids = []) (h : fitN n k = true) (h4 : n.kind = 4 ∨ n.kind = 5) : n = { seqN with kind := n.kind } ∧ 2 ≤ k := by
  obtain ⟨kind, s0, s1, s2, s3, text, mn, mx, kids⟩ := n
  simp only at hk h4
  subst hk
  rcases h4 with rfl | rfl <;>
  · simp [fitN, noSet, noText, noNum] at h
    obtain ⟨⟨⟨⟨rfl, rfl, rfl, rfl⟩, ht⟩, rfl, rfl⟩, h2⟩ := h
    refine ⟨?_, h2⟩
    have : text = ⟨#[]⟩ := by
      cases text with
      | mk d => rw [Array.eq_empty_of_size_eq_zero (show d.size = 0 from congrArg ByteArray.size ht)]
    rw [this]; rfl
theorem fit_seq {k : Nat} (h : 2 ≤ k) : fitN seqN k = true ∧ fitN choN k = true := by
  constructor <;> simp [fitN, seqN, choN, noSet, noText, noNum, h, ByteArray.size] <;> omega
theorem fit_leafs : fitTT (.mk emptyN []) ∧ fitTT (.mk setN []) := ⟨fitTT_mk.2 ⟨⟨rfl, by decide⟩, by simp⟩, fitTT_mk.2 ⟨⟨rfl, by decide⟩, by simp⟩⟩

/-- The parts of a tree, as a Seq's (4) or a Choice's (5). -/
def openTT (kind : Int) : TT → List TT
  | .mk n ks => if n.kind = kind then go ks else if kind = 4 ∧ n.kind = 0 then [] else [.mk n ks]
  where go : List TT → List TT
    | [] => []
    | t :: ts => openTT kind t ++ go ts
theorem openTT_go (kind : Int) : ∀ ts, openTT.go kind ts = ts.flatMap (openTT kind)
  | [] => rfl
  | t :: ts => by rw [openTT.go, openTT_go kind ts]; rfl
theorem openTT_mk (kind : Int) (n : Nd) (ks : List TT) : openTT kind (.mk n ks) = if n.kind = kind then ks.flatMap (openTT kind) else if kind = 4 ∧ n.kind = 0 then [] else [.mk n ks] := by rw [openTT, openTT_go]
def joined (n none : Nd) : List TT → TT
  | [] => .mk none []
  | [x] => x
  | x :: y :: l => .mk n (x :: y :: l)
theorem joined_two (n none : Nd) {l : List TT} (h : 2 ≤ l.length) : joined n none l = .mk n l := by
  match l, h with
  | _ :: _ :: _, _ => rfl
def joinTT (n : Nd) (l : List TT) : TT :=
  if n.kind = 4 then joined n emptyN (l.flatMap (openTT 4)) else if n.kind = 5 then joined n setN (l.flatMap (openTT 5)) else .mk n l
/-- Made normal. -/
def makeTT : TT → TT
  | .mk n ks => joinTT n (go ks)
  where go : List TT → List TT
    | [] => []
    | t :: ts => makeTT t :: go ts
theorem makeTT_go : ∀ ts, makeTT.go ts = ts.map makeTT
  | [] => rfl
  | t :: ts => by rw [makeTT.go, makeTT_go ts]; rfl
theorem makeTT_mk (n : Nd) (ks : List TT) : makeTT (.mk n ks) = joinTT n (ks.map makeTT) := by rw [makeTT, makeTT_go]

/-- No Seq with a kid that is a Seq or an Empty, no Choice with one that is a Choice. -/
def shutTT : TT → Prop
  | .mk n ks => go n.kind ks
  where go (k : Int) : List TT → Prop
    | [] => True
    | t :: ts => ((k = 4 → t.nd.kind ≠ 4 ∧ t.nd.kind ≠ 0) ∧ (k = 5 → t.nd.kind ≠ 5)) ∧ shutTT t ∧ go k ts
theorem shutTT_go (k : Int) : ∀ ts, shutTT.go k ts ↔ ∀ t ∈ ts, ((k = 4 → t.kd ≠ 4 ∧ t.kd ≠ 0) ∧ (k = 5 → t.kd ≠ 5)) ∧ shutTT t
  | [] => by simp [shutTT.go]
  | t :: ts => by rw [shutTT.go, shutTT_go k ts]; simp only [List.mem_cons, forall_eq_or_imp, and_assoc]
theorem shutTT_mk {n : Nd} {ks : List TT} : shutTT (.mk n ks) ↔ ∀ t ∈ ks, ((n.kind = 4 → t.kd ≠ 4 ∧ t.kd ≠ 0) ∧ (n.kind = 5 → t.kd ≠ 5)) ∧ shutTT t := by rw [shutTT, shutTT_go]
theorem open_other {kind : Int} {x : TT} (h : x.kd ≠ kind) (h0 : kind = 4 → x.kd ≠ 0) : openTT kind x = [x] := by
  cases x with
  | mk n ks =>
    have h : n.kind ≠ kind := h
    rw [openTT_mk, if_neg h, if_neg (fun e => h0 e.1 e.2)]
theorem flatMap_self {α : Type} {f : α → List α} : ∀ {l : List α}, (∀ x ∈ l, f x = [x]) → l.flatMap f = l
  | [], _ => rfl
  | x :: l, h => by rw [List.flatMap_cons, h x List.mem_cons_self, flatMap_self fun y hy => h y (List.mem_cons_of_mem _ hy)]; rfl
/-- A normal tree's parts. -/
theorem open_shut {kind : Int} {x : TT} (hk : kind = 4 ∨ kind = 5) (hs : shutTT x) : openTT kind x = if x.kd = kind then x.kids else if kind = 4 ∧ x.kd = 0 then [] else [x] := by
  cases x with
  | mk n ks =>
    rw [openTT_mk]
    show _ = if n.kind = kind then ks else if kind = 4 ∧ n.kind = 0 then [] else [.mk n ks]
    by_cases h : n.kind = kind
    · rw [if_pos h, if_pos h]
      refine flatMap_self fun t ht => ?_
      have := (shutTT_mk.1 hs t ht).1
      refine open_other ?_ ?_
      · rcases hk with rfl | rfl
        · exact (this.1 h).1
        · exact this.2 h
      · rintro rfl; exact (this.1 h).2
    · rw [if_neg h, if_neg h]
theorem open_mem {kind : Int} {x y : TT} (hk : kind = 4 ∨ kind = 5) (hs : shutTT x) (hf : fitTT x) (hy : y ∈ openTT kind x) : y.kd ≠ kind ∧ (kind = 4 → y.kd ≠ 0) ∧ shutTT y ∧ fitTT y := by
  rw [open_shut hk hs] at hy
  split at hy
  · rename_i h
    cases x with
    | mk n ks =>
      simp only [TT.kd, TT.nd, TT.kids] at h hy
      have h1 := shutTT_mk.1 hs y hy
      have h2 := (fitTT_mk.1 hf).2 y hy
      rcases hk with rfl | rfl
      · exact ⟨(h1.1.1 h).1, fun _ => (h1.1.1 h).2, h1.2, h2⟩
      · exact ⟨h1.1.2 h, fun e => absurd e (by decide), h1.2, h2⟩
  · split at hy
    · simp at hy
    · simp only [List.mem_singleton] at hy
      subst hy
      rename_i h h0
      exact ⟨h, fun e e2 => h0 ⟨e, e2⟩, hs, hf⟩
theorem joined_ok {n none : Nd} {l : List TT} (hn : (n.kind = 4 ∧ none = emptyN) ∨ (n.kind = 5 ∧ none = setN)) (hnk : n = { seqN with kind := n.kind })
    (hl : ∀ y ∈ l, y.kd ≠ n.kind ∧ (n.kind = 4 → y.kd ≠ 0) ∧ shutTT y ∧ fitTT y) : fitTT (joined n none l) ∧ shutTT (joined n none l) := by
  match l with
  | [] =>
    rcases hn with ⟨_, rfl⟩ | ⟨_, rfl⟩
    · exact ⟨fit_leafs.1, shutTT_mk.2 (by simp)⟩
    · exact ⟨fit_leafs.2, shutTT_mk.2 (by simp)⟩
  | [x] => exact ⟨(hl x (by simp)).2.2.2, (hl x (by simp)).2.2.1⟩
  | x :: y :: r =>
    show fitTT (.mk n _) ∧ shutTT (.mk n _)
    refine ⟨fitTT_mk.2 ⟨⟨by rw [hnk]; rfl, ?_⟩, fun t ht => (hl t ht).2.2.2⟩, shutTT_mk.2 fun t ht => ⟨⟨fun e => ?_, fun e => ?_⟩, (hl t ht).2.2.1⟩⟩
    · have h2 := fit_seq (k := (x :: y :: r).length) (by simp)
      rcases hn with ⟨e, _⟩ | ⟨e, _⟩
      · rw [hnk, e]; exact h2.1
      · rw [hnk, e]; exact h2.2
    · have := (hl t ht); rw [e] at this; exact ⟨this.1, this.2.1 rfl⟩
    · have := (hl t ht); rw [e] at this; exact this.1
theorem make_ok {x : TT} : fitTT x → fitTT (makeTT x) ∧ shutTT (makeTT x) := by
  induction x using TT.ind with
  | h n ks ih =>
    intro hf
    obtain ⟨⟨hk, hn⟩, hks⟩ := fitTT_mk.1 hf
    have ih : ∀ t ∈ ks.map makeTT, fitTT t ∧ shutTT t := fun t ht => by
      obtain ⟨k, hk, rfl⟩ := List.mem_map.1 ht
      exact ih k hk (hks k hk)
    have hlen : (ks.map makeTT).length = ks.length := by simp
    rw [makeTT_mk]
    generalize ks.map makeTT = L at *
    unfold joinTT
    split
    · rename_i h4
      refine joined_ok (.inl ⟨h4, rfl⟩) (plain_nd hk hn (.inl h4)).1 fun y hy => ?_
      obtain ⟨z, hz, hy⟩ := List.mem_flatMap.1 hy
      have := open_mem (.inl rfl) (ih z hz).2 (ih z hz).1 hy
      rw [h4]; exact ⟨this.1, fun _ => this.2.1 rfl, this.2.2⟩
    split
    · rename_i h5
      refine joined_ok (.inr ⟨h5, rfl⟩) (plain_nd hk hn (.inr h5)).1 fun y hy => ?_
      obtain ⟨z, hz, hy⟩ := List.mem_flatMap.1 hy
      have := open_mem (.inr rfl) (ih z hz).2 (ih z hz).1 hy
      rw [h5]; exact ⟨this.1, fun e => absurd e (by decide), this.2.2⟩
    · rename_i h4 h5
      exact ⟨fitTT_mk.2 ⟨⟨hk, by rw [hlen]; exact hn⟩, fun t ht => (ih t ht).1⟩, shutTT_mk.2 fun t ht => ⟨⟨fun e => absurd e h4, fun e => absurd e h5⟩, (ih t ht).2⟩⟩
/-- A normal tree stays as it is. -/
theorem make_self {x : TT} : fitTT x → shutTT x → makeTT x = x := by
  induction x using TT.ind with
  | h n ks ih =>
    intro hf hs
    obtain ⟨⟨hk, hn⟩, hks⟩ := fitTT_mk.1 hf
    have hss := shutTT_mk.1 hs
    have e : ks.map makeTT = ks := by
      refine Eq.trans (List.map_congr_left fun t ht => ih t ht (hks t ht) (hss t ht).2) (List.map_id _)
    rw [makeTT_mk, e]
    unfold joinTT
    split
    · rename_i h4
      have h2 := (plain_nd hk hn (.inl h4)).2
      rw [flatMap_self fun t ht => open_other ((hss t ht).1.1 h4).1 (fun _ => ((hss t ht).1.1 h4).2)]
      exact joined_two _ _ (by omega)
    split
    · rename_i h5
      have h2 := (plain_nd hk hn (.inr h5)).2
      rw [flatMap_self fun t ht => open_other ((hss t ht).1.2 h5) (fun e => absurd e (by decide))]
      exact joined_two _ _ (by omega)
    · rfl
theorem make_make {x : TT} (h : fitTT x) : makeTT (makeTT x) = makeTT x := make_self (make_ok h).1 (make_ok h).2

/-! ### paths -/
def atTT : TT → List Int → Option TT
  | x, [] => some x
  | x, k :: p => if 0 ≤ k then (x.kids[k.toNat]?).bind fun y => atTT y p else none
def putTT : TT → List Int → TT → TT
  | _, [], y => y
  | x, k :: p, y => .mk x.nd (x.kids.set k.toNat (putTT ((x.kids[k.toNat]?).getD x) p y))
theorem atTT_cons {x y : TT} {k : Int} {p : List Int} (h : atTT x (k :: p) = some y) : 0 ≤ k ∧ ∃ z, x.kids[k.toNat]? = some z ∧ atTT z p = some y := by
  simp only [atTT] at h
  split at h
  · obtain ⟨z, h1, h2⟩ := Option.bind_eq_some_iff.1 h
    exact ⟨by assumption, z, h1, h2⟩
  · cases h
theorem put_self : ∀ (p : List Int) (x y : TT), atTT x p = some y → putTT x p y = x
  | [], x, y, h => by simp only [atTT, Option.some.injEq] at h; exact h.symm
  | k :: p, x, y, h => by
    obtain ⟨_, z, h1, h2⟩ := atTT_cons h
    simp only [putTT, h1, Option.getD_some, put_self p z y h2]
    obtain ⟨hl, e⟩ := List.getElem?_eq_some_iff.1 h1
    rw [← e, List.set_getElem_self]; exact TT.eta x
theorem at_append : ∀ (p q : List Int) (x : TT), atTT x (p ++ q) = (atTT x p).bind fun y => atTT y q
  | [], q, x => rfl
  | k :: p, q, x => by
    simp only [List.cons_append, atTT]
    split
    · cases x.kids[k.toNat]? with
      | none => rfl
      | some z => exact at_append p q z
    · rfl
theorem put_append : ∀ (p q : List Int) (x y z : TT), atTT x p = some y → putTT x (p ++ q) z = putTT x p (putTT y q z)
  | [], q, x, y, z, h => by simp only [atTT, Option.some.injEq] at h; subst h; rfl
  | k :: p, q, x, y, z, h => by
    obtain ⟨_, u, h1, h2⟩ := atTT_cons h
    simp only [List.cons_append, putTT, h1, Option.getD_some, put_append p q u y z h2]
theorem set_map_eq {α β : Type} {f : α → β} {l : List α} {i : Nat} {a b : α} (h : f a = f b) : (l.set i a).map f = (l.set i b).map f := by
  rw [List.map_set, List.map_set, h]
/-- What is put may be made normal first. -/
theorem make_put : ∀ (p : List Int) (x y : TT), fitTT y → makeTT (putTT x p (makeTT y)) = makeTT (putTT x p y)
  | [], x, y, h => make_make h
  | k :: p, x, y, h => by
    simp only [putTT, makeTT_mk]
    rw [set_map_eq (make_put p _ y h)]
theorem fit_kid {x z : TT} {i : Nat} (h : fitTT x) (hz : x.kids[i]? = some z) : fitTT z := by
  cases x with
  | mk n ks => exact (fitTT_mk.1 h).2 z (List.mem_of_getElem? hz)
theorem fit_at : ∀ (p : List Int) (x y : TT), fitTT x → atTT x p = some y → fitTT y
  | [], x, y, h, e => by simp only [atTT, Option.some.injEq] at e; exact e ▸ h
  | k :: p, x, y, h, e => by
    obtain ⟨_, z, h1, h2⟩ := atTT_cons e
    exact fit_at p z y (fit_kid h h1) h2
theorem fit_put : ∀ (p : List Int) (x y z : TT), fitTT x → atTT x p = some y → fitTT z → fitTT (putTT x p z)
  | [], x, y, z, _, _, h => h
  | k :: p, x, y, z, hx, e, h => by
    obtain ⟨_, u, h1, h2⟩ := atTT_cons e
    cases x with
    | mk n ks =>
      obtain ⟨⟨hk, hn⟩, hks⟩ := fitTT_mk.1 hx
      simp only [putTT, h1, Option.getD_some]
      refine fitTT_mk.2 ⟨⟨hk, by rw [List.length_set]; exact hn⟩, fun t ht => ?_⟩
      rcases List.mem_or_eq_of_mem_set ht with ht | rfl
      · exact hks t ht
      · exact fit_put p u y z (fit_kid hx h1) h2 h
end Go.Proofs.YtfncfmiccomgcaaDoor
