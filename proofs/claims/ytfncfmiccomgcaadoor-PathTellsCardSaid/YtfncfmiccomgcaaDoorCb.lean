/- Plain: a tree by what it denotes; what the reference puts together. The contract of bonsairef04.Root. -/
import Derived.Test.YtfncfmiccomgcaaDoorBf
import Derived.Deep.DeepCutAuto
import Derived.Deep.Cut
import Derived.Deep.CutRange
import Derived.Deep.RegionHeld3
namespace Go.Proofs.YtfncfmiccomgcaaDoor
open Go.RowKit
set_option linter.unusedSimpArgs false
set_option linter.unusedVariables false

/-- The tree v denotes x. -/
def Dn (x : TT) (T : Tr) : Prop := rightT T = true ∧ denT T = x
theorem Dn.right {x : TT} {T : Tr} (h : Dn x T) : rightP T := (rightT_iff _).1 h.1
theorem Dn.fit {x : TT} {T : Tr} (h : Dn x T) : fitTT x := h.2 ▸ fit_denT h.1
theorem Dn.of {x : TT} (h : fitTT x) : Dn x (treeOf x) := ⟨rightT_treeOf h, den_treeOf h⟩
theorem Dn.len {x : TT} {T : Tr} (h : Dn x T) : T.nodes.length = szTT x := by
  have hR := h.right
  have hr : T.root.toNat < T.nodes.length := by have := hR.1; omega
  rw [← h.2]
  show _ = szTT (den T.nodes T.root.toNat)
  unfold szTT
  rw [← taken_flat (rightP_ahead hR) _ (post_nodup hR _ hr), taken_length, root_length hR]
theorem flat_len {α β : Type} (f : α → List β) (n : Nat) : ∀ l : List α, (∀ x ∈ l, (f x).length ≤ n) → (l.flatMap f).length ≤ l.length * n
  | [], _ => by simp
  | x :: l, h => by
    have h1 := flat_len f n l (fun y hy => h y (List.mem_cons_of_mem _ hy))
    have h2 := h x List.mem_cons_self
    rw [List.flatMap_cons, List.length_append, List.length_cons, Nat.add_mul]; omega
theorem Dn.kids {x : TT} {T : Tr} (h : Dn x T) : (∀ n ∈ T.nodes, n.kids.length ≤ szTT x) ∧ (kidsOf T.nodes).length ≤ szTT x * szTT x := by
  have h1 : ∀ n ∈ T.nodes, n.kids.length ≤ szTT x := fun n hn => by
    obtain ⟨i, hi⟩ := List.mem_iff_getElem?.1 hn
    have h2 := right_kids_len h.right hi
    have h3 := (List.getElem?_eq_some_iff.1 hi).1
    have := h.len; omega
  refine ⟨h1, ?_⟩
  have h2 := flat_len Nd.kids (szTT x) T.nodes h1
  rw [h.len] at h2; exact h2
theorem Dn.node {x : TT} {T : Tr} (h : Dn x T) : x = .mk (bareN (ndAt T.nodes T.root.toNat)) ((kidsAt T.nodes T.root.toNat).map (den T.nodes)) := by
  have h1 := h.2
  show x = _
  rw [← h1]; exact den_eq (rightP_ahead h.right) _
/-- What stands at a node. -/
theorem Dn.sub {x : TT} {T : Tr} (h : Dn x T) {k : Nat} (hk : k < T.nodes.length) : takenT T k = treeOf (den T.nodes k) ∧ fitTT (den T.nodes k) :=
  ⟨takenT_of (rightP_ahead h.right) (post_nodup h.right _ hk), right_fit h.right _ hk⟩
theorem sz_kid {n : Nd} {ks : List TT} {k : TT} (h : k ∈ ks) : szTT k < szTT (.mk n ks) := by rw [sz_mk]; have := sz_mem ks k h; omega

/-! ### what is put together -/
theorem put_cat : ∀ (ks : List Tr) (ar : List Nd) (li : List Int), (∀ k ∈ ks, rightT k = true) → putTs ks ar li = (ar ++ catN ar.length (ks.map fun k => flatT (denT k)), li ++ endsN ar.length (ks.map fun k => flatT (denT k)))
  | [], ar, li, _ => by simp [putTs, catN, endsN]
  | k :: ks, ar, li, h => by
    have hR := (rightT_iff _).1 (h k List.mem_cons_self)
    have hr : k.root.toNat < k.nodes.length := by have := hR.1; omega
    have e : takenL k.nodes k.root.toNat = flatT (denT k) := taken_flat (rightP_ahead hR) _ (post_nodup hR _ hr)
    have e2 : (moveN (ar.length : Int)) = shiftN ar.length := rfl
    have hl := flat_ne (denT k)
    rw [putTs, e, e2, put_cat ks _ _ (fun k hk => h k (List.mem_cons_of_mem _ hk))]
    simp only [List.map_cons, catN, endsN, List.length_append, List.length_map, List.append_assoc, List.singleton_append, List.cons_append, List.nil_append, Prod.mk.injEq, and_self]
theorem ofT_tree {n : Nd} {ks : List Tr} (h : ∀ k ∈ ks, rightT k = true) : ofT n ks = treeOf (.mk n (ks.map denT)) := by
  unfold ofT treeOf
  rw [put_cat ks [] [] h, flatT_mk, List.map_map]
  simp only [List.nil_append, List.length_nil, List.length_append, List.length_singleton, Tr.mk.injEq]
  refine ⟨rfl, ?_⟩
  have : ((catN 0 (ks.map fun k => flatT (denT k))).length : Int) = ((catN 0 (List.map (flatT ∘ denT) ks)).length : Int) := rfl
  omega
/-- A row of trees, and what they denote. -/
def DnL (xs : List TT) (ks : List Lt) : Prop := ks.map (fun k => denT k.tr) = xs ∧ ∀ k ∈ ks, rightT k.tr = true
theorem DnL.len {xs : List TT} {ks : List Lt} (h : DnL xs ks) : ks.length = xs.length := by rw [← h.1]; simp
theorem DnL.at {xs : List TT} {ks : List Lt} (h : DnL xs ks) (i : Nat) (hi : i < ks.length) : Dn (xs[i]'(by rw [← h.len]; exact hi)) ks[i].tr := by
  refine ⟨h.2 _ (List.getElem_mem hi), ?_⟩
  have h1 := h.1
  subst h1
  simp
theorem DnL.app {xs ys : List TT} {ks ls : List Lt} (h : DnL xs ks) (g : DnL ys ls) : DnL (xs ++ ys) (ks ++ ls) :=
  ⟨by rw [List.map_append, h.1, g.1], fun k hk => (List.mem_append.1 hk).elim (h.2 k) (g.2 k)⟩
theorem DnL.nil : DnL [] [] := ⟨rfl, fun _ h => by cases h⟩
theorem DnL.one {x : TT} {k : Lt} (h : Dn x k.tr) : DnL [x] [k] := ⟨by simp [h.2], fun j hj => by rw [List.mem_singleton.1 hj]; exact h.1⟩
theorem DnL.fit {xs : List TT} {ks : List Lt} (h : DnL xs ks) : ∀ x ∈ xs, fitTT x := fun x hx => by
  rw [← h.1] at hx
  obtain ⟨k, hk, rfl⟩ := List.mem_map.1 hx
  exact fit_denT (h.2 k hk)
theorem DnL.of {xs : List TT} {ks : List Lt} (h : DnL xs ks) (n : Nd) (hf : fitN n xs.length = true) : okT n (ks.map Lt.tr) = true ∧ ofT n (ks.map Lt.tr) = treeOf (.mk n xs) := by
  refine ⟨?_, ?_⟩
  · unfold okT
    rw [List.length_map, h.len, hf, Bool.true_and, List.all_eq_true]
    intro T hT
    obtain ⟨k, hk, rfl⟩ := List.mem_map.1 hT
    exact h.2 k hk
  · rw [ofT_tree (fun T hT => by obtain ⟨k, hk, rfl⟩ := List.mem_map.1 hT; exact h.2 k hk), List.map_map]
    congr 2
    exact h.1
theorem DnL.sum {xs : List TT} {ks : List Lt} (h : DnL xs ks) : (ks.map fun t => t.ls.length).sum = szs xs := by
  rw [← h.1]
  unfold szs
  rw [List.map_map]
  congr 1
  refine List.map_congr_left fun k hk => ?_
  have h1 := (show Dn (denT k.tr) k.tr from ⟨h.2 k hk, rfl⟩).len
  simpa [Lt.tr] using h1

set_option maxRecDepth 100000 in
set_option maxHeartbeats 3200000 in
theorem rroot_any (A : Option Addr) (c : Nat) (ls : List Ln) (root : Nat) (S : Nat → Prop) (w : World) (hT : ndL.row w S A ls) (hl : ls.length ≤ 16777216) (hkl : ∀ l ∈ ls, l.nd.kids.length ≤ 4294967296) (hks : (kidsOf (ls.map Ln.nd)).length ≤ 4611686018427387904) (hr : rightP ⟨ls.map Ln.nd, root⟩) (hn : root < ls.length) :
    Calls Tryd.prog 47 #[.agg #[.slice A ls.length c, .int .i64 root]] w fun e w' => e = .returned (ndV ls[root].nd (.slice none 0 0)) ∧ Below w.heap.size w w' := by
  have HB0 := Lib.hid (bx2 w (.cells #[.slice A ls.length c, .int .i64 root] 24) (.cells #[.int .u8 0, .int .u64 0, .int .u64 0, .int .u64 0, .int .u64 0, .string ByteArray.empty, .int .i64 0, .int .i64 0, .slice none 0 0] 56))
  have HK0 := Lib.hid (bx_old (p := .cells #[.int .u8 0, .int .u64 0, .int .u64 0, .int .u64 0, .int .u64 0, .string ByteArray.empty, .int .i64 0, .int .i64 0, .slice none 0 0] 56) (bx_new w (.cells #[.slice A ls.length c, .int .i64 root] 24)))
  have HR0 := bx_new (w.alloc (.cells #[.slice A ls.length c, .int .i64 root] 24)) (.cells #[.int .u8 0, .int .u64 0, .int .u64 0, .int .u64 0, .int .u64 0, .string ByteArray.empty, .int .i64 0, .int .i64 0, .slice none 0 0] 56)
  rw [World.size_alloc] at HR0
  have HR0 := Lib.hid HR0
  have HZ0 := Lib.hid (show w.heap.size + 2 ≤ ((w.alloc (.cells #[.slice A ls.length c, .int .i64 root] 24)).alloc (.cells #[.int .u8 0, .int .u64 0, .int .u64 0, .int .u64 0, .int .u64 0, .string ByteArray.empty, .int .i64 0, .int .i64 0, .slice none 0 0] 56)).heap.size from by simp)
  have HT := Lib.hid hT; have HKL := Lib.hid hkl; have HKS := Lib.hid hks
  have HRT := Lib.hid ((rightT_iff _).2 hr)
  clear hT hkl hks hr
  generalize hnn : ls[root] = n
  have HNN := Lib.hid hnn
  obtain ⟨⟨kd, a0, a1, a2, a3, tx, mn, mx, ki⟩, KA, Kc⟩ := n
  clear hnn
  go_enter Tryd.func47, Tryd.ntmps47
  go_wp2_with fail
  refine (rright_any A c ls root S _ (HT.out.below HB0.out) (by omega) HKL.out HKS.out).mono ?_
  rw [HRT.out]
  rintro e w1 ⟨rfl, hb⟩
  have HB1 := Lib.hid (Below.step HB0.out hb); have HK1 := Lib.hid (bx_kept hb HK0.out); have HR1 := Lib.hid (bx_kept hb HR0.out)
  have HZ1 := Lib.hid (show w.heap.size + 2 ≤ w1.heap.size from by have := hb.size; have := HZ0.out; omega)
  clear hb HB0 HK0 HR0 HZ0
  obtain ⟨s1, s2, _, _⟩ := blk2 HK1.out
  obtain ⟨b, o, rfl, hSb, hlt, x0, x1, x2, x3, x4, x5, x6, x7, x8⟩ := ndRow (HT.out.below HB1.out) root hn
  have i1 : (root : Int) < (ls.length : Int) := by omega
  have i2 : (0 : Int) ≤ (root : Int) := by omega
  simp only [HNN.out] at x0 x1 x2 x3 x4 x5 x6 x7 x8
  have HBL := Lib.hid hlt
  have HNS := Lib.hid (bx_new w1 (.cells #[.int .u8 kd, .int .u64 a0, .int .u64 a1, .int .u64 a2, .int .u64 a3, .string tx, .int .i64 mn, .int .i64 mx, .slice none 0 0] 56))
  have HR3 := Lib.hid (bx_old (p := (.cells #[.int .u8 kd, .int .u64 a0, .int .u64 a1, .int .u64 a2, .int .u64 a3, .string tx, .int .i64 mn, .int .i64 mx, .slice none 0 0] 56)) HR1.out)
  have HB3 := Lib.hid (HB1.out.alloc HB1.out.size (.cells #[.int .u8 kd, .int .u64 a0, .int .u64 a1, .int .u64 a2, .int .u64 a3, .string tx, .int .i64 mn, .int .i64 mx, .slice none 0 0] 56))
  go_upto_region 5 with (fail)
  generalize w1.alloc (.cells #[.int .u8 kd, .int .u64 a0, .int .u64 a1, .int .u64 a2, .int .u64 a3, .string tx, .int .i64 mn, .int .i64 mx, .slice none 0 0] 56) = W2 at *
  obtain ⟨n0, n1, n2, n3, n4, n5, n6, n7, n8, _⟩ := blk9 HNS.out
  obtain ⟨m0, m1, m2, m3, m4, m5, m6, m7, m8, f0, f1, f2, f3, f4, f5, f6, f7, f8⟩ := blk9 HR3.out
  clear x0 x1 x2 x3 x4 x5 x6 x7 x8 HR1 HK1
  go_wp2_with fail
  refine bodyPost_ret (v := .agg #[.int .u8 kd, .int .u64 a0, .int .u64 a1, .int .u64 a2, .int .u64 a3, .string tx, .int .i64 mn, .int .i64 mx, .slice none 0 0]) (by simp [results, Tryd.results47, go_sem, m0, m1, m2, m3, m4, m5, m6, m7, m8]) rfl ?_
  refine ⟨rfl, ?_⟩
  have hb9 : ∀ (u : World) (k : Nat) (v : Value), Below w.heap.size w u → Below w.heap.size w (u.setCell ⟨w.heap.size + 1, k, none⟩ v) := fun u k v h => h.setCell (p := ⟨w.heap.size + 1, k, none⟩) (by simp) v
  exact hb9 _ 8 _ (hb9 _ 7 _ (hb9 _ 6 _ (hb9 _ 5 _ (hb9 _ 4 _ (hb9 _ 3 _ (hb9 _ 2 _ (hb9 _ 1 _ (hb9 _ 0 _ HB3.out))))))))
end Go.Proofs.YtfncfmiccomgcaaDoor

/- The contract of bonsairef04.Kids. -/
namespace Go.Proofs.YtfncfmiccomgcaaDoor
open Go.RowKit
set_option linter.unusedSimpArgs false
set_option linter.unusedVariables false

theorem LiesO.mono {a b : Nat} {w : World} {T : Tr} {A : Option Addr} {c : Nat} {ls : List Ln} {r : Int} (h : LiesO b w T A c ls r) (hab : a ≤ b) : LiesO a w T A c ls r := ⟨h.1.mono (fun x _ hx => Nat.le_trans hab hx), h.2⟩
theorem LiesO.below {b : Nat} {w w' : World} {T : Tr} {A : Option Addr} {c : Nat} {ls : List Ln} {r : Int} (h : LiesO b w T A c ls r) (hb : Below w.heap.size w w') : LiesO b w' T A c ls r := ⟨h.1.below hb, h.2⟩
theorem box_lateO {B g : Nat} {wc wd : World} {b : Nat} {x y : Value} {R : Tr} {A : Option Addr} {c : Nat} {ls : List Ln} {r : Int} (hg : wd.heap[g]? = some (.cells #[x, y] 24 (0, 0))) (hgl : g < b) (hl : LiesO b wd R A c ls r) (hb : Below B wc wd) (hB : B ≤ g) :
    ((wd.setCell ⟨g, 0, none⟩ (.slice A ls.length c)).setCell ⟨g, 1, none⟩ (.int .i64 r)).heap[g]? = some (.cells #[.slice A ls.length c, .int .i64 r] 24 (0, 0)) ∧ LiesO b ((wd.setCell ⟨g, 0, none⟩ (.slice A ls.length c)).setCell ⟨g, 1, none⟩ (.int .i64 r)) R A c ls r ∧ Below B wc ((wd.setCell ⟨g, 0, none⟩ (.slice A ls.length c)).setCell ⟨g, 1, none⟩ (.int .i64 r)) := by
  have hs : ∀ y, y ≠ g → ((wd.setCell ⟨g, 0, none⟩ (.slice A ls.length c)).setCell ⟨g, 1, none⟩ (.int .i64 r)).heap[y]? = wd.heap[y]? := fun y hy => (Below.heap_setCell _ _ _ _ hy).trans (Below.heap_setCell _ _ _ _ hy)
  refine ⟨set_two hg, ⟨hl.1.agree (fun y hy _ => hs y (by have hy : b ≤ y := hy; omega)), hl.2⟩, (hb.setCell (p := ⟨g, 0, none⟩) hB _).setCell (p := ⟨g, 1, none⟩) hB _⟩
theorem box_newO {B : Nat} {wc wd : World} {R : Tr} {A : Option Addr} {c : Nat} {ls : List Ln} {r : Int} {b : Nat} (hl : LiesO b wd R A c ls r) (hb : Below B wc wd) (hB : B ≤ wd.heap.size) :
    (wd.alloc (.cells #[.slice A ls.length c, .int .i64 r] 24)).heap[wd.heap.size]? = some (.cells #[.slice A ls.length c, .int .i64 r] 24 (0, 0)) ∧ LiesO b (wd.alloc (.cells #[.slice A ls.length c, .int .i64 r] 24)) R A c ls r ∧ Below B wc (wd.alloc (.cells #[.slice A ls.length c, .int .i64 r] 24)) :=
  ⟨bx_new wd _, hl.below (bx1 wd _), hb.alloc hB _⟩
theorem sq_le {n m : Nat} (h : m ≤ n * n) (hs : n ≤ 100000) : m ≤ 4611686018427387904 := by
  have h2 : n * n ≤ 100000 * 100000 := Nat.mul_le_mul hs hs
  omega
/-- What lies there denotes x. -/
theorem rright_dn {w : World} {x : TT} {T : Tr} {A : Option Addr} {c : Nat} {ls : List Ln} {r : Int} (hT : Lies w T A c ls r) (hd : Dn x T) (hs : szTT x ≤ 100000) :
    Calls Tryd.prog 27 #[.agg #[.slice A ls.length c, .int .i64 r]] w fun e w' => e = .returned (.bool true) ∧ Below w.heap.size w w' := by
  have hl := hT.len
  rw [hd.len] at hl
  have hk := hd.kids
  rw [← hT.2] at hk hd
  have h := rright_any A c ls r _ w hT.1 (by omega) (fun l hl' => by have := hk.1 l.nd (List.mem_map.2 ⟨l, hl', rfl⟩); omega) (sq_le hk.2 hs)
  rw [hd.1] at h; exact h
theorem rsub_dn {w : World} {x : TT} {T : Tr} {A : Option Addr} {c : Nat} {ls : List Ln} {r : Int} (hT : Lies w T A c ls r) (hd : Dn x T) (hs : szTT x ≤ 100000) (k : Nat) (hk : k < ls.length) :
    Calls Tryd.prog 28 #[.agg #[.slice A ls.length c, .int .i64 r], .int .i64 k] w (TupPost (treeOf (den T.nodes k)) w) := by
  have hl := hT.len
  have hl2 := hl
  rw [hd.len] at hl
  have hk2 := hd.kids
  have hsb := hd.sub (k := k) (by omega)
  rw [← hT.2] at hk2 hd hsb ⊢
  refine (rsub_any A c ls r k _ w hT.1 (by omega) (fun l hl' => by have := hk2.1 l.nd (List.mem_map.2 ⟨l, hl', rfl⟩); omega) (sq_le hk2.2 hs) hd.right hk).mono ?_
  rintro e w' ⟨⟨A', c', ls', r'⟩, rfl, h1, h2, h3⟩
  exact ⟨A', c', ls', r', rfl, ⟨h2.inn.2, h1.trans hsb.1⟩, h3⟩
theorem rroot_dn {w : World} {x : TT} {T : Tr} {A : Option Addr} {c : Nat} {ls : List Ln} {r : Int} (hT : Lies w T A c ls r) (hd : Dn x T) (hs : szTT x ≤ 100000) :
    Calls Tryd.prog 47 #[.agg #[.slice A ls.length c, .int .i64 r]] w fun e w' => e = .returned (ndV x.nd (.slice none 0 0)) ∧ Below w.heap.size w w' := by
  have hl := hT.len
  have hl2 := hl
  rw [hd.len] at hl
  have hk2 := hd.kids
  have hR := hd.right
  have hnd := hd.node
  rw [← hT.2] at hk2 hd hR hnd
  have hr := hR.1
  simp only [List.length_map] at hr
  obtain ⟨rn, rfl⟩ := Int.eq_ofNat_of_zero_le hr.1
  have hrn : rn < ls.length := by omega
  have h := rroot_any A c ls rn _ w hT.1 (by omega) (fun l hl' => by have := hk2.1 l.nd (List.mem_map.2 ⟨l, hl', rfl⟩); omega) (sq_le hk2.2 hs) hR hrn
  have e : ndV x.nd (.slice none 0 0) = ndV ls[rn].nd (.slice none 0 0) := by
    rw [hnd]
    simp [TT.nd, ndV, bareN, ndAt, hrn]
  rw [e]; exact h
theorem infoTreeC : (Tryd.prog.info? 24).map (fun i => (i.zero, i.size, i.bytes)) = some (some (.agg #[.slice none 0 0, .int .i64 0]), 2, 32) := by kernel_rfl
/-- A row of trees of the call's own. -/
def RowPost (xs : List TT) (w : World) (e : Ending) (w' : World) : Prop := ∃ (V : Option Addr) (vc : Nat) (ks : List Lt), e = .returned (.slice V ks.length vc) ∧ DnL xs ks ∧ w'.ownsRow w.heap.size 24 2 (.slice V ks.length vc) ks.length (ttL.all ks) ∧ (∀ k ∈ ks, k.inn w' (fun b => w.heap.size ≤ b ∧ blkOf V ≠ some b)) ∧ Below w.heap.size w w'
def RkRel (w : World) (bx : Obj) (xs : List TT) (v3 v5 : Value) (wr : World) : Prop :=
  ∃ (k : Nat) (V : Option Addr) (vc : Nat) (ks : List Lt), k ≤ xs.length ∧ v5 = .int .i64 k ∧ v3 = .slice V k vc ∧ Hid (DnL (xs.take k) ks) ∧ Hid (wr.ownsRow (w.heap.size + 1) 24 2 (.slice V k vc) k (ttL.all ks)) ∧ Hid (∀ j ∈ ks, j.inn wr (fun b => w.heap.size + 1 ≤ b ∧ blkOf V ≠ some b)) ∧ Hid (wr.heap[w.heap.size]? = some bx) ∧ Hid (w.heap.size + 1 ≤ wr.heap.size) ∧ Hid (Below w.heap.size w wr)
/-- One more tree in a row of the call's own. -/
theorem row_more {wr wx w5 : World} {V V' : Option Addr} {ks : List Lt} {A : Option Addr} {c : Nat} {ls : List Ln} {r : Int} {T : Tr} {H : Nat} (hK : ∀ j ∈ ks, j.inn wr (fun b => H ≤ b ∧ blkOf V ≠ some b)) (hV : ∀ y, blkOf V = some y → y < wr.heap.size) (hb : Below wr.heap.size wr wx) (hl : LiesO wr.heap.size wx T A c ls r) (hH : H ≤ wr.heap.size) (hll : ls.length ≤ 281474976710656)
    (hg : wx.grownBy w5 (blkOf V)) (hv : blkOf V' = blkOf V ∨ blkOf V' = some wx.heap.size) : ∀ j ∈ ks ++ [⟨A, c, ls, r⟩], j.inn w5 (fun b => H ≤ b ∧ blkOf V' ≠ some b) := fun j hj => by
  have hz := hb.size
  have hne : ∀ b, b < wx.heap.size → blkOf V ≠ some b → blkOf V' ≠ some b := fun b h1 h2 e => by
    rcases hv with h | h
    · exact h2 (h ▸ e)
    · rw [h] at e; injection e with e; omega
  rcases List.mem_append.1 hj with hj | hj
  · have h1 := (hK j hj).mono (T := fun b => (H ≤ b ∧ blkOf V ≠ some b) ∧ b < wr.heap.size) (fun b a h => ⟨h, a⟩)
    exact ((h1.below hb).agree (fun b hy _ => hg.block b (by omega) (fun e => hy.1.2 e.symm))).mono (fun b _ hy => ⟨hy.1.1, hne b (by omega) hy.1.2⟩)
  · obtain rfl := List.mem_singleton.1 hj
    have h1 : Lt.inn wx (fun b => wr.heap.size ≤ b ∧ b < wx.heap.size) ⟨A, c, ls, r⟩ := ⟨hll, hl.1.mono (fun b a h => ⟨h, a⟩)⟩
    have hnv : ∀ b, wr.heap.size ≤ b → blkOf V ≠ some b := fun b h e => by have := hV b e; omega
    exact (h1.agree (fun b hy _ => hg.block b hy.2 (fun e => hnv b hy.1 e.symm))).mono (fun b _ hy => ⟨by omega, hne b hy.2 (hnv b hy.1)⟩)
set_option maxRecDepth 100000 in
set_option maxHeartbeats 12800000 in
theorem rkids_dn {w : World} {x : TT} {T : Tr} {A : Option Addr} {c : Nat} {ls : List Ln} {r : Int} (hT : Lies w T A c ls r) (hd : Dn x T) (hs : szTT x ≤ 100000) :
    Calls Tryd.prog 45 #[.agg #[.slice A ls.length c, .int .i64 r]] w (RowPost x.kids w) := by
  obtain ⟨j0, hj, hy0, hy1, hy2⟩ := info_parts infoTreeC
  have HT := Lib.hid hT; have HD := Lib.hid hd
  have hl := hT.len
  have hR := hd.right
  have hr : 0 ≤ r ∧ r.toNat < ls.length := by
    have h := hR.1
    rw [← hT.2] at h
    simp only [List.length_map] at h
    omega
  have hll : ls.length ≤ 100000 := by have := hd.len; omega
  obtain ⟨rn, rfl⟩ := Int.eq_ofNat_of_zero_le hr.1
  have hrn : rn < ls.length := by omega
  have hnd := hd.node
  have hTn : T.nodes = ls.map Ln.nd ∧ T.root.toNat = rn := by rw [← hT.2]; exact ⟨rfl, by simp⟩
  rw [hTn.2] at hnd
  have HX := Lib.hid (show x.kids = (kidsAt T.nodes rn).map (den T.nodes) from by rw [hnd]; rfl)
  have HKA := Lib.hid (show kidsAt T.nodes rn = ls[rn].nd.kids.map Int.toNat from by rw [kidsAt_nd, hTn.1]; simp [ndAt, hrn])
  have HLT := Lib.hid (show ∀ k ∈ ls[rn].nd.kids, 0 ≤ k ∧ k < (ls.length : Int) from fun k hk => by
    have h := rightP_kid hR (i := rn) (n := ls[rn].nd) (by rw [hTn.1]; simp [hrn]) hk
    omega)
  have HKN := Lib.hid (show ls[rn].nd.kids.length ≤ 100000 from by
    have h := hd.kids.1 ls[rn].nd (by rw [hTn.1]; exact List.mem_map.2 ⟨ls[rn], List.getElem_mem hrn, rfl⟩)
    omega)
  have HKR := Lib.hid (ndSub hT.1 rn hrn)
  have HB0 := Lib.hid (bx1 w (.cells #[.slice A ls.length c, .int .i64 (rn : Int)] 24))
  have HK0 := Lib.hid (bx_new w (.cells #[.slice A ls.length c, .int .i64 (rn : Int)] 24))
  have HZ0 := Lib.hid (show w.heap.size + 1 ≤ (w.alloc (.cells #[.slice A ls.length c, .int .i64 (rn : Int)] 24)).heap.size from by simp)
  clear hT hd hr hR hl hnd hTn
  go_enter Tryd.func45, Tryd.ntmps45
  go_upto_region 1 with (fail)
  generalize w.alloc (.cells #[.slice A ls.length c, .int .i64 (rn : Int)] 24) = W0 at *
  obtain ⟨q0, q1, _, _⟩ := blk2 HK0.out
  go_wp2_with fail
  refine (rright_dn (c := c) (HT.out.below HB0.out) HD.out hs).mono ?_
  rintro e w1 ⟨rfl, hb⟩
  have HB1 := Lib.hid (Below.step HB0.out hb); have HK1 := Lib.hid (bx_kept hb HK0.out); have HZ1 := Lib.hid (Nat.le_trans HZ0.out hb.size)
  clear hb HB0 HK0 HZ0 q0 q1
  obtain ⟨q0, q1, _, _⟩ := blk2 HK1.out
  have HHT := Lib.hid (HT.out.below HB1.out)
  obtain ⟨nb, no, rfl, _, hlt, x0, x1, x2, x3, x4, x5, x6, x7, x8⟩ := ndRow HHT.out.1 rn hrn
  have i1 : (rn : Int) < (ls.length : Int) := by omega
  have i2 : (0 : Int) ≤ (rn : Int) := by omega
  have HKR1 := Lib.hid (HKR.out.below HB1.out)
  generalize ls[rn] = nd at *
  obtain ⟨⟨kd, a0, a1, a2, a3, tx, mn, mx, ki⟩, KA, Kc⟩ := nd
  simp only at x8 HKA HLT HKN HKR HKR1
  clear x0 x1 x2 x3 x4 x5 x6 x7
  have hkn := HKN.out
  have HXL := Lib.hid (show x.kids.length = ki.length from by rw [HX.out, HKA.out]; simp)
  go_wp2_with fail
  clear x8 q0 q1
  go_loopw [3, 5] (fun v3 v5 wr => RkRel w (.cells #[.slice (some ⟨nb, no, none⟩) ls.length c, .int .i64 (rn : Int)] 24 (0, 0)) x.kids v3 v5 wr) (fun _ v5 _ => x.kids.length - (intOf v5).toNat)
  case atStart => exact ⟨0, none, 0, [], Nat.zero_le _, rfl, rfl, Lib.hid DnL.nil, Lib.hid (World.ownsRow_nil _ _ _ _), Lib.hid (fun _ h => by cases h), HK1, HZ1, HB1⟩
  case round =>
    clear HK1 HZ1
    obtain ⟨k, V, vc, ks, hk, rfl, rfl, HDL, HO, HIN, HK, HZ, HB⟩ := hrel
    by_cases hk1 : k < ki.length
    · have i3 : (k : Int) < (ki.length : Int) := by omega
      have i4 : (0 : Int) ≤ (k : Int) := by omega
      obtain ⟨kb, ko, hKA, _, hkb, z0⟩ := intRow (HKR.out.below HB.out) k hk1
      subst hKA
      have hkz := HLT.out ki[k] (List.getElem_mem hk1)
      obtain ⟨kn, hkn'⟩ := Int.eq_ofNat_of_zero_le hkz.1
      have HKD := Lib.hid (show x.kids.take (k + 1) = x.kids.take k ++ [den T.nodes kn] from by
        rw [List.take_succ_eq_append_getElem (by rw [HXL.out]; exact hk1)]
        congr 2
        have h1 : x.kids[k]? = some (den T.nodes kn) := by rw [HX.out, HKA.out]; simp [hk1, hkn']
        exact (List.getElem?_eq_some_iff.1 h1).2)
      rw [hkn'] at z0 hkz
      clear hkn'
      have hkl : kn < ls.length := by omega
      have HFK := Lib.hid (show fitTT (den T.nodes kn) from (HD.out.sub (by have := HT.out.len; omega)).2)
      have HVt := Lib.hid (HT.out.below HB.out)
      have HSB := Lib.hid (show ∀ w', Below wr.heap.size wr w' → w'.cell? ⟨w.heap.size, 0, none⟩ = some (.slice (some ⟨nb, no, none⟩) ls.length c) ∧ w'.cell? ⟨w.heap.size, 1, none⟩ = some (.int .i64 (rn : Int)) ∧ w'.cell? ⟨kb, ko + k, none⟩ = some (.int .i64 (kn : Int)) from fun w' h => by
        obtain ⟨q0, q1, _, _⟩ := blk2 (bx_kept h HK.out)
        exact ⟨q0, q1, (h.cell (cellLt z0)).trans z0⟩)
      have HBs := Lib.hid (Below.refl wr.heap.size wr)
      go_upto_region 8 with (fail)
      clear z0
      go_cut [6] from 24 to 32 (fun v6 wx => ∃ (g : Nat) (A4 : Option Addr) (c4 : Nat) (l4 : List Ln) (r4 : Int), v6 = .pointer (some ⟨g, 0, none⟩) ∧ Hid (wx.heap[g]? = some (.cells #[.slice A4 l4.length c4, .int .i64 r4] 24 (0, 0))) ∧ Hid (LiesO wr.heap.size wx (treeOf (den T.nodes kn)) A4 c4 l4 r4) ∧ Hid (Below wr.heap.size wr wx))
      case first =>
        go_region_held3 (fun w' => w'.cell? ⟨w.heap.size, 0, none⟩ = some (.slice (some ⟨nb, no, none⟩) ls.length c) ∧ w'.cell? ⟨w.heap.size, 1, none⟩ = some (.int .i64 (rn : Int)) ∧ w'.cell? ⟨kb, ko + k, none⟩ = some (.int .i64 (kn : Int)))
          (exact HSB.out _ (by first | exact HBs.out | exact HBs.out.drew | exact below_al18 HBs.out _ (Nat.le_refl _) | exact below_al18 HBs.out.drew _ (Nat.le_refl _) | exact (below_al18 HBs.out _ (Nat.le_refl _)).drew | exact (HBs.out.setCell (p := ⟨_, 0, none⟩) (Nat.le_refl _) _).setCell (p := ⟨_, 1, none⟩) (Nat.le_refl _) _))
          (first
            | (go_at_call 28; (with_reducible refine (rsub_dn (c := c) (HVt.out.below (by first | exact HBs.out | exact HBs.out.drew | exact below_al18 HBs.out _ (Nat.le_refl _) | exact below_al18 HBs.out.drew _ (Nat.le_refl _) | exact (below_al18 HBs.out _ (Nat.le_refl _)).drew | exact (HBs.out.setCell (p := ⟨_, 0, none⟩) (Nat.le_refl _) _).setCell (p := ⟨_, 1, none⟩) (Nat.le_refl _) _)) HD.out hs kn hkl).mono ?_); rintro e wd ⟨A4, c4, l4, r4, rfl, hlq, hbq⟩; have HLh := Lib.hid hlq; have HBS' := Lib.hid (Below.step (by first | exact HBs.out | exact HBs.out.drew | exact below_al18 HBs.out _ (Nat.le_refl _) | exact below_al18 HBs.out.drew _ (Nat.le_refl _) | exact (below_al18 HBs.out _ (Nat.le_refl _)).drew | exact (HBs.out.setCell (p := ⟨_, 0, none⟩) (Nat.le_refl _) _).setCell (p := ⟨_, 1, none⟩) (Nat.le_refl _) _) hbq); clear HBs; have HBs := HBS'; clear HBS'; (first | ((with_reducible have HXg := Lib.hid (keptA hbq hlq)); obtain ⟨s0, s1, s2, s3⟩ := blk2 HXg.out.1) | ((with_reducible have HXg := Lib.hid (keptB hbq hlq)); obtain ⟨s0, s1, s2, s3⟩ := blk2 HXg.out.1) | skip); clear hbq hlq)
            | fail)
        all_goals go_wp2_with fail
        all_goals go_meet
        all_goals first
          | (have hq := box_newO HLh.out HBs.out HBs.out.size; exact ⟨_, A4, c4, l4, r4, rfl, Lib.hid hq.1, Lib.hid (LiesO.mono hq.2.1 (Nat.le_refl _)), Lib.hid hq.2.2⟩)
          | (have hq := box_lateO HXg.out.1 (Nat.lt_succ_self _) HXg.out.2 HBs.out (Nat.le_refl _); exact ⟨_, A4, c4, l4, r4, rfl, Lib.hid hq.1, Lib.hid (LiesO.mono hq.2.1 (Nat.le_succ _)), Lib.hid hq.2.2⟩)
      case rest =>
        obtain ⟨g, A4, c4, l4, r4, rfl, HG, HL4, HR⟩ := hcut
        have HLL := Lib.hid (show l4.length ≤ 281474976710656 from by
          have h1 := HL4.out.lies.len
          rw [sz_treeOf] at h1
          have h4 : den T.nodes kn ∈ x.kids.take (k + 1) := by rw [HKD.out]; exact List.mem_append_right _ List.mem_cons_self
          have h2 := sz_kid (n := x.nd) (List.mem_of_mem_take h4)
          rw [TT.eta] at h2
          omega)
        have HF := Lib.hid (show k + 1 ≤ maxLen ∧ (k + 1) * 32 ≤ 140737488355328 ∧ w.heap.size + 1 ≤ (wc.alloc (.cells #[.slice A4 l4.length c4, .int .i64 r4] 24)).heap.size from ⟨by have := HKN.out; unfold maxLen; omega, by have := HKN.out; omega, by have := HR.out.size; have := HZ.out; simp; omega⟩)
        have HOC := Lib.hid (own_belowA HO.out HR.out)
        obtain ⟨y0, y1, _, _⟩ := blk2 HG.out
        have hgl := (Array.getElem?_eq_some_iff.1 HG.out).1
        as_aux_lemma =>
          go_wp2_with (at_builtin; refine wpList_append_at _ rfl (.tmp 33) (.tmp 35) 30 rfl (w.heap.size + 1) 24 j0 _ 2 32 Tryd.underlying30 hj hy0 hy1 hy2 rfl (by decide) V vc k (ttL.all ks) rfl (World.ownsRow.alloc HOC.out _) (some ⟨wc.heap.size, 0, none⟩) 1 1 [.slice A4 l4.length c4, .int .i64 r4] rfl rfl (row_blk (bx_new wc _)) (fun u hu => by simp only [List.mem_cons, List.not_mem_nil, or_false] at hu; rcases hu with rfl | rfl <;> rfl) HF.out.1 HF.out.2.1 HF.out.2.2 ?_; intro V' vc' w5 HO5 HG5 HA5)
          have hz := HZ.out; have hzr := HR.out.size
          have hvb : ∀ y, blkOf V = some y → w.heap.size + 1 ≤ y ∧ y < wr.heap.size := fun y hy => own_blk HO.out y hy
          refine ⟨⟨k + 1, V', vc', ks ++ [⟨A4, c4, l4, r4⟩], by rw [HXL.out]; exact hk1, by go_num, rfl, Lib.hid (by rw [HKD.out]; exact HDL.out.app (.one (by rw [show Lt.tr ⟨A4, c4, l4, r4⟩ = treeOf (den T.nodes kn) from HL4.out.2]; exact Dn.of HFK.out))), Lib.hid (by rw [Lay.all_append, Lay.all_one]; exact HO5.out), Lib.hid ?_, Lib.hid ?_, Lib.hid ?_, Lib.hid ?_⟩, by simp only [intOf, HXL.out]; omega⟩
          · exact row_more HIN.out (fun y hy => (hvb y hy).2) (Below.step HR.out (bx1 wc _)) ⟨HL4.out.1.below (bx1 wc _), HL4.out.2⟩ (by omega) HLL.out HG5.out HA5.out
          · exact (HG5.out.block w.heap.size (by simp; omega) (fun e => by have := (hvb _ e.symm).1; omega)).trans (bx_old (bx_kept HR.out HK.out))
          · have h := HG5.out.size; rw [World.size_alloc] at h; omega
          · exact ((Below.step HB.out HR.out).alloc (by omega) _).grown HG5.out (by simp; omega) (fun y hy => by have := (hvb y hy).1; omega)
    · have hke : k = ki.length := by have := HXL.out; omega
      subst hke
      have i3 : ¬ (ki.length : Int) < (ki.length : Int) := by omega
      have HDE := Lib.hid (show DnL x.kids ks ∧ ks.length = ki.length from by
        have h := HDL.out
        rw [← HXL.out, List.take_length] at h
        exact ⟨h, h.len.trans HXL.out⟩)
      go_wp2_with fail
      go_ret
      refine ⟨V, vc, ks, by rw [HDE.out.2]; rfl, HDE.out.1, by rw [HDE.out.2]; exact own_mono HO.out (Nat.le_succ _), fun j hj => (HIN.out j hj).mono (fun b _ hb => ⟨Nat.le_of_succ_le hb.1, hb.2⟩), HB.out⟩
end Go.Proofs.YtfncfmiccomgcaaDoor
