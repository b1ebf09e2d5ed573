/- The contracts of tree.Sub (of a right tree's node) and path.At. -/
import Derived.Test.YtfncfmiccomgcaaDoorAm
namespace Go.Proofs.YtfncfmiccomgcaaDoor
open Go.RowKit
set_option linter.unusedSimpArgs false
set_option linter.unusedVariables false

def GotPost (t : Tr) (w : World) (e : Ending) (w' : World) : Prop := ∃ v : Lt, e = .returned (.tuple #[v.val, .bool true]) ∧ v.tr = t ∧ TreeOwn w' (w.heap.size ≤ ·) v ∧ Below w.heap.size w w'
def NotPost (w : World) (e : Ending) (w' : World) : Prop := e = .returned (.tuple #[.agg #[.slice none 0 0, .int .i64 0], .bool false]) ∧ Below w.heap.size w w'
/-- Two boxes: a tree, and room for one that is told. -/
theorem box2 (w : World) (x y : Value) :
    ((w.alloc (.cells #[x, y] 24)).alloc (.cells #[.slice none 0 0, .int .i64 0] 24)).heap[w.heap.size]? = some (.cells #[x, y] 24 (0, 0)) ∧ ((w.alloc (.cells #[x, y] 24)).alloc (.cells #[.slice none 0 0, .int .i64 0] 24)).heap[w.heap.size + 1]? = some (.cells #[.slice none 0 0, .int .i64 0] 24 (0, 0)) ∧
      ((w.alloc (.cells #[x, y] 24)).alloc (.cells #[.slice none 0 0, .int .i64 0] 24)).heap.size = w.heap.size + 2 := by
  refine ⟨bx_old (bx_new w _), ?_, by simp⟩
  have h := bx_new (w.alloc (.cells #[x, y] 24)) (.cells #[.slice none 0 0, .int .i64 0] 24)
  rw [World.size_alloc] at h; exact h
/-- What is stored in the second box. -/
theorem box_got {w w5 : World} {H : Nat} {v : Lt} {t : Tr} (hH : w.heap.size = H) (hb : Below H w w5) (hq : TreeOwn w5 (H + 2 ≤ ·) v) (ht : v.tr = t) :
    GotPost t w (.returned (.tuple #[v.val, .bool true])) ((w5.setCell ⟨H + 1, 0, none⟩ (.slice v.A v.ls.length v.c)).setCell ⟨H + 1, 1, none⟩ (.int .i64 v.root)) := by
  have hs : ∀ y, y ≠ H + 1 → ((w5.setCell ⟨H + 1, 0, none⟩ (.slice v.A v.ls.length v.c)).setCell ⟨H + 1, 1, none⟩ (.int .i64 v.root)).heap[y]? = w5.heap[y]? := fun y hy => (Below.heap_setCell _ _ _ _ hy).trans (Below.heap_setCell _ _ _ _ hy)
  subst hH
  exact ⟨v, rfl, ht, (hq.agree (fun y hy _ => hs y (by have hy : w.heap.size + 2 ≤ y := hy; omega))).mono (fun y _ hy => by have hy : w.heap.size + 2 ≤ y := hy; show w.heap.size ≤ y; omega),
    (hb.setCell (p := ⟨w.heap.size + 1, 0, none⟩) (Nat.le_succ _) _).setCell (p := ⟨w.heap.size + 1, 1, none⟩) (Nat.le_succ _) _⟩
set_option maxRecDepth 100000 in
set_option maxHeartbeats 3200000 in
theorem sub_ok (A : Option Addr) (c : Nat) (ls : List Ln) (root : Int) (node : Nat) (S : Nat → Prop) (w : World) (hT : ndL.row w S A ls) (hl : ls.length ≤ 4294967296) (hr : rightP ⟨ls.map Ln.nd, root⟩) (hn : node < ls.length) (ht : CntTab w) :
    Calls Tryd.prog 26 #[.agg #[.slice A ls.length c, .int .i64 root], .int .i64 node] w (GotPost (takenT ⟨ls.map Ln.nd, root⟩ node) w) := by
  have HT := Lib.hid hT; have HCT := Lib.hid ht; clear hT ht
  have HRG := Lib.hid (fun w' hT ht => right_any A c ls root S w' hT (by omega) ht)
  rw [(rightT_iff _).2 hr] at HRG
  have HTK := Lib.hid (fun w' hT => taken_any A c ls root node S w' hT hl hr hn)
  unfold TreePost at HTK
  have HB0 := Lib.hid (bx2 w (.cells #[.slice A ls.length c, .int .i64 root] 24) (.cells #[.slice none 0 0, .int .i64 0] 24))
  have HK0 := Lib.hid (box2 w (.slice A ls.length c) (.int .i64 root))
  have n1 : (node : Int) < (ls.length : Int) := by omega
  have n2 : (0 : Int) ≤ (node : Int) := by omega
  have n3 : ¬ ((node : Int) < 0) := by omega
  have n4 : ¬ ((ls.length : Int) ≤ (node : Int)) := by omega
  have n5 : ¬ (ls.length ≤ node) := by omega
  go_enter Tryd.func26, Tryd.ntmps26
  go_wp2_with (first
    | (go_at_call 17; refine (HRG.out _ (HT.out.below HB0.out) (HCT.out.below HB0.out)).mono ?_; rintro e w1 ⟨rfl, hb⟩; have HB1 := Lib.hid (Below.step HB0.out hb); have HK1 := Lib.hid (And.intro (bx_kept hb HK0.out.1) (bx_kept hb HK0.out.2.1)); have HZ1 := Lib.hid (show w.heap.size + 2 ≤ w1.heap.size from by have := hb.size; have := HK0.out.2.2; omega); clear hb; obtain ⟨k0, k1, k2, k3⟩ := blk2 HK1.out.1)
    | (go_at_call 38; refine (HTK.out _ (by exact HT.out.below HB1.out)).mono ?_; rintro e w5 ⟨v, rfl, h1, h2, h3⟩; have HQ1 := Lib.hid h1; have HQ2 := Lib.hid h2; have HQ3 := Lib.hid h3; have HK5 := Lib.hid (bx_kept h3 HK1.out.2); clear h1 h2 h3; obtain ⟨s0, s1, s2, s3⟩ := blk2 HK5.out)
    | fail)
  refine bodyPost_ret (v := .tuple #[v.val, .bool true]) (by simp [results, Tryd.results26, go_sem, s0, s1]) rfl ?_
  exact box_got rfl (Below.step HB1.out HQ3.out) (HQ2.out.mono fun y _ hy => Nat.le_trans HZ1.out hy) HQ1.out
/-- What stands at a path. -/
def atT (t : Tr) (p : List Int) : Option TT := if rightT t = true then atTT (den t.nodes t.root.toNat) p else none
def AtPost (t : Tr) (p : List Int) (w : World) (e : Ending) (w' : World) : Prop := (∀ y, atT t p = some y → GotPost (treeOf y) w e w') ∧ (atT t p = none → NotPost w e w')
set_option maxRecDepth 100000 in
set_option maxHeartbeats 3200000 in
theorem at_any (A : Option Addr) (c : Nat) (ls : List Ln) (root : Int) (PA : Option Addr) (pc : Nat) (p : List Int) (S S' : Nat → Prop) (w : World) (hT : ndL.row w S A ls) (hP : intL.row w S' PA p) (hl : ls.length ≤ 4294967296) (hpl : p.length ≤ 4611686018427387904) (ht : CntTab w) :
    Calls Tryd.prog 9 #[.agg #[.slice A ls.length c, .int .i64 root], .slice PA p.length pc] w (AtPost ⟨ls.map Ln.nd, root⟩ p w) := by
  have HT := Lib.hid hT; have HP := Lib.hid hP; have HCT := Lib.hid ht; clear hT hP ht
  have HRG := Lib.hid (fun w' hT ht => right_any A c ls root S w' hT (by omega) ht)
  have HB0 := Lib.hid (bx2 w (.cells #[.slice A ls.length c, .int .i64 root] 24) (.cells #[.slice none 0 0, .int .i64 0] 24))
  have HK0 := Lib.hid (box2 w (.slice A ls.length c) (.int .i64 root))
  rcases hr : rightT ⟨ls.map Ln.nd, root⟩ with _ | _
  · rw [hr] at HRG
    have HN := Lib.hid (show atT ⟨ls.map Ln.nd, root⟩ p = none from by unfold atT; rw [hr]; rfl)
    go_enter Tryd.func9, Tryd.ntmps9
    go_wp2_with (first
      | (go_at_call 17; refine (HRG.out _ (HT.out.below HB0.out) (HCT.out.below HB0.out)).mono ?_; rintro e w1 ⟨rfl, hb⟩; have HB1 := Lib.hid (Below.step HB0.out hb); have HK1 := Lib.hid (And.intro (bx_kept hb HK0.out.1) (bx_kept hb HK0.out.2.1)); clear hb; obtain ⟨k0, k1, k2, k3⟩ := blk2 HK1.out.2)
      | fail)
    have HB2 := Lib.hid ((HB1.out.setCell (p := ⟨w.heap.size + 1, 0, none⟩) (Nat.le_succ _) (.slice none 0 0)).setCell (p := ⟨w.heap.size + 1, 1, none⟩) (Nat.le_succ _) (.int .i64 0))
    refine bodyPost_ret (v := .tuple #[.agg #[.slice none 0 0, .int .i64 0], .bool false]) (by simp [results, Tryd.results9, go_sem, k0, k1]) rfl ?_
    exact ⟨fun y h => (by rw [HN.out] at h; cases h), fun _ => ⟨rfl, HB2.out⟩⟩
  · rw [hr] at HRG
    have HR := Lib.hid ((rightT_iff _).1 hr)
    have hroot := HR.out.1
    simp only [List.length_map] at hroot
    obtain ⟨ro, rfl⟩ := Int.eq_ofNat_of_zero_le hroot.1
    have hro : ro < ls.length := by omega
    have HZ := Lib.hid (right_aheadZ HR.out)
    have HDN := Lib.hid (fun w' hT hP => down_any A c ls ro PA pc p S S' w' hT hP HZ.out hro hl hpl)
    unfold DownPost at HDN
    have HAT := Lib.hid (show atT ⟨ls.map Ln.nd, (ro : Int)⟩ p = (goDown (ls.map Ln.nd) ro p).map (fun r => den (ls.map Ln.nd) r.2) from by
      unfold atT; rw [hr, if_pos rfl, goDown_at HZ.out.ahead]; rfl)
    have HLT := Lib.hid (fun r h => (goDown_lt HZ.out.ahead p ro r h).1)
    clear hr hroot
    rcases hd : goDown (ls.map Ln.nd) ro p with _ | r
    · rw [hd] at HAT
      go_enter Tryd.func9, Tryd.ntmps9
      go_wp2_with (first
        | (go_at_call 17; refine (HRG.out _ (HT.out.below HB0.out) (HCT.out.below HB0.out)).mono ?_; rintro e w1 ⟨rfl, hb⟩; have HB1 := Lib.hid (Below.step HB0.out hb); have HK1 := Lib.hid (And.intro (bx_kept hb HK0.out.1) (bx_kept hb HK0.out.2.1)); clear hb; obtain ⟨k0, k1, k2, k3⟩ := blk2 HK1.out.1)
        | (go_at_call 25; refine (HDN.out _ (by exact HT.out.below HB1.out) (by exact HP.out.agree (below_all HB1.out))).mono ?_; rintro e w3 hp; obtain ⟨rfl, hb⟩ := hp.2 hd; clear hp; have HB3 := Lib.hid (Below.step HB1.out hb); have HK3 := Lib.hid (bx_kept hb HK1.out.2); clear hb; obtain ⟨s0, s1, s2, s3⟩ := blk2 HK3.out)
        | fail)
      have HB4 := Lib.hid ((HB3.out.setCell (p := ⟨w.heap.size + 1, 0, none⟩) (Nat.le_succ _) (.slice none 0 0)).setCell (p := ⟨w.heap.size + 1, 1, none⟩) (Nat.le_succ _) (.int .i64 0))
      refine bodyPost_ret (v := .tuple #[.agg #[.slice none 0 0, .int .i64 0], .bool false]) (by simp [results, Tryd.results9, go_sem, s0, s1]) rfl ?_
      exact ⟨fun y h => (by rw [HAT.out] at h; cases h), fun _ => ⟨rfl, HB4.out⟩⟩
    · rw [hd] at HAT
      have hr2 : r.2 < ls.length := Nat.lt_of_le_of_lt (HLT.out r hd) hro
      have HSU := Lib.hid (fun w' hT ht => sub_ok A c ls ro r.2 S w' hT hl HR.out hr2 ht)
      rw [takenT_of HZ.out.ahead (post_nodup HR.out r.2 (by simpa using hr2))] at HSU
      unfold GotPost at HSU
      go_enter Tryd.func9, Tryd.ntmps9
      go_wp2_with (first
        | (go_at_call 17; refine (HRG.out _ (HT.out.below HB0.out) (HCT.out.below HB0.out)).mono ?_; rintro e w1 ⟨rfl, hb⟩; have HB1 := Lib.hid (Below.step HB0.out hb); have HK1 := Lib.hid (And.intro (bx_kept hb HK0.out.1) (bx_kept hb HK0.out.2.1)); have HZ1 := Lib.hid (show w.heap.size + 2 ≤ w1.heap.size from by have := hb.size; have := HK0.out.2.2; omega); clear hb; obtain ⟨k0, k1, k2, k3⟩ := blk2 HK1.out.1)
        | (go_at_call 25; refine (HDN.out _ (by exact HT.out.below HB1.out) (by exact HP.out.agree (below_all HB1.out))).mono ?_; rintro e w3 hp; obtain ⟨V, vc, rfl, _, hb⟩ := hp.1 r hd; clear hp; have HB3 := Lib.hid (Below.step HB1.out hb); have HK3 := Lib.hid (And.intro (bx_kept hb HK1.out.1) (bx_kept hb HK1.out.2)); have HZ3 := Lib.hid (show w.heap.size + 2 ≤ w3.heap.size from by have := hb.size; have := HZ1.out; omega); clear hb; obtain ⟨s0, s1, s2, s3⟩ := blk2 HK3.out.1)
        | (go_at_call 26; refine (HSU.out _ (by exact HT.out.below HB3.out) (by exact HCT.out.below HB3.out)).mono ?_; rintro e w5 ⟨v, rfl, h1, h2, h3⟩; have HQ1 := Lib.hid h1; have HQ2 := Lib.hid h2; have HQ3 := Lib.hid h3; have HK5 := Lib.hid (bx_kept h3 HK3.out.2); clear h1 h2 h3; obtain ⟨u0, u1, u2, u3⟩ := blk2 HK5.out)
        | fail)
      refine bodyPost_ret (v := .tuple #[v.val, .bool true]) (by simp [results, Tryd.results9, go_sem, u0, u1]) rfl ?_
      refine ⟨fun y h => ?_, fun h => (by rw [HAT.out] at h; cases h)⟩
      rw [HAT.out] at h
      cases h
      exact box_got rfl (Below.step HB3.out HQ3.out) (HQ2.out.mono fun y _ hy => Nat.le_trans HZ3.out hy) HQ1.out
end Go.Proofs.YtfncfmiccomgcaaDoor
