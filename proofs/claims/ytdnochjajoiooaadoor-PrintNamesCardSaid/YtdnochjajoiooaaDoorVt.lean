/- PrintNames: the region of the grammar of two definitions. -/
import Derived.Test.YtdnochjajoiooaaDoorVs
namespace Go.Proofs.YtdnochjajoiooaaDoor
open Go.RowKit
set_option linter.unusedSimpArgs false
set_option linter.unusedVariables false

theorem gblk1 {w : World} {b : Nat} {x : Value} {T : TypeId} (h : w.heap[b]? = some (.cells #[x] T (0, 0))) : w.cell? ⟨b, 0, none⟩ = some x ∧ w.frozen? ⟨b, 0, none⟩ = false := by
  simp [World.cell?, World.frozen?, h]
/-- The tree of a line feed at a block. -/
def nlT (tb : Nat) : Lt := ⟨some ⟨tb, 0, none⟩, 1, [⟨textLf ⟨#[10]⟩, none, 0⟩], 0⟩
def TxV (w : World) (v : Value) : Prop := ∃ tb : Nat, v = .agg #[.slice (some ⟨tb, 0, none⟩) 1 1, .int .i64 0] ∧ TreeOwn w (fun _ => True) (nlT tb)
def RowD (bx B : Nat) (w : World) (rb : Nat) : Prop := B ≤ rb ∧ ∃ tb : Nat, w.heap[rb]? = some (.cells #[.string ⟨#[97]⟩, .slice (some ⟨tb, 0, none⟩) 1 1, .int .i64 0, .string ⟨#[98]⟩, .slice (some ⟨bx, 0, none⟩) 1 1, .int .i64 0] 43 (0, 0)) ∧ TreeOwn w (fun _ => True) (nlT tb)
theorem RowD.below {bx B rb : Nat} {w w' : World} (h : RowD bx B w rb) (hb : Below w.heap.size w w') : RowD bx B w' rb := by
  obtain ⟨h1, tb, h2, h3⟩ := h
  exact ⟨h1, tb, bx_kept hb h2, h3.below hb⟩
theorem TreeOwn.setG {w : World} {t : Lt} {g o : Nat} {cs : Array Value} {u : Value} (h : TreeOwn w (fun _ => True) t) (hg : w.heap[g]? = some (.cells cs 46 (0, 0))) : TreeOwn (w.setCell ⟨g, o, none⟩ u) (fun _ => True) t := by
  have h1 : TreeOwn w (fun x => True ∧ x ≠ g) t := ⟨h.len, h.row.ne hg (by decide), fun l hl => ⟨(h.kids l hl).1, (h.kids l hl).2.ne hg (by decide)⟩⟩
  exact (h1.agree (fun x hx _ => Below.heap_setCell _ _ _ _ hx.2)).mono (fun _ _ _ => trivial)
theorem RowD.setG {bx B rb g o : Nat} {w : World} {cs : Array Value} {u : Value} (h : RowD bx B w rb) (hg : w.heap[g]? = some (.cells cs 46 (0, 0))) : RowD bx B (w.setCell ⟨g, o, none⟩ u) rb := by
  obtain ⟨h1, tb, h2, h3⟩ := h
  have hne : rb ≠ g := by
    intro e; subst e; rw [h2] at hg; simp at hg
  exact ⟨h1, tb, (Below.heap_setCell _ _ _ _ hne).trans h2, h3.setG hg⟩
def pn26F (b1 : Nat) (x : Nat → Value) (v202 v203 v204 v205 v206 v207 v14 : Value) : Act :=
  { tmps := #[(x 0), .pointer (some ⟨b1, 0, none⟩), (x 2), (x 3), (x 4), (x 5), (x 6), (x 7), (x 8), (x 9), (x 10), (x 11), (x 12), (x 13), v14, (x 15), (x 16), (x 17), (x 18), (x 19), (x 20), (x 21), (x 22), (x 23), (x 24), (x 25), (x 26), (x 27), (x 28), (x 29), (x 30), (x 31), (x 32), (x 33), (x 34), (x 35), (x 36), (x 37), (x 38), (x 39), (x 40), (x 41), (x 42), (x 43), (x 44), (x 45), (x 46), (x 47), (x 48), (x 49), (x 50), (x 51), (x 52), (x 53), (x 54), (x 55), (x 56), (x 57), (x 58), (x 59), (x 60), (x 61), (x 62), (x 63), (x 64), (x 65), (x 66), (x 67), (x 68), (x 69), (x 70), (x 71), (x 72), (x 73), (x 74), (x 75), (x 76), (x 77), (x 78), (x 79), (x 80), (x 81), (x 82), (x 83), (x 84), (x 85), (x 86), (x 87), (x 88), (x 89), (x 90), (x 91), (x 92), (x 93), (x 94), (x 95), (x 96), (x 97), (x 98), (x 99), (x 100), (x 101), (x 102), (x 103), (x 104), (x 105), (x 106), (x 107), (x 108), (x 109), (x 110), (x 111), (x 112), (x 113), (x 114), (x 115), (x 116), (x 117), (x 118), (x 119), (x 120), (x 121), (x 122), (x 123), (x 124), (x 125), (x 126), (x 127), (x 128), (x 129), (x 130), (x 131), (x 132), (x 133), (x 134), (x 135), (x 136), (x 137), (x 138), (x 139), (x 140), (x 141), (x 142), (x 143), (x 144), (x 145), (x 146), (x 147), (x 148), (x 149), (x 150), (x 151), (x 152), (x 153), (x 154), (x 155), (x 156), (x 157), (x 158), (x 159), (x 160), (x 161), (x 162), (x 163), (x 164), (x 165), (x 166), (x 167), (x 168), (x 169), (x 170), (x 171), (x 172), (x 173), (x 174), (x 175), (x 176), (x 177), (x 178), (x 179), (x 180), (x 181), (x 182), (x 183), (x 184), (x 185), (x 186), (x 187), (x 188), (x 189), (x 190), (x 191), (x 192), (x 193), (x 194), (x 195), (x 196), (x 197), (x 198), (x 199), (x 200), (x 201), v202, v203, v204, v205, v206, v207, (x 208), (x 209), (x 210), (x 211), (x 212), (x 213), (x 214), (x 215), (x 216), (x 217), (x 218), (x 219), (x 220), (x 221), (x 222), (x 223), (x 224), (x 225), (x 226), (x 227), (x 228), (x 229), (x 230), (x 231), (x 232), (x 233), (x 234), (x 235), (x 236), (x 237), (x 238), (x 239), (x 240), (x 241), (x 242), (x 243), (x 244), (x 245), (x 246), (x 247), (x 248), (x 249), (x 250), (x 251), (x 252), (x 253), (x 254), (x 255), (x 256), (x 257), (x 258), (x 259), (x 260), (x 261)], defers := [] }
def Pn26Inv (bx b1 : Nat) (x : Nat → Value) (B : Nat) (V : World) (_ : Act) (listed : Array Bool) (a : Act) (w' : World) : Prop :=
  listed.size = 8 ∧ Below B V w' ∧ B ≤ w'.heap.size ∧ ∃ v202 v203 v204 v205 v206 v207 v14 : Value,
    a = pn26F b1 x v202 v203 v204 v205 v206 v207 v14 ∧
    (listed.getD 0 false = true → TxV w' v202) ∧
    (listed.getD 1 false = true → ∃ tb : Nat, v203 = .agg #[.string ⟨#[97]⟩, .slice (some ⟨tb, 0, none⟩) 1 1, .int .i64 0] ∧ TreeOwn w' (fun _ => True) (nlT tb)) ∧
    (listed.getD 2 false = true → v204 = .agg #[.slice (some ⟨bx, 0, none⟩) 1 1, .int .i64 0]) ∧
    (listed.getD 3 false = true → v205 = .agg #[.string ⟨#[98]⟩, .slice (some ⟨bx, 0, none⟩) 1 1, .int .i64 0]) ∧
    (listed.getD 4 false = true → ∃ rb : Nat, v206 = .slice (some ⟨rb, 0, none⟩) 2 2 ∧ RowD bx B w' rb) ∧
    (listed.getD 5 false = true → ∃ rb : Nat, v207 = .agg #[.slice (some ⟨rb, 0, none⟩) 2 2] ∧ RowD bx B w' rb) ∧
    (listed.getD 6 false = true → ∃ (g : Nat) (y : Value), v14 = .pointer (some ⟨g, 0, none⟩) ∧ B ≤ g ∧ w'.heap[g]? = some (.cells #[y] 46 (0, 0))) ∧
    (listed.getD 7 false = true → ∃ (g rb : Nat), v14 = .pointer (some ⟨g, 0, none⟩) ∧ B ≤ g ∧ w'.heap[g]? = some (.cells #[.slice (some ⟨rb, 0, none⟩) 2 2] 46 (0, 0)) ∧ RowD bx B w' rb) ∧
    (listed.getD 7 false = true → listed.getD 0 false = true ∧ listed.getD 1 false = true ∧ listed.getD 4 false = true ∧ listed.getD 5 false = true ∧ listed.getD 6 false = true)
def pn26Ops : Array Oper := #[{ dst := some 202, op := Go.Op.call { callee := Go.Callee.value (Go.Operand.func 9), args := #[Go.Operand.const (Go.Value.string { data := #[10] })], argTypes := #[9] }, type := 25, pos := "outright.go:62", after := #[], guard := none }, { dst := some 203, op := Go.Op.build 43 #[(0, Go.Operand.const (Go.Value.string { data := #[97] })), (1, Go.Operand.tmp 202)], type := 43, pos := "outright.go:62", after := #[{ on := 0, ground := Go.Ground.data }], guard := none }, { dst := some 204, op := Go.Op.load 25 (Go.Operand.tmp 1), type := 25, pos := "outright.go:62", after := #[], guard := none }, { dst := some 205, op := Go.Op.build 43 #[(0, Go.Operand.const (Go.Value.string { data := #[98] })), (1, Go.Operand.tmp 204)], type := 43, pos := "outright.go:62", after := #[{ on := 2, ground := Go.Ground.data }], guard := none }, { dst := some 206, op := Go.Op.buildSlice 44 2 #[(0, Go.Operand.tmp 203), (1, Go.Operand.tmp 205)], type := 44, pos := "outright.go:62", after := #[{ on := 1, ground := Go.Ground.data }, { on := 3, ground := Go.Ground.data }], guard := none }, { dst := some 207, op := Go.Op.build 46 #[(0, Go.Operand.tmp 206)], type := 46, pos := "outright.go:62", after := #[{ on := 4, ground := Go.Ground.data }], guard := none }, { dst := some 14, op := Go.Op.alloc 46, type := 0, pos := "outright.go:62", after := #[], guard := none }, { dst := none, op := Go.Op.store 46 (Go.Operand.tmp 14) (Go.Operand.tmp 207), type := 0, pos := "outright.go:62", after := #[{ on := 6, ground := Go.Ground.data }, { on := 5, ground := Go.Ground.data }, { on := 0, ground := Go.Ground.chain }, { on := 0, ground := Go.Ground.phase }, { on := 1, ground := Go.Ground.phase }, { on := 2, ground := Go.Ground.phase }, { on := 3, ground := Go.Ground.phase }, { on := 4, ground := Go.Ground.phase }, { on := 5, ground := Go.Ground.phase }, { on := 6, ground := Go.Ground.phase }], guard := none }]
set_option maxRecDepth 100000 in
set_option maxHeartbeats 12800000 in
theorem pn26_step (bx b1 : Nat) (x : Nat → Value) (V : World) (HCX : Hid (∀ w', Below V.heap.size V w' → w'.cell? ⟨b1, 0, none⟩ = some (.slice (some ⟨bx, 0, none⟩) 1 1) ∧ w'.cell? ⟨b1, 1, none⟩ = some (.int .i64 0))) (Q : Exit → Act → World → Prop) (A0 : Act) :
    ∀ listed a' w', Pn26Inv bx b1 x V.heap.size V A0 listed a' w' → ∀ i, i ∈ Region.ready .any pn26Ops listed → wpOp Tryd.prog pn26Ops Q i (fun a'' w'' => Pn26Inv bx b1 x V.heap.size V A0 (listed.setIfInBounds i true) a'' w'') a' w' := by
  intro listed a' w' hI i hi
  obtain ⟨hsz, hb, hB, v202, v203, v204, v205, v206, v207, v14, rfl, c0, c1, c2, c3, c4, c5, c6, c7, c8⟩ := hI
  have hun := (ready_mem hi).2.1
  have hlt : i < 8 := (ready_mem hi).1
  have hcs : i = 0 ∨ i = 1 ∨ i = 2 ∨ i = 3 ∨ i = 4 ∨ i = 5 ∨ i = 6 ∨ i = 7 := by omega
  clear hlt
  rcases hcs with rfl | rfl | rfl | rfl | rfl | rfl | rfl | rfl
  · have hp := ready_after (o := { dst := some 202, op := Go.Op.call { callee := Go.Callee.value (Go.Operand.func 9), args := #[Go.Operand.const (Go.Value.string { data := #[10] })], argTypes := #[9] }, type := 25, pos := "outright.go:62", after := #[], guard := none }) hi rfl
    simp [Region.binds] at hp
    unfold pn26F
    refine wpOp_shut (o := { dst := some 202, op := Go.Op.call { callee := Go.Callee.value (Go.Operand.func 9), args := #[Go.Operand.const (Go.Value.string { data := #[10] })], argTypes := #[9] }, type := 25, pos := "outright.go:62", after := #[], guard := none }) rfl (fun K hK => ?_)
    go_simp
    refine (text_any ⟨#[10]⟩ _ (by decide)).mono ?_
    rintro e w1 ⟨tb, rfl, hto, hbk⟩
    go_wp2_with fail
    exact hK.out _ _ ⟨by simp [hsz], (hb.trans (hbk.mono hB)), (Nat.le_trans hB hbk.size), _, _, _, _, _, _, _, rfl,
        fun _ => ⟨tb, rfl, hto.mono (fun _ _ _ => trivial)⟩,
        fun h => (c1 (flag_of (by decide) h)).elim fun tb e => ⟨tb, e.1, e.2.below hbk⟩,
        fun h => c2 (flag_of (by decide) h),
        fun h => c3 (flag_of (by decide) h),
        fun h => (c4 (flag_of (by decide) h)).elim fun rb e => ⟨rb, e.1, e.2.below hbk⟩,
        fun h => (c5 (flag_of (by decide) h)).elim fun rb e => ⟨rb, e.1, e.2.below hbk⟩,
        fun h => by obtain ⟨g, cs, e1, e2, e3⟩ := c6 (flag_of (by decide) h); exact ⟨g, cs, e1, e2, bx_kept hbk e3⟩,
        fun h => (flag_not hun (by have := c8 (flag_of (by decide) h); simp [this])).elim,
        fun h => by have h8 := c8 (flag_of (by decide) h); exact ⟨flag_old h8.1, flag_old h8.2.1, flag_old h8.2.2.1, flag_old h8.2.2.2.1, flag_old h8.2.2.2.2⟩⟩
  · have hp := ready_after (o := { dst := some 203, op := Go.Op.build 43 #[(0, Go.Operand.const (Go.Value.string { data := #[97] })), (1, Go.Operand.tmp 202)], type := 43, pos := "outright.go:62", after := #[{ on := 0, ground := Go.Ground.data }], guard := none }) hi rfl
    simp [Region.binds] at hp
    unfold pn26F
    obtain ⟨tb, rfl, hto⟩ := id (c0 (show listed.getD 0 false = true by first | exact hp | exact hp.1 | exact hp.2 | exact hp.2.1 | simp [hp]))
    have hbk : Below w'.heap.size w' w' := Below.refl _ _
    refine wpOp_shut (o := { dst := some 203, op := Go.Op.build 43 #[(0, Go.Operand.const (Go.Value.string { data := #[97] })), (1, Go.Operand.tmp 202)], type := 43, pos := "outright.go:62", after := #[{ on := 0, ground := Go.Ground.data }], guard := none }) rfl (fun K hK => ?_)
    go_simp
    exact hK.out _ _ ⟨by simp [hsz], (hb.trans (hbk.mono hB)), (Nat.le_trans hB hbk.size), _, _, _, _, _, _, _, rfl,
        fun _ => ⟨tb, rfl, hto⟩,
        fun _ => ⟨tb, rfl, hto⟩,
        fun h => c2 (flag_of (by decide) h),
        fun h => c3 (flag_of (by decide) h),
        fun h => (c4 (flag_of (by decide) h)).elim fun rb e => ⟨rb, e.1, e.2.below hbk⟩,
        fun h => (c5 (flag_of (by decide) h)).elim fun rb e => ⟨rb, e.1, e.2.below hbk⟩,
        fun h => by obtain ⟨g, cs, e1, e2, e3⟩ := c6 (flag_of (by decide) h); exact ⟨g, cs, e1, e2, bx_kept hbk e3⟩,
        fun h => (flag_not hun (by have := c8 (flag_of (by decide) h); simp [this])).elim,
        fun h => by have h8 := c8 (flag_of (by decide) h); exact ⟨flag_old h8.1, flag_old h8.2.1, flag_old h8.2.2.1, flag_old h8.2.2.2.1, flag_old h8.2.2.2.2⟩⟩
  · have hp := ready_after (o := { dst := some 204, op := Go.Op.load 25 (Go.Operand.tmp 1), type := 25, pos := "outright.go:62", after := #[], guard := none }) hi rfl
    simp [Region.binds] at hp
    unfold pn26F
    have hbk : Below w'.heap.size w' w' := Below.refl _ _
    obtain ⟨u1, u2⟩ := HCX.out w' hb
    refine wpOp_shut (o := { dst := some 204, op := Go.Op.load 25 (Go.Operand.tmp 1), type := 25, pos := "outright.go:62", after := #[], guard := none }) rfl (fun K hK => ?_)
    go_simp
    exact hK.out _ _ ⟨by simp [hsz], (hb.trans (hbk.mono hB)), (Nat.le_trans hB hbk.size), _, _, _, _, _, _, _, rfl,
        fun h => (c0 (flag_of (by decide) h)).elim fun tb e => ⟨tb, e.1, e.2.below hbk⟩,
        fun h => (c1 (flag_of (by decide) h)).elim fun tb e => ⟨tb, e.1, e.2.below hbk⟩,
        fun _ => rfl,
        fun h => c3 (flag_of (by decide) h),
        fun h => (c4 (flag_of (by decide) h)).elim fun rb e => ⟨rb, e.1, e.2.below hbk⟩,
        fun h => (c5 (flag_of (by decide) h)).elim fun rb e => ⟨rb, e.1, e.2.below hbk⟩,
        fun h => by obtain ⟨g, cs, e1, e2, e3⟩ := c6 (flag_of (by decide) h); exact ⟨g, cs, e1, e2, bx_kept hbk e3⟩,
        fun h => by obtain ⟨g, rb, e1, e2, e3, e4⟩ := c7 (flag_of (by decide) h); exact ⟨g, rb, e1, e2, bx_kept hbk e3, e4.below hbk⟩,
        fun h => by have h8 := c8 (flag_of (by decide) h); exact ⟨flag_old h8.1, flag_old h8.2.1, flag_old h8.2.2.1, flag_old h8.2.2.2.1, flag_old h8.2.2.2.2⟩⟩
  · have hp := ready_after (o := { dst := some 205, op := Go.Op.build 43 #[(0, Go.Operand.const (Go.Value.string { data := #[98] })), (1, Go.Operand.tmp 204)], type := 43, pos := "outright.go:62", after := #[{ on := 2, ground := Go.Ground.data }], guard := none }) hi rfl
    simp [Region.binds] at hp
    unfold pn26F
    obtain rfl := c2 (show listed.getD 2 false = true by first | exact hp | exact hp.1 | exact hp.2 | exact hp.2.1 | simp [hp])
    have hbk : Below w'.heap.size w' w' := Below.refl _ _
    refine wpOp_shut (o := { dst := some 205, op := Go.Op.build 43 #[(0, Go.Operand.const (Go.Value.string { data := #[98] })), (1, Go.Operand.tmp 204)], type := 43, pos := "outright.go:62", after := #[{ on := 2, ground := Go.Ground.data }], guard := none }) rfl (fun K hK => ?_)
    go_simp
    exact hK.out _ _ ⟨by simp [hsz], (hb.trans (hbk.mono hB)), (Nat.le_trans hB hbk.size), _, _, _, _, _, _, _, rfl,
        fun h => (c0 (flag_of (by decide) h)).elim fun tb e => ⟨tb, e.1, e.2.below hbk⟩,
        fun h => (c1 (flag_of (by decide) h)).elim fun tb e => ⟨tb, e.1, e.2.below hbk⟩,
        fun _ => rfl,
        fun _ => rfl,
        fun h => (c4 (flag_of (by decide) h)).elim fun rb e => ⟨rb, e.1, e.2.below hbk⟩,
        fun h => (c5 (flag_of (by decide) h)).elim fun rb e => ⟨rb, e.1, e.2.below hbk⟩,
        fun h => by obtain ⟨g, cs, e1, e2, e3⟩ := c6 (flag_of (by decide) h); exact ⟨g, cs, e1, e2, bx_kept hbk e3⟩,
        fun h => by obtain ⟨g, rb, e1, e2, e3, e4⟩ := c7 (flag_of (by decide) h); exact ⟨g, rb, e1, e2, bx_kept hbk e3, e4.below hbk⟩,
        fun h => by have h8 := c8 (flag_of (by decide) h); exact ⟨flag_old h8.1, flag_old h8.2.1, flag_old h8.2.2.1, flag_old h8.2.2.2.1, flag_old h8.2.2.2.2⟩⟩
  · have hp := ready_after (o := { dst := some 206, op := Go.Op.buildSlice 44 2 #[(0, Go.Operand.tmp 203), (1, Go.Operand.tmp 205)], type := 44, pos := "outright.go:62", after := #[{ on := 1, ground := Go.Ground.data }, { on := 3, ground := Go.Ground.data }], guard := none }) hi rfl
    simp [Region.binds] at hp
    unfold pn26F
    obtain ⟨tb, rfl, hto⟩ := id (c1 (show listed.getD 1 false = true by first | exact hp | exact hp.1 | exact hp.2 | exact hp.2.1 | simp [hp]))
    obtain rfl := c3 (show listed.getD 3 false = true by first | exact hp | exact hp.1 | exact hp.2 | exact hp.2.1 | simp [hp])
    refine wpOp_shut (o := { dst := some 206, op := Go.Op.buildSlice 44 2 #[(0, Go.Operand.tmp 203), (1, Go.Operand.tmp 205)], type := 44, pos := "outright.go:62", after := #[{ on := 1, ground := Go.Ground.data }, { on := 3, ground := Go.Ground.data }], guard := none }) rfl (fun K hK => ?_)
    go_simp
    have hbk := bx1 w' (.cells #[.string ⟨#[97]⟩, .slice (some ⟨tb, 0, none⟩) 1 1, .int .i64 0, .string ⟨#[98]⟩, .slice (some ⟨bx, 0, none⟩) 1 1, .int .i64 0] 43)
    exact hK.out _ _ ⟨by simp [hsz], (hb.trans (hbk.mono hB)), (Nat.le_trans hB hbk.size), _, _, _, _, _, _, _, rfl,
        fun h => (c0 (flag_of (by decide) h)).elim fun tb e => ⟨tb, e.1, e.2.below hbk⟩,
        fun _ => ⟨tb, rfl, hto.below hbk⟩,
        fun h => c2 (flag_of (by decide) h),
        fun _ => rfl,
        fun _ => ⟨_, rfl, hB, tb, bx_new w' _, hto.below hbk⟩,
        fun h => (c5 (flag_of (by decide) h)).elim fun rb e => ⟨rb, e.1, e.2.below hbk⟩,
        fun h => by obtain ⟨g, cs, e1, e2, e3⟩ := c6 (flag_of (by decide) h); exact ⟨g, cs, e1, e2, bx_kept hbk e3⟩,
        fun h => (flag_not hun (by have := c8 (flag_of (by decide) h); simp [this])).elim,
        fun h => by have h8 := c8 (flag_of (by decide) h); exact ⟨flag_old h8.1, flag_old h8.2.1, flag_old h8.2.2.1, flag_old h8.2.2.2.1, flag_old h8.2.2.2.2⟩⟩
  · have hp := ready_after (o := { dst := some 207, op := Go.Op.build 46 #[(0, Go.Operand.tmp 206)], type := 46, pos := "outright.go:62", after := #[{ on := 4, ground := Go.Ground.data }], guard := none }) hi rfl
    simp [Region.binds] at hp
    unfold pn26F
    obtain ⟨rb, rfl, hrd⟩ := id (c4 (show listed.getD 4 false = true by first | exact hp | exact hp.1 | exact hp.2 | exact hp.2.1 | simp [hp]))
    have hbk : Below w'.heap.size w' w' := Below.refl _ _
    refine wpOp_shut (o := { dst := some 207, op := Go.Op.build 46 #[(0, Go.Operand.tmp 206)], type := 46, pos := "outright.go:62", after := #[{ on := 4, ground := Go.Ground.data }], guard := none }) rfl (fun K hK => ?_)
    go_simp
    exact hK.out _ _ ⟨by simp [hsz], (hb.trans (hbk.mono hB)), (Nat.le_trans hB hbk.size), _, _, _, _, _, _, _, rfl,
        fun h => (c0 (flag_of (by decide) h)).elim fun tb e => ⟨tb, e.1, e.2.below hbk⟩,
        fun h => (c1 (flag_of (by decide) h)).elim fun tb e => ⟨tb, e.1, e.2.below hbk⟩,
        fun h => c2 (flag_of (by decide) h),
        fun h => c3 (flag_of (by decide) h),
        fun _ => ⟨rb, rfl, hrd⟩,
        fun _ => ⟨rb, rfl, hrd⟩,
        fun h => by obtain ⟨g, cs, e1, e2, e3⟩ := c6 (flag_of (by decide) h); exact ⟨g, cs, e1, e2, bx_kept hbk e3⟩,
        fun h => (flag_not hun (by have := c8 (flag_of (by decide) h); simp [this])).elim,
        fun h => by have h8 := c8 (flag_of (by decide) h); exact ⟨flag_old h8.1, flag_old h8.2.1, flag_old h8.2.2.1, flag_old h8.2.2.2.1, flag_old h8.2.2.2.2⟩⟩
  · have hp := ready_after (o := { dst := some 14, op := Go.Op.alloc 46, type := 0, pos := "outright.go:62", after := #[], guard := none }) hi rfl
    simp [Region.binds] at hp
    unfold pn26F
    refine wpOp_shut (o := { dst := some 14, op := Go.Op.alloc 46, type := 0, pos := "outright.go:62", after := #[], guard := none }) rfl (fun K hK => ?_)
    go_simp
    have hbk := bx1 w' (.cells #[.slice none 0 0] 46)
    exact hK.out _ _ ⟨by simp [hsz], (hb.trans (hbk.mono hB)), (Nat.le_trans hB hbk.size), _, _, _, _, _, _, _, rfl,
        fun h => (c0 (flag_of (by decide) h)).elim fun tb e => ⟨tb, e.1, e.2.below hbk⟩,
        fun h => (c1 (flag_of (by decide) h)).elim fun tb e => ⟨tb, e.1, e.2.below hbk⟩,
        fun h => c2 (flag_of (by decide) h),
        fun h => c3 (flag_of (by decide) h),
        fun h => (c4 (flag_of (by decide) h)).elim fun rb e => ⟨rb, e.1, e.2.below hbk⟩,
        fun h => (c5 (flag_of (by decide) h)).elim fun rb e => ⟨rb, e.1, e.2.below hbk⟩,
        fun _ => ⟨_, _, rfl, hB, bx_new w' _⟩,
        fun h => (flag_not hun (by have := c8 (flag_of (by decide) h); simp [this])).elim,
        fun h => by have h8 := c8 (flag_of (by decide) h); exact ⟨flag_old h8.1, flag_old h8.2.1, flag_old h8.2.2.1, flag_old h8.2.2.2.1, flag_old h8.2.2.2.2⟩⟩
  · have hp := ready_after (o := { dst := none, op := Go.Op.store 46 (Go.Operand.tmp 14) (Go.Operand.tmp 207), type := 0, pos := "outright.go:62", after := #[{ on := 6, ground := Go.Ground.data }, { on := 5, ground := Go.Ground.data }, { on := 0, ground := Go.Ground.chain }, { on := 0, ground := Go.Ground.phase }, { on := 1, ground := Go.Ground.phase }, { on := 2, ground := Go.Ground.phase }, { on := 3, ground := Go.Ground.phase }, { on := 4, ground := Go.Ground.phase }, { on := 5, ground := Go.Ground.phase }, { on := 6, ground := Go.Ground.phase }], guard := none }) hi rfl
    simp [Region.binds] at hp
    unfold pn26F
    obtain ⟨rb, rfl, hrd⟩ := id (c5 (show listed.getD 5 false = true by first | exact hp | exact hp.1 | exact hp.2 | exact hp.2.1 | simp [hp]))
    obtain ⟨g, y0, rfl, hBg, hg⟩ := id (c6 (show listed.getD 6 false = true by first | exact hp | exact hp.1 | exact hp.2 | exact hp.2.1 | simp [hp]))
    obtain ⟨z1, z2⟩ := gblk1 hg
    refine wpOp_shut (o := { dst := none, op := Go.Op.store 46 (Go.Operand.tmp 14) (Go.Operand.tmp 207), type := 0, pos := "outright.go:62", after := #[{ on := 6, ground := Go.Ground.data }, { on := 5, ground := Go.Ground.data }, { on := 0, ground := Go.Ground.chain }, { on := 0, ground := Go.Ground.phase }, { on := 1, ground := Go.Ground.phase }, { on := 2, ground := Go.Ground.phase }, { on := 3, ground := Go.Ground.phase }, { on := 4, ground := Go.Ground.phase }, { on := 5, ground := Go.Ground.phase }, { on := 6, ground := Go.Ground.phase }], guard := none }) rfl (fun K hK => ?_)
    go_simp
    refine hK.out _ _ ⟨by simp [hsz], hb.trans (Below.setCell (p := ⟨g, 0, none⟩) (Below.refl _ w') hBg _), by simp; exact hB, _, _, _, _, _, _, _, rfl, ?_, ?_, fun h => c2 (flag_of (by decide) h), fun h => c3 (flag_of (by decide) h), ?_, ?_, ?_, ?_, ?_⟩
    · intro _; obtain ⟨tb, e1, e2⟩ := c0 (by simp [hp]); exact ⟨tb, e1, e2.setG hg⟩
    · intro _; obtain ⟨tb, e1, e2⟩ := c1 (by simp [hp]); exact ⟨tb, e1, e2.setG hg⟩
    · intro _; obtain ⟨tb, e1, e2⟩ := c4 (by simp [hp]); exact ⟨tb, e1, e2.setG hg⟩
    · exact fun _ => ⟨rb, rfl, hrd.setG hg⟩
    · exact fun _ => ⟨g, _, rfl, hBg, heap_setCell_same w' g 0 _ _ _ hg⟩
    · exact fun _ => ⟨g, rb, rfl, hBg, heap_setCell_same w' g 0 _ _ _ hg, hrd.setG hg⟩
    · exact fun _ => ⟨flag_old (by simp [hp]), flag_old (by simp [hp]), flag_old (by simp [hp]), flag_old (by simp [hp]), flag_old (by simp [hp])⟩

set_option maxRecDepth 100000 in
set_option maxHeartbeats 12800000 in
theorem pn_region26 (bx b1 : Nat) (x : Nat → Value) (v202 v203 v204 v205 v206 v207 v14 : Value) (V wr : World) (HCX : Hid (∀ w', Below V.heap.size V w' → w'.cell? ⟨b1, 0, none⟩ = some (.slice (some ⟨bx, 0, none⟩) 1 1) ∧ w'.cell? ⟨b1, 1, none⟩ = some (.int .i64 0))) (HBV : Hid (Below V.heap.size V wr)) (Q : Exit → Act → World → Prop)
    (hQ : Hid (∀ (g rb : Nat) (u202 u203 u204 u205 u206 u207 : Value) (w' : World), Hid (V.heap.size ≤ g ∧ w'.heap[g]? = some (.cells #[.slice (some ⟨rb, 0, none⟩) 2 2] 46 (0, 0)) ∧ RowD bx V.heap.size w' rb) → Hid (Below V.heap.size V w') → Q .normal { tmps := #[(x 0), .pointer (some ⟨b1, 0, none⟩), (x 2), (x 3), (x 4), (x 5), (x 6), (x 7), (x 8), (x 9), (x 10), (x 11), (x 12), (x 13), .pointer (some ⟨g, 0, none⟩), (x 15), (x 16), (x 17), (x 18), (x 19), (x 20), (x 21), (x 22), (x 23), (x 24), (x 25), (x 26), (x 27), (x 28), (x 29), (x 30), (x 31), (x 32), (x 33), (x 34), (x 35), (x 36), (x 37), (x 38), (x 39), (x 40), (x 41), (x 42), (x 43), (x 44), (x 45), (x 46), (x 47), (x 48), (x 49), (x 50), (x 51), (x 52), (x 53), (x 54), (x 55), (x 56), (x 57), (x 58), (x 59), (x 60), (x 61), (x 62), (x 63), (x 64), (x 65), (x 66), (x 67), (x 68), (x 69), (x 70), (x 71), (x 72), (x 73), (x 74), (x 75), (x 76), (x 77), (x 78), (x 79), (x 80), (x 81), (x 82), (x 83), (x 84), (x 85), (x 86), (x 87), (x 88), (x 89), (x 90), (x 91), (x 92), (x 93), (x 94), (x 95), (x 96), (x 97), (x 98), (x 99), (x 100), (x 101), (x 102), (x 103), (x 104), (x 105), (x 106), (x 107), (x 108), (x 109), (x 110), (x 111), (x 112), (x 113), (x 114), (x 115), (x 116), (x 117), (x 118), (x 119), (x 120), (x 121), (x 122), (x 123), (x 124), (x 125), (x 126), (x 127), (x 128), (x 129), (x 130), (x 131), (x 132), (x 133), (x 134), (x 135), (x 136), (x 137), (x 138), (x 139), (x 140), (x 141), (x 142), (x 143), (x 144), (x 145), (x 146), (x 147), (x 148), (x 149), (x 150), (x 151), (x 152), (x 153), (x 154), (x 155), (x 156), (x 157), (x 158), (x 159), (x 160), (x 161), (x 162), (x 163), (x 164), (x 165), (x 166), (x 167), (x 168), (x 169), (x 170), (x 171), (x 172), (x 173), (x 174), (x 175), (x 176), (x 177), (x 178), (x 179), (x 180), (x 181), (x 182), (x 183), (x 184), (x 185), (x 186), (x 187), (x 188), (x 189), (x 190), (x 191), (x 192), (x 193), (x 194), (x 195), (x 196), (x 197), (x 198), (x 199), (x 200), (x 201), u202, u203, u204, u205, u206, u207, (x 208), (x 209), (x 210), (x 211), (x 212), (x 213), (x 214), (x 215), (x 216), (x 217), (x 218), (x 219), (x 220), (x 221), (x 222), (x 223), (x 224), (x 225), (x 226), (x 227), (x 228), (x 229), (x 230), (x 231), (x 232), (x 233), (x 234), (x 235), (x 236), (x 237), (x 238), (x 239), (x 240), (x 241), (x 242), (x 243), (x 244), (x 245), (x 246), (x 247), (x 248), (x 249), (x 250), (x 251), (x 252), (x 253), (x 254), (x 255), (x 256), (x 257), (x 258), (x 259), (x 260), (x 261)], defers := [] } w')) :
    (Code.region 26 pn26Ops true).wp Tryd.prog Q { tmps := #[(x 0), .pointer (some ⟨b1, 0, none⟩), (x 2), (x 3), (x 4), (x 5), (x 6), (x 7), (x 8), (x 9), (x 10), (x 11), (x 12), (x 13), v14, (x 15), (x 16), (x 17), (x 18), (x 19), (x 20), (x 21), (x 22), (x 23), (x 24), (x 25), (x 26), (x 27), (x 28), (x 29), (x 30), (x 31), (x 32), (x 33), (x 34), (x 35), (x 36), (x 37), (x 38), (x 39), (x 40), (x 41), (x 42), (x 43), (x 44), (x 45), (x 46), (x 47), (x 48), (x 49), (x 50), (x 51), (x 52), (x 53), (x 54), (x 55), (x 56), (x 57), (x 58), (x 59), (x 60), (x 61), (x 62), (x 63), (x 64), (x 65), (x 66), (x 67), (x 68), (x 69), (x 70), (x 71), (x 72), (x 73), (x 74), (x 75), (x 76), (x 77), (x 78), (x 79), (x 80), (x 81), (x 82), (x 83), (x 84), (x 85), (x 86), (x 87), (x 88), (x 89), (x 90), (x 91), (x 92), (x 93), (x 94), (x 95), (x 96), (x 97), (x 98), (x 99), (x 100), (x 101), (x 102), (x 103), (x 104), (x 105), (x 106), (x 107), (x 108), (x 109), (x 110), (x 111), (x 112), (x 113), (x 114), (x 115), (x 116), (x 117), (x 118), (x 119), (x 120), (x 121), (x 122), (x 123), (x 124), (x 125), (x 126), (x 127), (x 128), (x 129), (x 130), (x 131), (x 132), (x 133), (x 134), (x 135), (x 136), (x 137), (x 138), (x 139), (x 140), (x 141), (x 142), (x 143), (x 144), (x 145), (x 146), (x 147), (x 148), (x 149), (x 150), (x 151), (x 152), (x 153), (x 154), (x 155), (x 156), (x 157), (x 158), (x 159), (x 160), (x 161), (x 162), (x 163), (x 164), (x 165), (x 166), (x 167), (x 168), (x 169), (x 170), (x 171), (x 172), (x 173), (x 174), (x 175), (x 176), (x 177), (x 178), (x 179), (x 180), (x 181), (x 182), (x 183), (x 184), (x 185), (x 186), (x 187), (x 188), (x 189), (x 190), (x 191), (x 192), (x 193), (x 194), (x 195), (x 196), (x 197), (x 198), (x 199), (x 200), (x 201), v202, v203, v204, v205, v206, v207, (x 208), (x 209), (x 210), (x 211), (x 212), (x 213), (x 214), (x 215), (x 216), (x 217), (x 218), (x 219), (x 220), (x 221), (x 222), (x 223), (x 224), (x 225), (x 226), (x 227), (x 228), (x 229), (x 230), (x 231), (x 232), (x 233), (x 234), (x 235), (x 236), (x 237), (x 238), (x 239), (x 240), (x 241), (x 242), (x 243), (x 244), (x 245), (x 246), (x 247), (x 248), (x 249), (x 250), (x 251), (x 252), (x 253), (x 254), (x 255), (x 256), (x 257), (x 258), (x 259), (x 260), (x 261)], defers := [] } wr := by
  refine wp_region_inv0 (Pn26Inv bx b1 x V.heap.size V) (by kernel_rfl) ?_ ?_ ?_
  · exact ⟨rfl, HBV.out.drew, Nat.le_trans HBV.out.size (Nat.le_of_eq rfl), _, _, _, _, _, _, _, rfl, fun h => absurd h (by decide), fun h => absurd h (by decide), fun h => absurd h (by decide), fun h => absurd h (by decide), fun h => absurd h (by decide), fun h => absurd h (by decide), fun h => absurd h (by decide), fun h => absurd h (by decide), fun h => absurd h (by decide)⟩
  · exact pn26_step bx b1 x V HCX _ _
  · intro listed a' wz hI hr
    obtain ⟨hsz, hb, hB, z202, z203, z204, z205, z206, z207, z14, rfl, c0, c1, c2, c3, c4, c5, c6, c7, c8⟩ := hI
    have hall := all_listed hsz (by kernel_rfl) hr
    obtain ⟨g, rb, rfl, h1, h2, h3⟩ := c7 (hall 7 (by decide))
    unfold pn26F
    exact hQ.out g rb _ _ _ _ _ _ wz (Lib.hid ⟨h1, h2, h3⟩) (Lib.hid hb)

set_option maxRecDepth 100000 in
set_option maxHeartbeats 3200000 in
theorem pn_region26L {x0 x2 x3 x4 x5 x6 x7 x8 x9 x10 x11 x12 x13 x15 x16 x17 x18 x19 x20 x21 x22 x23 x24 x25 x26 x27 x28 x29 x30 x31 x32 x33 x34 x35 x36 x37 x38 x39 x40 x41 x42 x43 x44 x45 x46 x47 x48 x49 x50 x51 x52 x53 x54 x55 x56 x57 x58 x59 x60 x61 x62 x63 x64 x65 x66 x67 x68 x69 x70 x71 x72 x73 x74 x75 x76 x77 x78 x79 x80 x81 x82 x83 x84 x85 x86 x87 x88 x89 x90 x91 x92 x93 x94 x95 x96 x97 x98 x99 x100 x101 x102 x103 x104 x105 x106 x107 x108 x109 x110 x111 x112 x113 x114 x115 x116 x117 x118 x119 x120 x121 x122 x123 x124 x125 x126 x127 x128 x129 x130 x131 x132 x133 x134 x135 x136 x137 x138 x139 x140 x141 x142 x143 x144 x145 x146 x147 x148 x149 x150 x151 x152 x153 x154 x155 x156 x157 x158 x159 x160 x161 x162 x163 x164 x165 x166 x167 x168 x169 x170 x171 x172 x173 x174 x175 x176 x177 x178 x179 x180 x181 x182 x183 x184 x185 x186 x187 x188 x189 x190 x191 x192 x193 x194 x195 x196 x197 x198 x199 x200 x201 x208 x209 x210 x211 x212 x213 x214 x215 x216 x217 x218 x219 x220 x221 x222 x223 x224 x225 x226 x227 x228 x229 x230 x231 x232 x233 x234 x235 x236 x237 x238 x239 x240 x241 x242 x243 x244 x245 x246 x247 x248 x249 x250 x251 x252 x253 x254 x255 x256 x257 x258 x259 x260 x261 : Value} {v202 v203 v204 v205 v206 v207 v14 : Value} (bx b1 : Nat) (V wr : World) (HCX : Hid (∀ w', Below V.heap.size V w' → w'.cell? ⟨b1, 0, none⟩ = some (.slice (some ⟨bx, 0, none⟩) 1 1) ∧ w'.cell? ⟨b1, 1, none⟩ = some (.int .i64 0))) (HBV : Hid (Below V.heap.size V wr)) (Q : Exit → Act → World → Prop)
    (hQ : Hid (∀ (g rb : Nat) (u202 u203 u204 u205 u206 u207 : Value) (w' : World), Hid (V.heap.size ≤ g ∧ w'.heap[g]? = some (.cells #[.slice (some ⟨rb, 0, none⟩) 2 2] 46 (0, 0)) ∧ RowD bx V.heap.size w' rb) → Hid (Below V.heap.size V w') → Q .normal { tmps := #[x0, .pointer (some ⟨b1, 0, none⟩), x2, x3, x4, x5, x6, x7, x8, x9, x10, x11, x12, x13, .pointer (some ⟨g, 0, none⟩), x15, x16, x17, x18, x19, x20, x21, x22, x23, x24, x25, x26, x27, x28, x29, x30, x31, x32, x33, x34, x35, x36, x37, x38, x39, x40, x41, x42, x43, x44, x45, x46, x47, x48, x49, x50, x51, x52, x53, x54, x55, x56, x57, x58, x59, x60, x61, x62, x63, x64, x65, x66, x67, x68, x69, x70, x71, x72, x73, x74, x75, x76, x77, x78, x79, x80, x81, x82, x83, x84, x85, x86, x87, x88, x89, x90, x91, x92, x93, x94, x95, x96, x97, x98, x99, x100, x101, x102, x103, x104, x105, x106, x107, x108, x109, x110, x111, x112, x113, x114, x115, x116, x117, x118, x119, x120, x121, x122, x123, x124, x125, x126, x127, x128, x129, x130, x131, x132, x133, x134, x135, x136, x137, x138, x139, x140, x141, x142, x143, x144, x145, x146, x147, x148, x149, x150, x151, x152, x153, x154, x155, x156, x157, x158, x159, x160, x161, x162, x163, x164, x165, x166, x167, x168, x169, x170, x171, x172, x173, x174, x175, x176, x177, x178, x179, x180, x181, x182, x183, x184, x185, x186, x187, x188, x189, x190, x191, x192, x193, x194, x195, x196, x197, x198, x199, x200, x201, u202, u203, u204, u205, u206, u207, x208, x209, x210, x211, x212, x213, x214, x215, x216, x217, x218, x219, x220, x221, x222, x223, x224, x225, x226, x227, x228, x229, x230, x231, x232, x233, x234, x235, x236, x237, x238, x239, x240, x241, x242, x243, x244, x245, x246, x247, x248, x249, x250, x251, x252, x253, x254, x255, x256, x257, x258, x259, x260, x261], defers := [] } w')) :
    (Code.region 26 pn26Ops true).wp Tryd.prog Q { tmps := #[x0, .pointer (some ⟨b1, 0, none⟩), x2, x3, x4, x5, x6, x7, x8, x9, x10, x11, x12, x13, v14, x15, x16, x17, x18, x19, x20, x21, x22, x23, x24, x25, x26, x27, x28, x29, x30, x31, x32, x33, x34, x35, x36, x37, x38, x39, x40, x41, x42, x43, x44, x45, x46, x47, x48, x49, x50, x51, x52, x53, x54, x55, x56, x57, x58, x59, x60, x61, x62, x63, x64, x65, x66, x67, x68, x69, x70, x71, x72, x73, x74, x75, x76, x77, x78, x79, x80, x81, x82, x83, x84, x85, x86, x87, x88, x89, x90, x91, x92, x93, x94, x95, x96, x97, x98, x99, x100, x101, x102, x103, x104, x105, x106, x107, x108, x109, x110, x111, x112, x113, x114, x115, x116, x117, x118, x119, x120, x121, x122, x123, x124, x125, x126, x127, x128, x129, x130, x131, x132, x133, x134, x135, x136, x137, x138, x139, x140, x141, x142, x143, x144, x145, x146, x147, x148, x149, x150, x151, x152, x153, x154, x155, x156, x157, x158, x159, x160, x161, x162, x163, x164, x165, x166, x167, x168, x169, x170, x171, x172, x173, x174, x175, x176, x177, x178, x179, x180, x181, x182, x183, x184, x185, x186, x187, x188, x189, x190, x191, x192, x193, x194, x195, x196, x197, x198, x199, x200, x201, v202, v203, v204, v205, v206, v207, x208, x209, x210, x211, x212, x213, x214, x215, x216, x217, x218, x219, x220, x221, x222, x223, x224, x225, x226, x227, x228, x229, x230, x231, x232, x233, x234, x235, x236, x237, x238, x239, x240, x241, x242, x243, x244, x245, x246, x247, x248, x249, x250, x251, x252, x253, x254, x255, x256, x257, x258, x259, x260, x261], defers := [] } wr :=
  pn_region26 bx b1 (fun i => ([x0, undef, x2, x3, x4, x5, x6, x7, x8, x9, x10, x11, x12, x13, undef, x15, x16, x17, x18, x19, x20, x21, x22, x23, x24, x25, x26, x27, x28, x29, x30, x31, x32, x33, x34, x35, x36, x37, x38, x39, x40, x41, x42, x43, x44, x45, x46, x47, x48, x49, x50, x51, x52, x53, x54, x55, x56, x57, x58, x59, x60, x61, x62, x63, x64, x65, x66, x67, x68, x69, x70, x71, x72, x73, x74, x75, x76, x77, x78, x79, x80, x81, x82, x83, x84, x85, x86, x87, x88, x89, x90, x91, x92, x93, x94, x95, x96, x97, x98, x99, x100, x101, x102, x103, x104, x105, x106, x107, x108, x109, x110, x111, x112, x113, x114, x115, x116, x117, x118, x119, x120, x121, x122, x123, x124, x125, x126, x127, x128, x129, x130, x131, x132, x133, x134, x135, x136, x137, x138, x139, x140, x141, x142, x143, x144, x145, x146, x147, x148, x149, x150, x151, x152, x153, x154, x155, x156, x157, x158, x159, x160, x161, x162, x163, x164, x165, x166, x167, x168, x169, x170, x171, x172, x173, x174, x175, x176, x177, x178, x179, x180, x181, x182, x183, x184, x185, x186, x187, x188, x189, x190, x191, x192, x193, x194, x195, x196, x197, x198, x199, x200, x201, undef, undef, undef, undef, undef, undef, x208, x209, x210, x211, x212, x213, x214, x215, x216, x217, x218, x219, x220, x221, x222, x223, x224, x225, x226, x227, x228, x229, x230, x231, x232, x233, x234, x235, x236, x237, x238, x239, x240, x241, x242, x243, x244, x245, x246, x247, x248, x249, x250, x251, x252, x253, x254, x255, x256, x257, x258, x259, x260, x261] : List Value).getD i undef) v202 v203 v204 v205 v206 v207 v14 V wr HCX HBV Q hQ
end Go.Proofs.YtdnochjajoiooaaDoor
