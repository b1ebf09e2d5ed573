/- Plain texts of trees: signs, literals, classes, counts, nodes; no program in sight. -/
import Derived.Test.YtdcgbcdmkhleoaaDoorDa
import Derived.Test.YtdcgbcdmkhleoaaDoorPn
import Derived.Lib.TrailingZeros
namespace Go.Proofs.YtdcgbcdmkhleoaaDoor
set_option linter.unusedSimpArgs false
set_option linter.unusedVariables false

/-! ### bytes -/
def hexB (n : Nat) : UInt8 := if n < 10 then UInt8.ofNat (48 + n) else UInt8.ofNat (87 + n)
/-- A byte's own sign; left: what has a backslash ahead, besides the backslash. -/
def signB (left : List UInt8) (b : UInt8) : List UInt8 :=
  if (32 ≤ b.toNat ∧ b.toNat ≤ 126) ∧ b ≠ 92 ∧ b ∉ left then [b]
  else if b = 10 then [92, 110] else if b = 13 then [92, 114] else if b = 9 then [92, 116]
  else if b = 92 ∨ b ∈ left then [92, b]
  else [92, 120, hexB (b.toNat / 16), hexB (b.toNat % 16)]
theorem signB_len (left : List UInt8) (b : UInt8) : 1 ≤ (signB left b).length ∧ (signB left b).length ≤ 4 := by
  unfold signB
  split
  · simp
  split
  · simp
  split
  · simp
  split
  · simp
  split <;> simp
def litB (s : List UInt8) : List UInt8 := [34] ++ s.flatMap (signB [34]) ++ [34]
theorem flat_len {α : Type} (f : α → List UInt8) (m : Nat) : ∀ l : List α, (∀ x ∈ l, (f x).length ≤ m) → (l.flatMap f).length ≤ l.length * m
  | [], _ => by simp
  | x :: l, h => by
    have h1 := flat_len f m l fun y hy => h y (List.mem_cons_of_mem _ hy)
    have h2 := h x List.mem_cons_self
    simp only [List.flatMap_cons, List.length_append, List.length_cons, Nat.succ_mul]
    omega
theorem litB_len (s : List UInt8) : (litB s).length ≤ s.length * 4 + 2 := by
  have := flat_len (signB [34]) 4 s fun x _ => (signB_len [34] x).2
  simp only [litB, List.length_append, List.length_singleton]
  omega

/-! ### sets -/
/-- Is a byte in a set of four words? -/
def hasW (ws : List Nat) (b : Nat) : Bool := (ws.getD (b / 64) 0).testBit (b % 64)
def addRun (l : List (Nat × Nat)) (b : Nat) : List (Nat × Nat) :=
  match l.getLast? with
  | some (x, y) => if y + 1 = b then l.dropLast ++ [(x, b)] else l ++ [(b, b)]
  | none => [(b, b)]
def runsF (f : Nat → Bool) : List (Nat × Nat) := ((List.range 256).filter f).foldl addRun []
def runB (r : Nat × Nat) : List UInt8 :=
  signB [93, 45, 94] (UInt8.ofNat r.1) ++ (if r.1 + 1 < r.2 then [45] else []) ++ (if r.1 ≠ r.2 then signB [93, 45, 94] (UInt8.ofNat r.2) else [])
def classF (f : Nat → Bool) : List UInt8 := if (List.range 256).all f then [46] else [91] ++ (runsF f).flatMap runB ++ [93]
def wordsN (n : Nd) : List Nat := [n.s0.toNat, n.s1.toNat, n.s2.toNat, n.s3.toNat]
def classB (n : Nd) : List UInt8 := classF (hasW (wordsN n))
theorem addRun_len (l : List (Nat × Nat)) (b : Nat) : (addRun l b).length ≤ l.length + 1 := by
  unfold addRun
  split
  · split
    · simp
    · simp
  · simp
theorem foldRun_len : ∀ (m : List Nat) (l : List (Nat × Nat)), (m.foldl addRun l).length ≤ l.length + m.length
  | [], l => by simp
  | b :: m, l => by
    have := foldRun_len m (addRun l b)
    have := addRun_len l b
    simp only [List.foldl_cons, List.length_cons]
    omega
theorem runsF_len (f : Nat → Bool) : (runsF f).length ≤ 256 := by
  have h := foldRun_len ((List.range 256).filter f) []
  have h2 := List.length_filter_le f (List.range 256)
  simp only [List.length_range, List.length_nil] at h h2
  unfold runsF
  omega
theorem runB_len (r : Nat × Nat) : (runB r).length ≤ 9 := by
  have h1 := signB_len [93, 45, 94] (UInt8.ofNat r.1)
  have h2 := signB_len [93, 45, 94] (UInt8.ofNat r.2)
  simp only [runB, List.length_append]
  split <;> split <;> simp only [List.length_singleton, List.length_nil] <;> omega
theorem classF_len (f : Nat → Bool) : (classF f).length ≤ 2306 := by
  unfold classF
  split
  · simp
  · have h := flat_len runB 9 (runsF f) fun x _ => runB_len x
    have := runsF_len f
    simp only [List.length_append, List.length_singleton]
    omega

/-! ### nodes -/
def numB (n : Int) : List UInt8 := Lib.itoa n
def countB (lo hi : Int) : List UInt8 :=
  if ¬ (0 ≤ lo ∧ lo ≤ 99 ∧ (hi = -1 ∨ (lo ≤ hi ∧ hi ≤ 99))) then []
  else if lo = 0 ∧ hi = 1 then [63] else if lo = 0 ∧ hi = -1 then [42] else if lo = 1 ∧ hi = -1 then [43]
  else if hi = lo then [123] ++ numB lo ++ [125]
  else if hi = -1 then [123] ++ numB lo ++ [44, 125]
  else [123] ++ numB lo ++ [44] ++ numB hi ++ [125]
def wrapsK (k d : Int) : Bool :=
  if k = 5 then decide (d = 5)
  else if k = 4 ∨ k = 7 ∨ k = 8 then decide (d = 4 ∨ d = 5)
  else if k = 6 then decide (d = 4 ∨ d = 5 ∨ d = 6 ∨ d = 7 ∨ d = 8)
  else false
def aheadB (n : Nd) : List UInt8 :=
  if n.kind = 0 ∨ n.kind = 2 then litB n.text.data.toList
  else if n.kind = 1 then classB n
  else if n.kind = 3 then n.text.data.toList
  else if n.kind = 7 then [38] else if n.kind = 8 then [33]
  else if n.kind = 9 then [60] ++ n.text.data.toList ++ [58, 32]
  else []
def behindB (n : Nd) : List UInt8 := if n.kind = 6 then countB n.mn n.mx else if n.kind = 9 then [62] else []
def betweenB (n : Nd) : List UInt8 := if n.kind = 4 then [32] else if n.kind = 5 then [32, 47, 32] else []
/-- What is still to be written of a node: how many of its kids are begun, and whether it stands in parentheses. -/
def restF (l : List Nd) : Nat → Nat → Nat → Bool → List UInt8
  | 0, _, _, _ => []
  | f + 1, i, j, w =>
    (if j = 0 then (if w then [40] else []) ++ aheadB (ndAt l i) else []) ++
    (((kidsAt l i).zipIdx).drop j).flatMap (fun p => (if 0 < p.2 then betweenB (ndAt l i) else []) ++ restF l f p.1 0 (wrapsK (ndAt l i).kind (ndAt l p.1).kind)) ++
    behindB (ndAt l i) ++ (if w then [41] else [])
def restN (l : List Nd) (i j : Nat) (w : Bool) : List UInt8 := restF l (i + 1) i j w
theorem restF_stable {l : List Nd} (h : Ahead l) : ∀ (f g i j : Nat) (w : Bool), i < f → i < g → restF l f i j w = restF l g i j w
  | 0, _, _, _, _, hf, _ => by omega
  | _, 0, _, _, _, _, hg => by omega
  | f + 1, g + 1, i, j, w, hf, hg => by
    simp only [restF]
    congr 3
    simp only [List.flatMap]
    congr 1
    refine List.map_congr_left fun p hp => ?_
    have hk : p.1 ∈ kidsAt l i := by
      have h1 := List.mem_of_mem_drop hp
      obtain ⟨a, b⟩ := p
      have h2 := List.mem_zipIdx h1
      simp only at h2 ⊢
      rw [h2.2.2]; exact List.getElem_mem _
    have := h i p.1 hk
    congr 1
    exact restF_stable h f g p.1 0 _ (by omega) (by omega)
theorem restN_eq {l : List Nd} (h : Ahead l) (i j : Nat) (w : Bool) : restN l i j w =
    (if j = 0 then (if w then [40] else []) ++ aheadB (ndAt l i) else []) ++
    (((kidsAt l i).zipIdx).drop j).flatMap (fun p => (if 0 < p.2 then betweenB (ndAt l i) else []) ++ restN l p.1 0 (wrapsK (ndAt l i).kind (ndAt l p.1).kind)) ++
    behindB (ndAt l i) ++ (if w then [41] else []) := by
  show restF l (i + 1) i j w = _
  simp only [restF]
  congr 3
  simp only [List.flatMap]
  congr 1
  refine List.map_congr_left fun p hp => ?_
  have hk : p.1 ∈ kidsAt l i := by
    have h1 := List.mem_of_mem_drop hp
    obtain ⟨a, b⟩ := p
    have h2 := List.mem_zipIdx h1
    simp only at h2 ⊢
    rw [h2.2.2]; exact List.getElem_mem _
  have := h i p.1 hk
  congr 1
  exact restF_stable h i (p.1 + 1) p.1 0 _ (by omega) (by omega)
/-- One more kid is begun. -/
theorem rest_kid {l : List Nd} (h : Ahead l) (i j : Nat) (w : Bool) (hj : j < (kidsAt l i).length) : restN l i j w =
    (if j = 0 then (if w then [40] else []) ++ aheadB (ndAt l i) else []) ++ (if 0 < j then betweenB (ndAt l i) else []) ++
      restN l (kidsAt l i)[j] 0 (wrapsK (ndAt l i).kind (ndAt l (kidsAt l i)[j]).kind) ++ restN l i (j + 1) w := by
  rw [restN_eq h i j w, restN_eq h i (j + 1) w]
  have hz : j < ((kidsAt l i).zipIdx).length := by simpa using hj
  rw [List.drop_eq_getElem_cons hz]
  simp only [List.flatMap_cons, List.getElem_zipIdx, Nat.zero_add, if_neg (show ¬ (j + 1 = 0) by omega), List.nil_append, List.append_assoc]
theorem rest_end {l : List Nd} (h : Ahead l) (i j : Nat) (w : Bool) (hj : (kidsAt l i).length ≤ j) : restN l i j w =
    (if j = 0 then (if w then [40] else []) ++ aheadB (ndAt l i) else []) ++ behindB (ndAt l i) ++ (if w then [41] else []) := by
  rw [restN_eq h i j w, List.drop_of_length_le (by simpa using hj)]
  simp only [List.flatMap_nil, List.append_nil]
def treeB (t : Tr) : List UInt8 := if rightT t then restN t.nodes t.root.toNat 0 false else []
def defB (d : Df) : List UInt8 := if treeB d.body = [] ∨ ¬ mayL d.name.data.toList then [] else d.name.data.toList ++ [32, 60, 45, 32] ++ treeB d.body ++ [10]
def gramB : List Df → Option (List UInt8)
  | [] => some []
  | d :: ds => if defB d = [] then none else (gramB ds).map (defB d ++ ·)
/-! ### how many steps it takes -/
def stepF (l : List Nd) : Nat → Nat → Nat → Nat
  | 0, _, _ => 1
  | f + 1, i, j => 1 + (((kidsAt l i).drop j).map fun k => 1 + stepF l f k 0).sum
def stepN (l : List Nd) (i j : Nat) : Nat := stepF l (i + 1) i j
theorem stepF_stable {l : List Nd} (h : Ahead l) : ∀ (f g i j : Nat), i < f → i < g → stepF l f i j = stepF l g i j
  | 0, _, _, _, hf, _ => by omega
  | _, 0, _, _, _, hg => by omega
  | f + 1, g + 1, i, j, hf, hg => by
    simp only [stepF]
    congr 2
    refine List.map_congr_left fun k hk => ?_
    have := h i k (List.mem_of_mem_drop hk)
    rw [stepF_stable h f g k 0 (by omega) (by omega)]
theorem stepN_eq {l : List Nd} (h : Ahead l) (i j : Nat) : stepN l i j = 1 + (((kidsAt l i).drop j).map fun k => 1 + stepN l k 0).sum := by
  show stepF l (i + 1) i j = _
  simp only [stepF]
  congr 2
  refine List.map_congr_left fun k hk => ?_
  have := h i k (List.mem_of_mem_drop hk)
  rw [stepF_stable h i (k + 1) k 0 (by omega) (by omega)]; rfl
theorem step_kid {l : List Nd} (h : Ahead l) (i j : Nat) (hj : j < (kidsAt l i).length) : stepN l i j = 1 + stepN l (kidsAt l i)[j] 0 + stepN l i (j + 1) := by
  rw [stepN_eq h i j, stepN_eq h i (j + 1), List.drop_eq_getElem_cons hj]
  simp only [List.map_cons, List.sum_cons]
  omega
theorem step_end {l : List Nd} (h : Ahead l) (i j : Nat) (hj : (kidsAt l i).length ≤ j) : stepN l i j = 1 := by
  rw [stepN_eq h i j, List.drop_of_length_le hj]; rfl

/-! ### how long it is -/
theorem itoa_len2 : ∀ n : Nat, n < 100 → (Lib.itoa (n : Int)).length ≤ 2 := fun n h => by
  rw [itoa_nat]
  by_cases h1 : n < 10
  · rw [Lib.decDigits_one h1]; simp
  · rw [Lib.decDigits_two h1 h]; simp
theorem countB_len (lo hi : Int) : (countB lo hi).length ≤ 7 := by
  unfold countB
  split
  · simp
  rename_i h
  simp only [Decidable.not_not] at h
  have h1 : (numB lo).length ≤ 2 := by
    have := itoa_len2 lo.toNat (by omega)
    rw [show ((lo.toNat : Nat) : Int) = lo by omega] at this
    exact this
  split
  · simp
  split
  · simp
  split
  · simp
  split
  · simp only [List.length_append, List.length_singleton]; omega
  split
  · simp only [List.length_append, List.length_cons, List.length_nil]; omega
  · rename_i h4 h5
    have h2 : (numB hi).length ≤ 2 := by
      have := itoa_len2 hi.toNat (by omega)
      rw [show ((hi.toNat : Nat) : Int) = hi by omega] at this
      exact this
    simp only [List.length_append, List.length_singleton]; omega
theorem rest_len {l : List Nd} (h : Ahead l) (C : Nat) (hC : ∀ i, (aheadB (ndAt l i)).length + (behindB (ndAt l i)).length + 5 ≤ C) : ∀ i w, (restN l i 0 w).length + 3 ≤ C * (postN l i).length := by
  intro i
  induction i using Nat.strongRecOn with
  | _ i ih =>
    intro w
    rw [restN_eq h, postN_eq h]
    simp only [if_true, List.drop_zero, List.length_append, List.length_singleton]
    have hb : ∀ w : Bool, (if w = true then [(40 : UInt8)] else []).length ≤ 1 ∧ (if w = true then [(41 : UInt8)] else []).length ≤ 1 := fun w => by cases w <;> simp
    have h1 := hb w
    have hk : ∀ (m : List Nat) (n : Nat), (∀ k ∈ m, k < i) → ((m.zipIdx n).flatMap fun p => (if 0 < p.2 then betweenB (ndAt l i) else []) ++ restN l p.1 0 (wrapsK (ndAt l i).kind (ndAt l p.1).kind)).length ≤ C * (m.flatMap (postN l)).length := by
      intro m
      induction m with
      | nil => intro n _; simp
      | cons k m ihm =>
        intro n hm
        have h2 := ihm (n + 1) fun z hz => hm z (List.mem_cons_of_mem _ hz)
        have h3 := ih k (hm k List.mem_cons_self) (wrapsK (ndAt l i).kind (ndAt l k).kind)
        have h4 : (if 0 < n then betweenB (ndAt l i) else []).length ≤ 3 := by
          split
          · unfold betweenB; split
            · simp
            · split <;> simp
          · simp
        simp only [List.zipIdx_cons, List.flatMap_cons, List.length_append, Nat.mul_add]
        omega
    have h5 := hk (kidsAt l i) 0 (fun k hk => h i k hk)
    have h6 := hC i
    simp only [Nat.mul_add, Nat.mul_one]
    omega
theorem ahead_len {n : Nd} {k : Int} (h : fitN n k = true) : (aheadB n).length ≤ 2306 := by
  unfold fitN at h
  unfold aheadB
  by_cases h0 : n.kind = 0
  · rw [if_pos (.inl h0)]
    rw [if_pos h0] at h
    simp only [Bool.and_eq_true, noText, decide_eq_true_eq] at h
    have h1 := litB_len n.text.data.toList
    have h2 : n.text.data.toList.length = 0 := h.1.1.2
    omega
  rw [if_neg h0] at h
  by_cases h1 : n.kind = 1
  · rw [if_neg (by omega), if_pos h1]; exact classF_len _
  rw [if_neg h1] at h
  by_cases h2 : n.kind = 2
  · rw [if_pos (.inr h2)]
    rw [if_pos h2] at h
    simp only [Bool.and_eq_true, decide_eq_true_eq] at h
    have h1 := litB_len n.text.data.toList
    have h2 : n.text.data.toList.length ≤ 255 := h.2.2
    omega
  rw [if_neg h2] at h
  rw [if_neg (by omega), if_neg h1]
  by_cases h3 : n.kind = 3
  · rw [if_pos h3]
    rw [if_pos h3] at h
    simp only [Bool.and_eq_true, mayL, decide_eq_true_eq] at h
    have := h.2.2.1
    omega
  rw [if_neg h3] at h ⊢
  split
  · simp
  split
  · simp
  split
  · rename_i h7 h8 h9
    rw [if_neg (by omega), if_neg (by omega), if_neg (by omega), if_neg h7, if_neg h8, if_pos h9] at h
    simp only [Bool.and_eq_true, mayL, decide_eq_true_eq] at h
    have := h.2.2.1
    simp only [List.length_append, List.length_cons, List.length_nil]
    omega
  · simp
theorem behind_len (n : Nd) : (behindB n).length ≤ 7 := by
  unfold behindB
  split
  · exact countB_len _ _
  · split <;> simp
theorem ndAt_fit {t : Tr} (h : rightP t) (i : Nat) : ∃ k, fitN (ndAt t.nodes i) k = true := by
  unfold ndAt
  cases e : t.nodes[i]? with
  | none => exact ⟨0, by decide⟩
  | some n => exact ⟨_, rightP_fit h e⟩
theorem treeB_len (t : Tr) : (treeB t).length ≤ 2400 * t.nodes.length := by
  unfold treeB
  split
  · rename_i h
    have hr := (rightT_iff t).1 h
    have h1 := rest_len (rightP_ahead hr) 2400 (fun i => by
      obtain ⟨k, hk⟩ := ndAt_fit hr i
      have := ahead_len hk; have := behind_len (ndAt t.nodes i); omega) t.root.toNat false
    have h2 := post_length hr t.root.toNat (by have := hr.1; omega)
    have h3 := Nat.mul_le_mul_left 2400 h2
    omega
  · simp
end Go.Proofs.YtdcgbcdmkhleoaaDoor

/- Plain laws of a word's bits, lowest first; no program in sight. -/
namespace Go.Proofs.YtdcgbcdmkhleoaaDoor
set_option linter.unusedSimpArgs false
set_option linter.unusedVariables false

def bitsL (x : Nat) : List Nat := (List.range 64).filter x.testBit
theorem bits_zero : bitsL 0 = [] := by simp [bitsL]
theorem low_parts {x : Nat} (h0 : x ≠ 0) (h : x < 18446744073709551616) : ∃ m, x = 2 ^ Lib.ctz 64 x * (2 * m + 1) ∧ Lib.ctz 64 x < 64 := by
  unfold Lib.ctz
  rw [if_neg h0]
  exact Lib.ctzFrom_spec 64 x (by omega) (by omega)
theorem odd_bit (m j : Nat) : (2 * m + 1).testBit j = if j = 0 then true else m.testBit (j - 1) := by
  cases j with
  | zero => simp [Nat.testBit_zero]
  | succ j =>
    simp only [Nat.testBit_succ, Nat.add_sub_cancel]
    rw [show (2 * m + 1) / 2 = m by omega]; simp
theorem even_bit (m j : Nat) : (2 * m).testBit j = if j = 0 then false else m.testBit (j - 1) := by
  cases j with
  | zero => simp [Nat.testBit_zero]
  | succ j => simp [Nat.testBit_succ]
theorem and_pred (k m : Nat) : (2 ^ k * (2 * m + 1)) &&& (2 ^ k * (2 * m + 1) - 1) = 2 ^ k * (2 * m) := by
  have hp : 0 < 2 ^ k := Nat.two_pow_pos k
  have e : 2 ^ k * (2 * m + 1) - 1 = 2 ^ k * (2 * m) + (2 ^ k - 1) := by rw [Nat.mul_add]; omega
  rw [e]
  apply Nat.eq_of_testBit_eq
  intro j
  rw [Nat.testBit_and, Nat.testBit_two_pow_mul_add _ (by omega), Nat.testBit_two_pow_mul, Nat.testBit_two_pow_mul]
  by_cases hj : j < k
  · have h1 : decide (j ≥ k) = false := by simp; omega
    simp [h1]
  · have h1 : decide (j ≥ k) = true := by simp; omega
    rw [if_neg hj, h1, odd_bit, even_bit]
    by_cases h2 : j - k = 0
    · simp [h2]
    · simp [h2]
theorem bits_step {x : Nat} (h0 : x ≠ 0) (h : x < 18446744073709551616) : bitsL x = Lib.ctz 64 x :: bitsL (x &&& (x - 1)) := by
  obtain ⟨m, hm, hk⟩ := low_parts h0 h
  generalize Lib.ctz 64 x = k at hm hk ⊢
  subst hm
  rw [and_pred]
  unfold bitsL
  have er : List.range 64 = List.range k ++ k :: List.range' (k + 1) (63 - k) := by
    rw [List.range_eq_range', List.range_eq_range']
    have h1 : List.range' 0 64 = List.range' 0 k ++ List.range' k (64 - k) := by
      have := List.range'_append (s := 0) (m := k) (n := 64 - k) (step := 1)
      rw [show k + (64 - k) = 64 by omega] at this
      simpa using this.symm
    rw [h1, show 64 - k = (63 - k) + 1 by omega, List.range'_succ]
  rw [er]
  have hb : ∀ j, (2 ^ k * (2 * m + 1)).testBit j = (decide (j = k) || (2 ^ k * (2 * m)).testBit j) := fun j => by
    rw [Nat.testBit_two_pow_mul, Nat.testBit_two_pow_mul, odd_bit, even_bit]
    by_cases h1 : j = k
    · subst h1; simp
    · by_cases h2 : j ≥ k
      · have : j - k ≠ 0 := by omega
        simp [h1, h2, this]
      · simp [h1, h2]
  have hlow : ∀ j, j ≤ k → (2 ^ k * (2 * m)).testBit j = false := fun j hj => by
    rw [Nat.testBit_two_pow_mul, even_bit]
    by_cases h1 : j = k
    · subst h1; simp
    · have : ¬ j ≥ k := by omega
      simp [this]
  rw [List.filter_append, List.filter_append, List.filter_cons, List.filter_cons]
  have e1 : (List.range k).filter (2 ^ k * (2 * m + 1)).testBit = [] := List.filter_eq_nil_iff.2 fun j hj => by
    rw [hb, hlow j (by have := List.mem_range.1 hj; omega)]
    have := List.mem_range.1 hj
    simp; omega
  have e2 : (List.range k).filter (2 ^ k * (2 * m)).testBit = [] := List.filter_eq_nil_iff.2 fun j hj => by
    rw [hlow j (by have := List.mem_range.1 hj; omega)]; simp
  have e3 : (List.range' (k + 1) (63 - k)).filter (2 ^ k * (2 * m + 1)).testBit = (List.range' (k + 1) (63 - k)).filter (2 ^ k * (2 * m)).testBit := List.filter_congr fun j hj => by
    rw [hb]
    have := List.mem_range'_1.1 hj
    have h1 : decide (j = k) = false := by simp; omega
    rw [h1]; rfl
  rw [e1, e2, e3, hb k, hlow k (Nat.le_refl _)]
  simp
theorem bits_lt {x b : Nat} (h : b ∈ bitsL x) : b < 64 := List.mem_range.1 (List.mem_filter.1 h).1
theorem filter_block (f : Nat → Bool) (a n : Nat) : (List.range (a + n)).filter f = (List.range a).filter f ++ ((List.range n).filter fun j => f (a + j)).map (a + ·) := by
  rw [List.range_add, List.filter_append, List.filter_map]; rfl
theorem has_block (w0 w1 w2 w3 i j : Nat) (hi : i < 4) (hj : j < 64) : hasW [w0, w1, w2, w3] (i * 64 + j) = ([w0, w1, w2, w3].getD i 0).testBit j := by
  unfold hasW
  rw [show (i * 64 + j) / 64 = i by omega, show (i * 64 + j) % 64 = j by omega]
theorem set_bits (w0 w1 w2 w3 : Nat) : (List.range 256).filter (hasW [w0, w1, w2, w3]) = bitsL w0 ++ (bitsL w1).map (64 + ·) ++ (bitsL w2).map (128 + ·) ++ (bitsL w3).map (192 + ·) := by
  rw [show 256 = 192 + 64 from rfl, filter_block, show 192 = 128 + 64 from rfl, filter_block, show 128 = 64 + 64 from rfl, filter_block]
  have h : ∀ i, i < 4 → ((List.range 64).filter fun j => hasW [w0, w1, w2, w3] (i * 64 + j)) = bitsL ([w0, w1, w2, w3].getD i 0) := fun i hi => List.filter_congr fun j hj => by
    rw [has_block _ _ _ _ i j hi (List.mem_range.1 hj)]
  have h0 := h 0 (by decide); have h1 := h 1 (by decide); have h2 := h 2 (by decide); have h3 := h 3 (by decide)
  simp only [Nat.zero_mul, Nat.zero_add] at h0
  rw [show (List.range 64).filter (hasW [w0, w1, w2, w3]) = bitsL w0 from h0]
  rw [show ((List.range 64).filter fun j => hasW [w0, w1, w2, w3] (64 + j)) = bitsL w1 from h1]
  rw [show ((List.range 64).filter fun j => hasW [w0, w1, w2, w3] (64 + 64 + j)) = bitsL w2 from h2]
  rw [show ((List.range 64).filter fun j => hasW [w0, w1, w2, w3] (64 + 64 + 64 + j)) = bitsL w3 from h3]
end Go.Proofs.YtdcgbcdmkhleoaaDoor

/- Plain: a node's text, put together of its kids' texts; the stack of nodes that are being written. -/
namespace Go.Proofs.YtdcgbcdmkhleoaaDoor
set_option linter.unusedSimpArgs false
set_option linter.unusedVariables false

def joinB (sep : List UInt8) : List (List UInt8) → List UInt8
  | [] => []
  | x :: r => x ++ r.flatMap (sep ++ ·)
theorem zip_flat (sep : List UInt8) (g : Nat → List UInt8) : ∀ (m : List Nat) (n : Nat), 0 < n → ((m.zipIdx n).flatMap fun p => (if 0 < p.2 then sep else []) ++ g p.1) = (m.map g).flatMap (sep ++ ·)
  | [], _, _ => rfl
  | k :: m, n, hn => by
    simp only [List.zipIdx_cons, List.flatMap_cons, List.map_cons, if_pos hn, zip_flat sep g m (n + 1) (by omega)]
theorem zip_join (sep : List UInt8) (g : Nat → List UInt8) (m : List Nat) : ((m.zipIdx).flatMap fun p => (if 0 < p.2 then sep else []) ++ g p.1) = joinB sep (m.map g) := by
  cases m with
  | nil => rfl
  | cons k m =>
    simp only [List.zipIdx_cons, List.flatMap_cons, List.map_cons, joinB, zip_flat sep g m (0 + 1) (by omega)]
    simp
/-- The text of what stands at a node. -/
def textN (l : List Nd) (i : Nat) : List UInt8 := restN l i 0 false
def wrapB (w : Bool) (s : List UInt8) : List UInt8 := if w then [40] ++ s ++ [41] else s
theorem rest_wrap {l : List Nd} (h : Ahead l) (i : Nat) (w : Bool) : restN l i 0 w = wrapB w (textN l i) := by
  unfold textN wrapB
  rw [restN_eq h i 0 w, restN_eq h i 0 false]
  cases w <;> simp
theorem text_eq {l : List Nd} (h : Ahead l) (i : Nat) : textN l i = aheadB (ndAt l i) ++ joinB (betweenB (ndAt l i)) ((kidsAt l i).map fun k => wrapB (wrapsK (ndAt l i).kind (ndAt l k).kind) (textN l k)) ++ behindB (ndAt l i) := by
  have e : ∀ p : Nat × Nat, ((if 0 < p.2 then betweenB (ndAt l i) else []) ++ restN l p.1 0 (wrapsK (ndAt l i).kind (ndAt l p.1).kind)) = (if 0 < p.2 then betweenB (ndAt l i) else []) ++ (fun k => wrapB (wrapsK (ndAt l i).kind (ndAt l k).kind) (textN l k)) p.1 := fun p => by rw [rest_wrap h]
  conv => lhs; unfold textN
  rw [restN_eq h i 0 false]
  simp only [List.drop_zero, e]
  have hz := zip_join (betweenB (ndAt l i)) (fun k => wrapB (wrapsK (ndAt l i).kind (ndAt l k).kind) (textN l k)) (kidsAt l i)
  rw [hz]
  simp

/-! ### the stack -/
structure Op where
  node : Nat
  kid : Nat
  wrapped : Bool
def opRest (l : List Nd) (o : Op) : List UInt8 := restN l o.node o.kid o.wrapped
/-- What is still to be written, the stack's end first. -/
def stRest (l : List Nd) (st : List Op) : List UInt8 := st.reverse.flatMap (opRest l)
def stStep (l : List Nd) (st : List Op) : Nat := (st.map fun o => stepN l o.node o.kid).sum
theorem stRest_snoc (l : List Nd) (st : List Op) (o : Op) : stRest l (st ++ [o]) = opRest l o ++ stRest l st := by simp [stRest]
theorem stStep_snoc (l : List Nd) (st : List Op) (o : Op) : stStep l (st ++ [o]) = stStep l st + stepN l o.node o.kid := by simp [stStep]
theorem st_push {l : List Nd} (h : Ahead l) (st : List Op) (i j : Nat) (w : Bool) (hj : j < (kidsAt l i).length) :
    stRest l (st ++ [⟨i, j, w⟩]) = ((if j = 0 then (if w then [40] else []) ++ aheadB (ndAt l i) else []) ++ (if 0 < j then betweenB (ndAt l i) else [])) ++
      stRest l (st ++ [⟨i, j + 1, w⟩] ++ [⟨(kidsAt l i)[j], 0, wrapsK (ndAt l i).kind (ndAt l (kidsAt l i)[j]).kind⟩]) ∧
    stStep l (st ++ [⟨i, j, w⟩]) = 1 + stStep l (st ++ [⟨i, j + 1, w⟩] ++ [⟨(kidsAt l i)[j], 0, wrapsK (ndAt l i).kind (ndAt l (kidsAt l i)[j]).kind⟩]) := by
  constructor
  · rw [stRest_snoc, stRest_snoc, stRest_snoc]
    show restN l i j w ++ _ = _
    rw [rest_kid h i j w hj]
    simp only [opRest, List.append_assoc]
  · rw [stStep_snoc, stStep_snoc, stStep_snoc]
    simp only
    rw [step_kid h i j hj]
    omega
theorem st_pop {l : List Nd} (h : Ahead l) (st : List Op) (i j : Nat) (w : Bool) (hj : (kidsAt l i).length ≤ j) :
    stRest l (st ++ [⟨i, j, w⟩]) = ((if j = 0 then (if w then [40] else []) ++ aheadB (ndAt l i) else []) ++ behindB (ndAt l i) ++ (if w then [41] else [])) ++ stRest l st ∧
    stStep l (st ++ [⟨i, j, w⟩]) = 1 + stStep l st := by
  constructor
  · rw [stRest_snoc]
    show restN l i j w ++ _ = _
    rw [rest_end h i j w hj]
  · rw [stStep_snoc]
    simp only
    rw [step_end h i j hj]
    omega
end Go.Proofs.YtdcgbcdmkhleoaaDoor
