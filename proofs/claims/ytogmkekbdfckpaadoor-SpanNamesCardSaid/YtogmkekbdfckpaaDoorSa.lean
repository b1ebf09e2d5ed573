/- Plain laws of layer 14 (outcomes and captures): no program in sight. -/
import Derived.Test.YtogmkekbdfckpaaDoorPn
namespace Go.Proofs.YtogmkekbdfckpaaDoor
open Go.RowKit

structure Cap where
  name : ByteArray
  frm : Int
  to : Int
deriving DecidableEq
structure Outc where
  ok : Bool
  to : Int
  caps : List Cap
deriving DecidableEq

def capOk (to : Int) (c : Cap) : Bool := mayL c.name.data.toList && decide (0 ≤ c.frm ∧ c.frm ≤ c.to ∧ c.to ≤ to)
/-- One capture and a later one. -/
def Fits (a b : Cap) : Prop := a.frm ≤ b.frm ∧ ¬ (b.frm < a.to ∧ a.to < b.to)
instance (a b : Cap) : Decidable (Fits a b) := by unfold Fits; infer_instance
def mayO (o : Outc) (n : Int) : Bool :=
  decide (0 ≤ n ∧ n ≤ 4096) && (if o.ok then decide (0 ≤ o.to ∧ o.to ≤ n) && (decide (o.caps.length ≤ 65536) && (o.caps.all (capOk o.to) && decide (o.caps.Pairwise Fits))) else decide (o.to = 0 ∧ o.caps = []))

def joinO (a b : Outc) : Outc := if a.ok && b.ok then ⟨true, b.to, a.caps ++ b.caps⟩ else ⟨false, 0, []⟩
def capO (s : ByteArray) (frm : Int) (o : Outc) : Outc := if o.ok then ⟨true, o.to, ⟨s, frm, o.to⟩ :: o.caps⟩ else ⟨false, 0, []⟩
def moveC (by' : Int) (c : Cap) : Cap := ⟨c.name, c.frm + by', c.to + by'⟩
def shiftO (o : Outc) (by' : Int) : Outc × Bool :=
  if mayO o 4096 then
    if o.ok then
      if -4096 ≤ by' ∧ by' ≤ 4096 ∧ 0 ≤ o.to + by' ∧ o.to + by' ≤ 4096 ∧ ∀ c ∈ o.caps, 0 ≤ c.frm + by' then (⟨true, o.to + by', o.caps.map (moveC by')⟩, true) else (⟨false, 0, []⟩, false)
    else (⟨false, 0, []⟩, true)
  else (⟨false, 0, []⟩, false)
def cutOut (input : ByteArray) (c : Cap) : List UInt8 := (input.data.toList.take c.to.toNat).drop c.frm.toNat
def textsO (o : Outc) (input name : ByteArray) : List (List UInt8) :=
  if mayO o input.size then (o.caps.filter fun c => c.name == name).map (cutOut input) else []

/-! ### the stack of what is open -/
/-- What the stack of open captures knows of those that were seen. -/
structure Seen (seen st : List Cap) (frm : Int) : Prop where
  pw : seen.Pairwise Fits
  sub : ∀ a ∈ st, a ∈ seen
  le : ∀ a ∈ seen, a.frm ≤ frm
  hit : (seen = [] ∧ frm = 0) ∨ ∃ a ∈ seen, a.frm = frm
  sorted : st.Pairwise fun a b => b.to ≤ a.to
  shut : ∀ a ∈ seen, a ∈ st ∨ a.to ≤ frm

theorem Seen.start : Seen [] [] 0 := ⟨.nil, by simp, by simp, .inl ⟨rfl, rfl⟩, .nil, by simp⟩
/-- A capture that begins ahead of one that was seen. -/
theorem Seen.ahead {seen st rest : List Cap} {frm : Int} {c : Cap} (h : Seen seen st frm) (h0 : 0 ≤ c.frm) (hc : c.frm < frm) : ¬ (seen ++ c :: rest).Pairwise Fits := fun hp => by
  rcases h.hit with ⟨_, rfl⟩ | ⟨a, ha, rfl⟩
  · omega
  · exact absurd ((List.pairwise_append.1 hp).2.2 a ha c (by simp)).1 (by omega)
/-- The next one, where nothing is yet shut of what ends ahead of it. -/
structure Ready (seen st : List Cap) (frm : Int) : Prop where
  pw : seen.Pairwise Fits
  sub : ∀ a ∈ st, a ∈ seen
  le : ∀ a ∈ seen, a.frm ≤ frm
  sorted : st.Pairwise fun a b => b.to ≤ a.to
  shut : ∀ a ∈ seen, a ∈ st ∨ a.to ≤ frm
theorem Seen.ready {seen st : List Cap} {frm frm' : Int} (h : Seen seen st frm) (hc : frm ≤ frm') : Ready seen st frm' :=
  ⟨h.pw, h.sub, fun a ha => by have := h.le a ha; omega, h.sorted, fun a ha => (h.shut a ha).imp id (by omega)⟩
theorem Ready.pop {seen st : List Cap} {frm : Int} {a : Cap} (h : Ready seen (st ++ [a]) frm) (hc : a.to ≤ frm) : Ready seen st frm :=
  ⟨h.pw, fun b hb => h.sub b (by simp [hb]), h.le, (List.pairwise_append.1 h.sorted).1, fun b hb => by
    rcases h.shut b hb with h' | h'
    · rcases List.mem_append.1 h' with h' | h'
      · exact .inl h'
      · simp only [List.mem_singleton] at h'; subst h'; exact .inr hc
    · exact .inr h'⟩
theorem Ready.cross {seen st rest : List Cap} {a c : Cap} (h : Ready seen (st ++ [a]) c.frm) (h1 : c.frm < a.to) (h2 : a.to < c.to) : ¬ (seen ++ c :: rest).Pairwise Fits := fun hp => by
  exact ((List.pairwise_append.1 hp).2.2 a (h.sub a (by simp)) c (by simp)).2 ⟨h1, h2⟩
theorem Ready.push {seen st : List Cap} {c : Cap} (h : Ready seen st c.frm) (hc : ∀ a ∈ st, c.to ≤ a.to) : Seen (seen ++ [c]) (st ++ [c]) c.frm :=
  ⟨List.pairwise_append.2 ⟨h.pw, by simp, fun a ha b hb => by
      simp only [List.mem_singleton] at hb; subst hb
      refine ⟨h.le a ha, fun ⟨h1, h2⟩ => ?_⟩
      rcases h.shut a ha with h' | h'
      · have := hc a h'; omega
      · omega⟩,
    fun a ha => by rcases List.mem_append.1 ha with h' | h' <;> simp [*, h.sub] at *,
    fun a ha => by
      rcases List.mem_append.1 ha with h' | h'
      · exact h.le a h'
      · simp only [List.mem_singleton] at h'; subst h'; exact Int.le_refl _,
    .inr ⟨c, by simp, rfl⟩,
    List.pairwise_append.2 ⟨h.sorted, by simp, fun a ha b hb => by simp only [List.mem_singleton] at hb; subst hb; exact hc a ha⟩,
    fun a ha => by
      rcases List.mem_append.1 ha with h' | h'
      · exact (h.shut a h').imp (by simp_all) id
      · exact .inl (by simp_all)⟩
/-- What lies under the top ends no earlier. -/
theorem Ready.top {seen st : List Cap} {frm : Int} {a : Cap} (h : Ready seen (st ++ [a]) frm) : ∀ b ∈ st ++ [a], a.to ≤ b.to := fun b hb => by
  rcases List.mem_append.1 hb with h' | h'
  · exact (List.pairwise_append.1 h.sorted).2.2 b h' a (by simp)
  · simp only [List.mem_singleton] at h'; subst h'; exact Int.le_refl _

/-! ### in memory -/
def capCells (c : Cap) : List Value := [.string c.name, .int .i64 c.frm, .int .i64 c.to]
def cellsOf (l : List Cap) : List Value := l.flatMap capCells
theorem cellsOf_length (l : List Cap) : (cellsOf l).length = l.length * 3 := by
  induction l with
  | nil => rfl
  | cons c r ih => simp only [cellsOf, List.flatMap_cons, List.length_append] at *; simp [capCells, ih]; omega
theorem cellsOf_append (a b : List Cap) : cellsOf (a ++ b) = cellsOf a ++ cellsOf b := by simp [cellsOf]
theorem cellsOf_at : (l : List Cap) → (k : Nat) → (hk : k < l.length) → (cellsOf l)[k * 3]? = some (.string l[k].name) ∧ (cellsOf l)[k * 3 + 1]? = some (.int .i64 l[k].frm) ∧ (cellsOf l)[k * 3 + 1 + 1]? = some (.int .i64 l[k].to)
  | c :: r, 0, _ => ⟨rfl, rfl, rfl⟩
  | c :: r, k + 1, hk => by
    have ih := cellsOf_at r k (by simpa using hk)
    have e : ∀ j, (cellsOf (c :: r))[j + 3]? = (cellsOf r)[j]? := fun j => rfl
    rw [show (k + 1) * 3 = k * 3 + 3 by omega, show k * 3 + 3 + 1 = (k * 3 + 1) + 3 by omega, show k * 3 + 1 + 3 + 1 = (k * 3 + 1 + 1) + 3 by omega, e, e, e]
    exact ih
end Go.Proofs.YtogmkekbdfckpaaDoor
