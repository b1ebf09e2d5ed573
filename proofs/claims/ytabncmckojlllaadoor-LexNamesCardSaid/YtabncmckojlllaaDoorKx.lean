/- What the walks of the laws of words share. -/
import Derived.Test.YtabncmckojlllaaDoorKw
import Derived.Test.YtabncmckojlllaaDoorKf
namespace Go.Proofs.YtabncmckojlllaaDoor
open Go.RowKit Go.Shelf
set_option linter.unusedSimpArgs false
set_option linter.unusedVariables false

def TruePostB (w : World) (e : Ending) (w' : World) : Prop := e = .returned (.bool true) ∧ Below w.heap.size w w'
theorem WRow.ownB {w : World} {b n c : Nat} {A : Option Addr} {l : List Wd} (h : w.ownsRow b 32 10 (.slice A n c) n (wdL l)) (hn : n = l.length) : WRow w A l := fun k hk => by
  subst hn
  obtain ⟨g, rfl, hb, hg⟩ := own_some h (by omega)
  obtain ⟨t0, t1, t2, t3, t4, t5, t6, t7, t8, t9⟩ := word_ten h k (k * 10) rfl l[k] (List.getElem?_eq_getElem hk)
  refine ⟨g, 0, rfl, hg, ?_⟩
  rw [Nat.zero_add]
  exact ⟨t0, t1, t2, t3, t4, t5, t6, t7, t8, t9⟩
theorem words_atB {s : ByteArray} {w : World} {ls : List Wd} {a er : Nat} (hs : s.size ≤ 281474976710656) (h : wordsL s.data.toList = (ls, a, er)) : Calls Tryd.prog 8 #[.string s] w fun e w' =>
    ∃ A c, e = .returned (.tuple #[.slice A ls.length c, .int .i64 (a : Int), .int .i64 (er : Int)]) ∧ WRow w' A ls ∧ Below w.heap.size w w' :=
  (words_any s w hs).mono fun e w' hp => by
    unfold WordsPost at hp
    rw [h] at hp
    obtain ⟨A, c, e1, hr, hb⟩ := hp
    exact ⟨A, c, e1, WRow.ownB hr rfl, hb⟩
theorem works_b (w : World) : Calls Tryd.prog 7 #[] w fun e w' => e = .returned (.bool true) ∧ Below w.heap.size w w' := works_any w
end Go.Proofs.YtabncmckojlllaaDoor
