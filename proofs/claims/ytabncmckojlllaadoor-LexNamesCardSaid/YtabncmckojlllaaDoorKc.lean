/- The contracts of the law's own wrong. -/
import Derived.Test.YtabncmckojlllaaDoorLu
import Derived.Test.YtabncmckojlllaaDoorKa
namespace Go.Proofs.YtabncmckojlllaaDoor
open Go.RowKit Go.Shelf
set_option linter.unusedSimpArgs false
set_option linter.unusedVariables false

/-- Where something is wrong in a text; -1: nothing is. -/
def wrongL (s : List UInt8) : Int := if (wordsL s).2.2 = 0 then -1 else if (wordsL s).1.length ≠ 0 ∨ (wordsL s).2.2 ≠ 4 then -2 else ((wordsL s).2.1 : Int)
def WrongPost (s : List UInt8) (w : World) (e : Ending) (w' : World) : Prop := e = .returned (.int .i64 (wrongL s)) ∧ Below w.heap.size w w'
set_option maxHeartbeats 1000000 in
theorem wrong_any (s : ByteArray) (w : World) (hs : s.size ≤ 281474976710656) : Calls Tryd.prog 11 #[.string s] w (WrongPost s.data.toList w) := by
  obtain ⟨ls, at', er, hW⟩ : ∃ ls at' er, wordsL s.data.toList = (ls, at', er) := ⟨_, _, _, rfl⟩
  have HW := Lib.hid hW
  have HQ := Lib.hid (show wrongL s.data.toList = if er = 0 then -1 else if ls.length ≠ 0 ∨ er ≠ 4 then -2 else (at' : Int) from by unfold wrongL; rw [hW])
  clear hW
  go_enter Tryd.func11, Tryd.ntmps11
  by_cases h0 : er = 0
  · subst h0
    go_wp2_with (first | (go_at_call 8; refine (words_any s _ hs).mono ?_; rintro e w1 ⟨A, c, rfl, hr, hb⟩; rw [HW.out]; have HB1 := Lib.hid hb; clear hb hr; simp only []) | fail)
    refine bodyPost_ret (v := .int .i64 (-1)) (by simp [results, Tryd.results11, go_sem]) rfl ⟨?_, HB1.out⟩
    rw [HQ.out]; simp
  have i1 : ((er : Int) == 0) = false := by simp; omega
  have i2 : ¬ (er : Int) = 0 := by omega
  by_cases hl : ls.length = 0
  · have j1 : ((ls.length : Int) == 0) = true := by simp [hl]
    have j2 : (ls.length : Int) = 0 := by omega
    by_cases h4 : er = 4
    · subst h4
      go_wp2_with (first | (go_at_call 8; refine (words_any s _ hs).mono ?_; rintro e w1 ⟨A, c, rfl, hr, hb⟩; rw [HW.out]; have HB1 := Lib.hid hb; clear hb hr; simp only []) | fail)
      refine bodyPost_ret (v := .int .i64 (at' : Int)) (by simp [results, Tryd.results11, go_sem]) rfl ⟨?_, HB1.out⟩
      rw [HQ.out, if_neg (by decide), if_neg (by omega)]
    · have i3 : ((er : Int) == 4) = false := by simp; omega
      have i4 : ¬ (er : Int) = 4 := by omega
      go_wp2_with (first | (go_at_call 8; refine (words_any s _ hs).mono ?_; rintro e w1 ⟨A, c, rfl, hr, hb⟩; rw [HW.out]; have HB1 := Lib.hid hb; clear hb hr; simp only []) | fail)
      refine bodyPost_ret (v := .int .i64 (-2)) (by simp [results, Tryd.results11, go_sem]) rfl ⟨?_, HB1.out⟩
      rw [HQ.out, if_neg h0, if_pos (.inr h4)]
  · have j1 : ((ls.length : Int) == 0) = false := by simp; intro e; rw [e] at hl; exact hl rfl
    have j2 : ¬ (ls.length : Int) = 0 := by omega
    go_wp2_with (first | (go_at_call 8; refine (words_any s _ hs).mono ?_; rintro e w1 ⟨A, c, rfl, hr, hb⟩; rw [HW.out]; have HB1 := Lib.hid hb; clear hb hr; simp only []) | fail)
    refine bodyPost_ret (v := .int .i64 (-2)) (by simp [results, Tryd.results11, go_sem]) rfl ⟨?_, HB1.out⟩
    rw [HQ.out, if_neg h0, if_pos (.inl hl)]
end Go.Proofs.YtabncmckojlllaaDoor
