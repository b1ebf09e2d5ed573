/- The contract of the law's own copies; closed facts of LexNames. -/
import Derived.Test.YtabncmckojlllaaDoorKw
import Derived.Test.YtabncmckojlllaaDoorKx
import Derived.Test.YtabncmckojlllaaDoorKo
import Derived.Test.YtabncmckojlllaaDoorKc
namespace Go.Proofs.YtabncmckojlllaaDoor
open Go.RowKit Go.Shelf
set_option linter.unusedSimpArgs false
set_option linter.unusedVariables false

def repL (n : Nat) (l : List UInt8) : List UInt8 := (List.replicate n l).flatten
theorem repL_succ (n : Nat) (l : List UInt8) : repL (n + 1) l = repL n l ++ l := by
  unfold repL; rw [List.replicate_succ', List.flatten_append]; simp
theorem repL_len (n : Nat) (l : List UInt8) : (repL n l).length = n * l.length := by
  unfold repL; simp
def CopRel (w : World) (l : List UInt8) (n : Nat) (o i : Value) (wr : World) : Prop :=
  ∃ k : Nat, k ≤ n ∧ o = .string ⟨(repL k l).toArray⟩ ∧ i = .int .i64 (k : Int) ∧ Hid (Below w.heap.size w wr)
set_option maxRecDepth 100000 in
set_option maxHeartbeats 1600000 in
theorem copies_any (l : List UInt8) (n : Nat) (h : n * l.length ≤ 1000000) (hn : n ≤ 1000000) (w : World) : Calls Tryd.prog 10 #[.string ⟨l.toArray⟩, .int .i64 (n : Int)] w fun e w' => e = .returned (.string ⟨(repL n l).toArray⟩) ∧ Below w.heap.size w w' := by
  go_enter Tryd.func10, Tryd.ntmps10
  go_wp2_with fail
  go_loopw [5, 6] (fun o i wr => CopRel w l n o i wr) (fun _ i _ => n - (intOf i).toNat)
  case atStart => exact ⟨0, Nat.zero_le _, rfl, rfl, Lib.hid (Below.refl _ _)⟩
  case round =>
    obtain ⟨k, hk, rfl, rfl, HB⟩ := hrel
    by_cases hlt : k < n
    · have i1 : (k : Int) < (n : Int) := by omega
      have hkl : k * l.length ≤ n * l.length := Nat.mul_le_mul_right _ hk
      have hkl2 : (k + 1) * l.length ≤ n * l.length := Nat.mul_le_mul_right _ hlt
      have e1 := repL_len k l
      rw [Nat.add_mul, Nat.one_mul] at hkl2
      have z1 : ¬ 9223372036854775807 < (repL k l).length + l.length := by omega
      have HS := Lib.hid (repL_succ k l)
      clear e1 hkl hkl2 h
      generalize repL k l = R at *
      go_wp2_with fail
      exact ⟨⟨k + 1, by omega, by rw [HS.out]; congr 1, by go_num, HB⟩, by simp only [intOf]; omega⟩
    · obtain rfl : k = n := by omega
      go_wp2_with fail
      exact bodyPost_ret (v := .string ⟨(repL k l).toArray⟩) (by simp [results, Tryd.results10, go_sem]) rfl ⟨rfl, HB.out⟩
end Go.Proofs.YtabncmckojlllaaDoor

namespace Go.Proofs.YtabncmckojlllaaDoor
open Go.RowKit Go.Shelf
set_option linter.unusedSimpArgs false
set_option linter.unusedVariables false
set_option maxRecDepth 100000

def lnA33 : List UInt8 := List.replicate 33 97
def lnA32 : List UInt8 := List.replicate 32 97
def lnA255 : List UInt8 := List.replicate 255 97
def lnA256 : List UInt8 := List.replicate 256 97
def lnB33 : List UInt8 := List.replicate 33 98
def lnS9 : List UInt8 := List.replicate 9 32
def lnX : List UInt8 := [120] ++ lnS9 ++ lnB33
def lnQ255 : List UInt8 := [34] ++ lnA255 ++ [34]
def lnQ256 : List UInt8 := [32, 34] ++ lnA256 ++ [34]
def tab36 : List (List UInt8 × Int) := [([57], 0), ([97, 32, 57, 97], 2), ([45], 0), ([97, 0], 1), ([128], 0), ([97, 59], 1), ([123], 0), ([123, 125], 0), ([123, 49], 0), ([123, 48, 49, 125], 0), ([123, 49, 48, 48, 125], 0), ([123, 49, 44, 49, 48, 48, 125], 0), ([123, 32, 49, 125], 0), ([123, 49, 44, 32, 50, 125], 0), ([123, 49, 44, 50, 44, 51, 125], 0), ([123, 44, 49, 125], 0), ([123, 49, 44, 49, 125], -1), ([123, 49, 44, 125], -1), ([91], 0), ([97, 91, 98], 1), ([91, 98, 45, 97, 93], 0), ([34, 92, 122, 34], 0), ([34, 10, 34], 0), ([35], -1), ([97, 32, 35, 98], -1), ([35, 10, 35, 10, 32, 97], -1), ([32, 9, 13, 10], -1), ([11], 0), (lnA33, 0), (lnA32, -1), (lnX, 10), (lnQ255, -1), (lnQ256, 1), ([93], 0), ([125], 0), ([92], 0)]
def arr72 : Array Value := #[.string ⟨#[57]⟩, .int .i64 0, .string ⟨#[97, 32, 57, 97]⟩, .int .i64 2, .string ⟨#[45]⟩, .int .i64 0, .string ⟨#[97, 0]⟩, .int .i64 1, .string ⟨#[128]⟩, .int .i64 0, .string ⟨#[97, 59]⟩, .int .i64 1, .string ⟨#[123]⟩, .int .i64 0, .string ⟨#[123, 125]⟩, .int .i64 0, .string ⟨#[123, 49]⟩, .int .i64 0, .string ⟨#[123, 48, 49, 125]⟩, .int .i64 0, .string ⟨#[123, 49, 48, 48, 125]⟩, .int .i64 0, .string ⟨#[123, 49, 44, 49, 48, 48, 125]⟩, .int .i64 0, .string ⟨#[123, 32, 49, 125]⟩, .int .i64 0, .string ⟨#[123, 49, 44, 32, 50, 125]⟩, .int .i64 0, .string ⟨#[123, 49, 44, 50, 44, 51, 125]⟩, .int .i64 0, .string ⟨#[123, 44, 49, 125]⟩, .int .i64 0, .string ⟨#[123, 49, 44, 49, 125]⟩, .int .i64 (-1), .string ⟨#[123, 49, 44, 125]⟩, .int .i64 (-1), .string ⟨#[91]⟩, .int .i64 0, .string ⟨#[97, 91, 98]⟩, .int .i64 1, .string ⟨#[91, 98, 45, 97, 93]⟩, .int .i64 0, .string ⟨#[34, 92, 122, 34]⟩, .int .i64 0, .string ⟨#[34, 10, 34]⟩, .int .i64 0, .string ⟨#[35]⟩, .int .i64 (-1), .string ⟨#[97, 32, 35, 98]⟩, .int .i64 (-1), .string ⟨#[35, 10, 35, 10, 32, 97]⟩, .int .i64 (-1), .string ⟨#[32, 9, 13, 10]⟩, .int .i64 (-1), .string ⟨#[11]⟩, .int .i64 0, .string ⟨lnA33.toArray⟩, .int .i64 0, .string ⟨lnA32.toArray⟩, .int .i64 (-1), .string ⟨lnX.toArray⟩, .int .i64 10, .string ⟨lnQ255.toArray⟩, .int .i64 (-1), .string ⟨lnQ256.toArray⟩, .int .i64 1, .string ⟨#[93]⟩, .int .i64 0, .string ⟨#[125]⟩, .int .i64 0, .string ⟨#[92]⟩, .int .i64 0]
theorem tab36_fin : ∀ k : Fin 36, wrongL (tab36.getD k.val ([], 0)).1 = (tab36.getD k.val ([], 0)).2 ∧ (tab36.getD k.val ([], 0)).1.length ≤ 300 := by decide +kernel
theorem tab36_ok (k : Nat) (h : k < 36) : ∃ (l : List UInt8) (n : Int), tab36.getD k ([], 0) = (l, n) ∧ wrongL l = n ∧ l.length ≤ 300 := by
  obtain ⟨h1, h2⟩ := tab36_fin ⟨k, h⟩
  exact ⟨_, _, rfl, h1, h2⟩
theorem arr72_at (k : Nat) (h : k < 36) : arr72[k * 2]? = some (.string ⟨((tab36.getD k ([], 0)).1).toArray⟩) ∧ arr72[k * 2 + 1]? = some (.int .i64 (tab36.getD k ([], 0)).2) := by
  have : k = 0 ∨ k = 1 ∨ k = 2 ∨ k = 3 ∨ k = 4 ∨ k = 5 ∨ k = 6 ∨ k = 7 ∨ k = 8 ∨ k = 9 ∨ k = 10 ∨ k = 11 ∨ k = 12 ∨ k = 13 ∨ k = 14 ∨ k = 15 ∨ k = 16 ∨ k = 17 ∨ k = 18 ∨ k = 19 ∨ k = 20 ∨ k = 21 ∨ k = 22 ∨ k = 23 ∨ k = 24 ∨ k = 25 ∨ k = 26 ∨ k = 27 ∨ k = 28 ∨ k = 29 ∨ k = 30 ∨ k = 31 ∨ k = 32 ∨ k = 33 ∨ k = 34 ∨ k = 35 := by omega
  rcases this with rfl | rfl | rfl | rfl | rfl | rfl | rfl | rfl | rfl | rfl | rfl | rfl | rfl | rfl | rfl | rfl | rfl | rfl | rfl | rfl | rfl | rfl | rfl | rfl | rfl | rfl | rfl | rfl | rfl | rfl | rfl | rfl | rfl | rfl | rfl | rfl <;> exact ⟨rfl, rfl⟩
def tx24 : List UInt8 := [60, 45, 47, 38, 33, 63, 42, 43, 40, 41, 60, 62, 58, 60, 45, 60, 32, 60, 60, 45, 46, 46, 91, 97, 45, 99, 93, 34, 34, 34, 92, 120, 52, 49, 34, 123, 48, 125, 123, 51, 44, 53, 125, 95, 57]
def ln24 : List Wd := [⟨2, 0, 2, [], 0, 0, 0, 0, 0, 0⟩, ⟨3, 2, 3, [], 0, 0, 0, 0, 0, 0⟩, ⟨4, 3, 4, [], 0, 0, 0, 0, 0, 0⟩, ⟨5, 4, 5, [], 0, 0, 0, 0, 0, 0⟩, ⟨6, 5, 6, [], 0, 0, 0, 0, 0, 0⟩, ⟨7, 6, 7, [], 0, 0, 0, 0, 0, 0⟩, ⟨8, 7, 8, [], 0, 0, 0, 0, 0, 0⟩, ⟨9, 8, 9, [], 0, 0, 0, 0, 0, 0⟩, ⟨10, 9, 10, [], 0, 0, 0, 0, 0, 0⟩, ⟨11, 10, 11, [], 0, 0, 0, 0, 0, 0⟩, ⟨12, 11, 12, [], 0, 0, 0, 0, 0, 0⟩, ⟨13, 12, 13, [], 0, 0, 0, 0, 0, 0⟩, ⟨2, 13, 15, [], 0, 0, 0, 0, 0, 0⟩, ⟨11, 15, 16, [], 0, 0, 0, 0, 0, 0⟩, ⟨11, 17, 18, [], 0, 0, 0, 0, 0, 0⟩, ⟨2, 18, 20, [], 0, 0, 0, 0, 0, 0⟩, ⟨16, 20, 21, [], 18446744073709551615, 18446744073709551615, 18446744073709551615, 18446744073709551615, 0, 0⟩, ⟨16, 21, 22, [], 18446744073709551615, 18446744073709551615, 18446744073709551615, 18446744073709551615, 0, 0⟩, ⟨16, 22, 27, [], 0, 60129542144, 0, 0, 0, 0⟩, ⟨15, 27, 29, [], 0, 0, 0, 0, 0, 0⟩, ⟨15, 29, 35, [65], 0, 0, 0, 0, 0, 0⟩, ⟨14, 35, 38, [], 0, 0, 0, 0, 0, 0⟩, ⟨14, 38, 43, [], 0, 0, 0, 0, 3, 5⟩, ⟨1, 43, 45, [95, 57], 0, 0, 0, 0, 0, 0⟩]
theorem tx24_words : wordsL tx24 = (ln24, 0, 0) := by kernel_rfl
def ki24 : List Int := [2, 3, 4, 5, 6, 7, 8, 9, 10, 11, 12, 13, 2, 11, 11, 2, 16, 16, 16, 15, 15, 14, 14, 1]
instance (x : Wd) : Decidable (mayS x) := by unfold mayS; infer_instance
theorem ln24_fin : ∀ k : Fin 24, mayS (ln24[k.val]'k.isLt) ∧ ((ln24[k.val]'k.isLt).kind : Int) = ki24.getD k.val 0 ∧ (ln24[k.val]'k.isLt).text.length ≤ 300 := by decide +kernel
theorem copies_c (l r : List UInt8) (n : Nat) (w : World) (h : repL n l = r) (hl : n * l.length ≤ 1000000) (hn : n ≤ 1000000) :
    Calls Tryd.prog 10 #[.string ⟨l.toArray⟩, .int .i64 (n : Int)] w fun e w' => e = .returned (.string ⟨r.toArray⟩) ∧ Below w.heap.size w w' := by
  rw [← h]; exact copies_any l n hl hn w
theorem wrong_c (l : List UInt8) (n : Int) (w : World) (h : wrongL l = n) (hl : l.length ≤ 1000000) :
    Calls Tryd.prog 11 #[.string ⟨l.toArray⟩] w fun e w' => e = .returned (.int .i64 n) ∧ Below w.heap.size w w' :=
  (wrong_any ⟨l.toArray⟩ w (by simp [ByteArray.size]; omega)).mono fun e w' hp => by
    unfold WrongPost at hp
    rw [show (⟨l.toArray⟩ : ByteArray).data.toList = l from by simp, h] at hp
    exact hp
end Go.Proofs.YtabncmckojlllaaDoor

namespace Go.Proofs.YtabncmckojlllaaDoor
open Go.RowKit Go.Shelf
set_option linter.unusedSimpArgs false
set_option linter.unusedVariables false
set_option maxRecDepth 100000

theorem ba_cat (a b : List UInt8) : (⟨a.toArray⟩ : ByteArray) ++ ⟨b.toArray⟩ = ⟨(a ++ b).toArray⟩ := by
  apply ByteArray.ext
  simp
def lnBl : List UInt8 := List.replicate 256 32
def lnMany : List UInt8 := List.replicate 65536 32
theorem many_len : lnMany.length = 65536 := by unfold lnMany; rw [List.length_replicate]
theorem bl_len : lnBl.length = 256 := by unfold lnBl; rw [List.length_replicate]
theorem rep_bl : repL 256 [32] = lnBl := by
  unfold repL lnBl
  rw [show ([32] : List UInt8) = List.replicate 1 32 from rfl, List.flatten_replicate_replicate]
theorem rep_many : repL 256 lnBl = lnMany := by
  unfold repL lnBl lnMany
  rw [List.flatten_replicate_replicate]
theorem skip_blanks : ∀ n : Nat, skipM false (List.replicate n 32) = n
  | 0 => rfl
  | n + 1 => by
    rw [List.replicate_succ, skipM, if_neg (by decide), if_pos (by decide), skip_blanks n]; omega
theorem many_words : wordsL lnMany = ([], 0, 0) := by
  refine words_gap ?_ (by rw [many_len]; omega)
  unfold nextL
  rw [List.drop_zero, many_len]
  unfold lnMany
  rw [skip_blanks]
theorem over_words : wordsL (lnMany ++ [32]) = ([], 65536, 40) := by
  unfold wordsL
  rw [if_pos (by rw [List.length_append, many_len]; decide)]
theorem e_x : (⟨#[120]⟩ ++ ⟨lnS9.toArray⟩ ++ ⟨lnB33.toArray⟩ : ByteArray) = ⟨lnX.toArray⟩ := by
  rw [show (⟨#[120]⟩ : ByteArray) = ⟨[120].toArray⟩ from rfl, ba_cat, ba_cat]; rfl
theorem e_255 : (⟨#[34]⟩ ++ ⟨lnA255.toArray⟩ ++ ⟨#[34]⟩ : ByteArray) = ⟨lnQ255.toArray⟩ := by
  rw [show (⟨#[34]⟩ : ByteArray) = ⟨[34].toArray⟩ from rfl, ba_cat, ba_cat]; rfl
theorem e_256 : (⟨#[32, 34]⟩ ++ ⟨lnA256.toArray⟩ ++ ⟨#[34]⟩ : ByteArray) = ⟨lnQ256.toArray⟩ := by
  rw [show (⟨#[34]⟩ : ByteArray) = ⟨[34].toArray⟩ from rfl, show (⟨#[32, 34]⟩ : ByteArray) = ⟨[32, 34].toArray⟩ from rfl, ba_cat, ba_cat]; rfl
theorem bl_c (w : World) : Calls Tryd.prog 10 #[.string ⟨#[32]⟩, .int .i64 256] w fun e w' => e = .returned (.string ⟨lnBl.toArray⟩) ∧ Below w.heap.size w w' :=
  copies_c [32] lnBl 256 w rep_bl (by decide) (by decide)
theorem many_c (w : World) : Calls Tryd.prog 10 #[.string ⟨lnBl.toArray⟩, .int .i64 256] w fun e w' => e = .returned (.string ⟨lnMany.toArray⟩) ∧ Below w.heap.size w w' :=
  copies_c lnBl lnMany 256 w rep_many (by rw [bl_len]; decide) (by decide)
theorem words_l (l : List UInt8) (a er : Nat) (h : wordsL l = ([], a, er)) (hl : l.length ≤ 281474976710656) (w : World) : Calls Tryd.prog 8 #[.string ⟨l.toArray⟩] w fun e w' => ∃ A c, e = .returned (.tuple #[.slice A 0 c, .int .i64 (a : Int), .int .i64 (er : Int)]) ∧ Below w.heap.size w w' :=
  (words_atB (w := w) (s := ⟨l.toArray⟩) (ls := []) (a := a) (er := er) (by show l.toArray.size ≤ _; rw [List.size_toArray]; exact hl) h).mono fun e w' ⟨A, c, h1, _, h3⟩ => ⟨A, c, h1, h3⟩
theorem many_w (w : World) : Calls Tryd.prog 8 #[.string ⟨lnMany.toArray⟩] w fun e w' => ∃ A c, e = .returned (.tuple #[.slice A 0 c, .int .i64 0, .int .i64 0]) ∧ Below w.heap.size w w' :=
  words_l lnMany 0 0 many_words (by rw [many_len]; decide) w
theorem over_w (w : World) : Calls Tryd.prog 8 #[.string (⟨lnMany.toArray⟩ ++ ⟨#[32]⟩)] w fun e w' => ∃ A c, e = .returned (.tuple #[.slice A 0 c, .int .i64 65536, .int .i64 40]) ∧ Below w.heap.size w w' := by
  rw [show (⟨#[32]⟩ : ByteArray) = ⟨[32].toArray⟩ from rfl, ba_cat]
  exact words_l (lnMany ++ [32]) 65536 40 over_words (by rw [List.length_append, many_len]; decide) w
theorem show_z (w : World) (ht : LexTabs w) : Calls Tryd.prog 13 #[.agg #[.int .u8 0, .int .i64 0, .int .i64 0, .string ⟨#[]⟩, .int .u64 0, .int .u64 0, .int .u64 0, .int .u64 0, .int .i64 0, .int .i64 0]] w fun e w' => e = .returned (.string ⟨#[]⟩) ∧ Below w.heap.size w w' :=
  lshow_at 0 0 0 0 0 [] 0 0 0 0 0 0 [] (by decide) (by unfold small; decide) (fun h => absurd h (by decide)) (fun _ => rfl) w ht
theorem show_n (w : World) (ht : LexTabs w) : Calls Tryd.prog 13 #[.agg #[.int .u8 1, .int .i64 0, .int .i64 0, .string ⟨#[49]⟩, .int .u64 0, .int .u64 0, .int .u64 0, .int .u64 0, .int .i64 0, .int .i64 0]] w fun e w' => e = .returned (.string ⟨#[]⟩) ∧ Below w.heap.size w w' :=
  lshow_at 1 0 0 0 0 [49] 0 0 0 0 0 0 [] (by decide) (by unfold small; decide) (fun h => absurd h (by decide)) (fun _ => rfl) w ht
theorem show_c (w : World) (ht : LexTabs w) : Calls Tryd.prog 13 #[.agg #[.int .u8 14, .int .i64 0, .int .i64 0, .string ⟨#[]⟩, .int .u64 0, .int .u64 0, .int .u64 0, .int .u64 0, .int .i64 2, .int .i64 2]] w fun e w' => e = .returned (.string ⟨#[123, 50, 125]⟩) ∧ Below w.heap.size w w' :=
  lshow_at 14 0 0 0 0 [] 0 0 0 0 2 2 [123, 50, 125] (by decide) (by unfold small; decide) (fun _ => by decide +kernel) (fun h => absurd (show mayS _ by decide +kernel) h) w ht
theorem show_s (w : World) (ht : LexTabs w) : Calls Tryd.prog 13 #[.agg #[.int .u8 3, .int .i64 0, .int .i64 0, .string ⟨#[120]⟩, .int .u64 0, .int .u64 0, .int .u64 0, .int .u64 0, .int .i64 0, .int .i64 0]] w fun e w' => e = .returned (.string ⟨#[]⟩) ∧ Below w.heap.size w w' :=
  lshow_at 3 0 0 0 0 [120] 0 0 0 0 0 0 [] (by decide) (by unfold small; decide) (fun h => absurd h (by decide)) (fun _ => rfl) w ht
theorem join_z (w : World) (ht : LexTabs w) : Calls Tryd.prog 12 #[.slice none 0 0] w fun e w' => e = .returned (.string ⟨#[]⟩) ∧ Below w.heap.size w w' :=
  ljoin_any [] none 0 [] w (fun k hk => by simp at hk) (by decide) (by simp) ht (fun _ => rfl) (fun _ => rfl)
def lnTwo : List Wd := [⟨3, 0, 0, [], 0, 0, 0, 0, 0, 0⟩, ⟨0, 0, 0, [], 0, 0, 0, 0, 0, 0⟩]
theorem join_two (b c : Nat) (w : World) (h : WRow w (some ⟨b, 0, none⟩) lnTwo) (ht : LexTabs w) : Calls Tryd.prog 12 #[.slice (some ⟨b, 0, none⟩) 2 c] w fun e w' => e = .returned (.string ⟨#[]⟩) ∧ Below w.heap.size w w' :=
  ljoin_any lnTwo (some ⟨b, 0, none⟩) c [] w h (by decide) (by unfold small; decide) ht (fun h => absurd (h ⟨0, 0, 0, [], 0, 0, 0, 0, 0, 0⟩ (by unfold lnTwo; simp)) (by decide)) (fun _ => rfl)
theorem mk_bytes (w : World) : (Instr.makeSlice 23 (.int .i64 0) (.int .i64 1)).run Tryd.prog w = .ok (.slice (some ⟨w.heap.size, 0, none⟩) 0 1) (w.alloc (.cells #[.int .u8 0] 5)) := by kernel_rfl
theorem cv_bytes (w : World) (b c : Nat) : (convert 23 9 (.slice (some ⟨b, 0, none⟩) 0 c)).run Tryd.prog w = .ok (.string ⟨#[]⟩) w := by
  refine run_convert_bytes_arg _ _ _ Tryd.underlying23 Tryd.underlying5 _ _ _ _ [] rfl ?_ _ Tryd.underlying9
  intro i hi
  simp at hi
theorem two_row (w : World) : WRow (w.alloc (.cells #[.int .u8 3, .int .i64 0, .int .i64 0, .string ⟨#[]⟩, .int .u64 0, .int .u64 0, .int .u64 0, .int .u64 0, .int .i64 0, .int .i64 0, .int .u8 0, .int .i64 0, .int .i64 0, .string ⟨#[]⟩, .int .u64 0, .int .u64 0, .int .u64 0, .int .u64 0, .int .i64 0, .int .i64 0] 32)) (some ⟨w.heap.size, 0, none⟩) lnTwo := fun k hk => by
  have h0 := bx_new w (.cells #[.int .u8 3, .int .i64 0, .int .i64 0, .string ⟨#[]⟩, .int .u64 0, .int .u64 0, .int .u64 0, .int .u64 0, .int .i64 0, .int .i64 0, .int .u8 0, .int .i64 0, .int .i64 0, .string ⟨#[]⟩, .int .u64 0, .int .u64 0, .int .u64 0, .int .u64 0, .int .i64 0, .int .i64 0] 32)
  refine ⟨_, 0, rfl, (Array.getElem?_eq_some_iff.1 h0).1, ?_⟩
  simp only [cell_of_row _ _ _ _ _ _ h0]
  have h2 : k = 0 ∨ k = 1 := by have : k < 2 := hk; omega
  rcases h2 with rfl | rfl <;> exact ⟨rfl, rfl, rfl, rfl, rfl, rfl, rfl, rfl, rfl, rfl⟩
end Go.Proofs.YtabncmckojlllaaDoor

