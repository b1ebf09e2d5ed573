/- Plain law of bonsairef01.Runs: the runs as they are found from their first bytes. -/
import Derived.Test.YtmjkgnknfgoadaaGreatDoorHg
import Derived.Test.YtmjkgnknfgoadaaGreatDoorNr
import Derived.Maps.AppendAt
import Derived.Laws.BytesArg
import Derived.Lib.SmallJoins
namespace Go.Proofs.YtmjkgnknfgoadaaGreatDoor
set_option linter.unusedSimpArgs false
set_option linter.unusedVariables false
def RunInv (f : Nat → Bool) (n : Nat) (R : List (Nat × Nat)) : Prop :=
  ∃ A B : List (Nat × Nat), R = A ++ B ∧ ((List.range n).filter f).foldl addRun [] = A ++ B.map (fun p => (p.1, n - 1)) ∧ (∀ a ∈ A, a.2 + 1 < n) ∧
    ((B = [] ∧ (n = 0 ∨ f (n - 1) = false) ∧ ∀ a ∈ A, a.2 < n) ∨ ∃ x y, B = [(x, y)] ∧ x < n ∧ n ≤ y + 1 ∧ y ≤ 255 ∧ (∀ b, n - 1 ≤ b → b ≤ y → f b = true) ∧ (y = 255 ∨ f (y + 1) = false))
theorem RunInv.zero (f : Nat → Bool) : RunInv f 0 [] := ⟨[], [], rfl, rfl, by simp, .inl ⟨rfl, .inl rfl, by simp⟩⟩
theorem addRun_apart (A : List (Nat × Nat)) (n : Nat) (h : ∀ a ∈ A, a.2 + 1 < n) : addRun A n = A ++ [(n, n)] := by
  unfold addRun
  split
  · rename_i x y hl
    have := h (x, y) (List.mem_of_getLast? hl)
    simp only at this
    rw [if_neg (by omega)]
  · rename_i hl
    rw [List.getLast?_eq_none_iff.1 hl]; rfl
theorem addRun_next (A : List (Nat × Nat)) (x n : Nat) (hn : 0 < n) : addRun (A ++ [(x, n - 1)]) n = A ++ [(x, n)] := by
  unfold addRun
  rw [List.getLast?_append, List.getLast?_singleton]
  simp only [Option.some_or]
  rw [if_pos (by omega), List.dropLast_concat]
theorem range_step (f : Nat → Bool) (n : Nat) : ((List.range (n + 1)).filter f).foldl addRun [] = if f n then addRun (((List.range n).filter f).foldl addRun []) n else ((List.range n).filter f).foldl addRun [] := by
  rw [List.range_succ, List.filter_append, List.foldl_append]
  cases h : f n <;> simp [h]
theorem RunInv.new {f : Nat → Bool} {n : Nat} {R : List (Nat × Nat)} (h : RunInv f n R) (hf : f n = true) (hp : n = 0 ∨ f (n - 1) = false) (y : Nat) (h1 : n ≤ y) (h2 : y ≤ 255) (h3 : ∀ b, n ≤ b → b ≤ y → f b = true) (h4 : y = 255 ∨ f (y + 1) = false) :
    RunInv f (n + 1) (R ++ [(n, y)]) := by
  obtain ⟨A, B, hR, hP, hA, hB⟩ := h
  rcases hB with ⟨hB, hp0, hlt⟩ | ⟨x, z, hB, hx, hz, hz2, hall, hz3⟩
  · subst hB
    refine ⟨A, [(n, y)], by rw [hR]; simp, ?_, fun a ha => by have := hA a ha; omega, .inr ⟨n, y, rfl, by omega, by omega, h2, fun b hb hb2 => h3 b (by omega) hb2, h4⟩⟩
    rw [range_step, if_pos hf, hP]
    simp only [List.map_nil, List.append_nil, List.map_cons, Nat.add_sub_cancel]
    exact addRun_apart A n hA
  · have h5 := hall (n - 1) (Nat.le_refl _) (by omega)
    rcases hp with h6 | h6
    · omega
    · rw [h5] at h6; cases h6
theorem RunInv.same {f : Nat → Bool} {n : Nat} {R : List (Nat × Nat)} (h : RunInv f n R) (hn : n ≤ 255) (hp : f n = false ∨ (0 < n ∧ f (n - 1) = true)) : RunInv f (n + 1) R := by
  obtain ⟨A, B, hR, hP, hA, hB⟩ := h
  rcases hB with ⟨hB, hp0, hlt⟩ | ⟨x, z, hB, hx, hz, hz2, hall, hz3⟩
  · subst hB
    have hf : f n = false := by
      rcases hp with h | ⟨h, h2⟩
      · exact h
      · rcases hp0 with h3 | h3
        · omega
        · rw [h2] at h3; cases h3
    refine ⟨A, [], hR, ?_, fun a ha => by have := hA a ha; omega, .inl ⟨rfl, .inr (by simpa using hf), fun a ha => by have := hlt a ha; omega⟩⟩
    rw [range_step, hf]
    simpa using hP
  · subst hB
    cases hf : f n
    · have hzn : z = n - 1 := by
        by_cases h : n ≤ z
        · have := hall n (by omega) h
          rw [hf] at this; cases this
        · omega
      subst hzn
      refine ⟨A ++ [(x, n - 1)], [], by rw [hR]; simp, ?_, fun a ha => ?_, .inl ⟨rfl, .inr (by simpa using hf), fun a ha => ?_⟩⟩
      · rw [range_step, hf]
        simpa using hP
      · rcases List.mem_append.1 ha with h | h
        · have := hA a h; omega
        · obtain rfl := List.mem_singleton.1 h
          simp only; omega
      · rcases List.mem_append.1 ha with h | h
        · have := hA a h; omega
        · obtain rfl := List.mem_singleton.1 h
          simp only; omega
    · have hzn : n ≤ z := by
        rcases hz3 with h | h
        · omega
        · by_cases h2 : n ≤ z
          · exact h2
          · rw [show z + 1 = n by omega, hf] at h; cases h
      refine ⟨A, [(x, z)], hR, ?_, fun a ha => by have := hA a ha; omega, .inr ⟨x, z, rfl, by omega, by omega, hz2, fun b hb hb2 => hall b (by omega) hb2, hz3⟩⟩
      rw [range_step, if_pos hf, hP]
      simp only [List.map_cons, List.map_nil, Nat.add_sub_cancel]
      exact addRun_next A x n (by omega)
theorem RunInv.done {f : Nat → Bool} {R : List (Nat × Nat)} (h : RunInv f 256 R) : R = runsF f := by
  obtain ⟨A, B, hR, hP, hA, hB⟩ := h
  unfold runsF
  rw [hP, hR]
  rcases hB with ⟨hB, _⟩ | ⟨x, z, hB, hx, hz, hz2, _⟩
  · rw [hB]; rfl
  · rw [hB]
    have : z = 255 := by omega
    subst this
    rfl
theorem RunInv.len {f : Nat → Bool} {n : Nat} {R : List (Nat × Nat)} (h : RunInv f n R) (hn : n ≤ 256) : R.length ≤ 256 := by
  obtain ⟨A, B, hR, hP, hA, hB⟩ := h
  have h1 := foldRun_len ((List.range n).filter f) []
  have h2 := List.length_filter_le f (List.range n)
  have h3 := congrArg List.length hP
  simp only [List.length_append, List.length_map, List.length_range, List.length_nil] at h1 h2 h3
  rw [hR, List.length_append]
  omega
def signR (sp : List UInt8) (b : UInt8) : List UInt8 :=
  if b = 10 then [92, 110] else if b = 13 then [92, 114] else if b = 9 then [92, 116]
  else if b.toNat < 32 ∨ 126 < b.toNat then [92, 120, hexB (b.toNat / 16), hexB (b.toNat % 16)]
  else if b ∈ sp then [92, b] else [b]
theorem signR_eq (left sp : List UInt8) (h1 : ∀ x, x ∈ sp ↔ x = 92 ∨ x ∈ left) (h2 : ∀ x ∈ sp, 32 ≤ x.toNat ∧ x.toNat ≤ 126) (b : UInt8) : signR sp b = signB left b := by
  unfold signR signB
  by_cases a : b = 10
  · subst a; simp
  by_cases c : b = 13
  · subst c; simp
  by_cases d : b = 9
  · subst d; simp
  rw [if_neg a, if_neg c, if_neg d]
  by_cases e : b.toNat < 32 ∨ 126 < b.toNat
  · rw [if_pos e, if_neg (by omega), if_neg a, if_neg c, if_neg d, if_neg]
    intro h
    have := h2 b ((h1 b).2 h)
    omega
  · rw [if_neg e]
    by_cases g : b ∈ sp
    · have hg := (h1 b).1 g
      rw [if_pos g, if_neg (by rcases hg with h | h <;> simp [h]), if_neg a, if_neg c, if_neg d, if_pos hg]
    · have hg := fun h => g ((h1 b).2 h)
      rw [if_neg g, if_pos ⟨by omega, fun h => hg (.inl h), fun h => hg (.inr h)⟩]
end Go.Proofs.YtmjkgnknfgoadaaGreatDoor
/- The contracts of the reference of package name: Show. -/
namespace Go.Proofs.YtmjkgnknfgoadaaGreatDoor
open Go.RowKit
theorem wrap_neg (n : Int) (hn : n < 0) (h0 : -9223372036854775808 ≤ n) : IntKind.u64.wrap (-IntKind.u64.wrap n) = (n.natAbs : Int) := by
  simp [IntKind.wrap, IntKind.signed, IntKind.bits]; omega
theorem cell_new1 (W : World) (v : Value) (t : TypeId) : (W.alloc (.cells #[v] t)).cell? ⟨W.heap.size, 0, none⟩ = some v := by
  simp
theorem conv1 (w : World) (x : Int) : (convert 115 9 (.slice (some ⟨w.heap.size, 0, none⟩) 1 1)).run Tryz.prog (w.alloc (.cells #[.int .u8 x] 5)) = .ok (.string (strOfNums [x])) (w.alloc (.cells #[.int .u8 x] 5)) := by
  refine run_convert_bytes_arg _ _ _ Tryz.underlying115 Tryz.underlying5 _ _ _ _ [x] rfl ?_ _ Tryz.underlying9
  intro i hi
  obtain rfl : i = 0 := by simp at hi; omega
  exact cell_new1 w _ _
theorem decDigits_len20 (m : Nat) (h : (m : Int) ≤ 9223372036854775808) : (Lib.decDigits m).length ≤ 20 := by
  rw [Lib.decDigits_length]; exact Lib.nDigits_le20 m (by omega)
theorem decDigits_step (k : Nat) (h : 9 < k) : Lib.decDigits k = Lib.decDigits (k / 10) ++ [UInt8.ofNat (48 + k % 10)] := by
  conv => { lhs; rw [Lib.decDigits, dif_neg (by omega)] }
theorem shown (m k : Nat) (t : ByteArray) (h : Lib.decDigits m = Lib.decDigits k ++ t.data.toList) (hk : 9 < k) (z : Int) (hz : z = 48 + (k : Int) % 10) :
    Lib.decDigits m = Lib.decDigits (k / 10) ++ (strOfNums [z] ++ t).data.toList := by
  rw [h, decDigits_step k hk]
  have : z.toNat = 48 + k % 10 := by omega
  simp [strOfNums, this]
theorem shown_end (m k : Nat) (t : ByteArray) (h : Lib.decDigits m = Lib.decDigits k ++ t.data.toList) (hk : k ≤ 9) (z : Int) (hz : z = 48 + (k : Int)) (sg : List UInt8) :
    ((⟨sg.toArray⟩ : ByteArray) ++ strOfNums [z] ++ t).data.toList = sg ++ Lib.decDigits m := by
  rw [h, Lib.decDigits_one (by omega)]
  have : z.toNat = 48 + k := by omega
  simp [strOfNums, this]
set_option maxHeartbeats 1000000 in
theorem rshow_any (n : Int) (w : World) (h0 : -9223372036854775808 ≤ n) (h1 : n ≤ 9223372036854775807) :
    Calls Tryz.prog 181 #[.int .i64 n] w fun e w' => ∃ t : ByteArray, e = .returned (.string t) ∧ t.data.toList = Lib.itoa n ∧ Below w.heap.size w w' := by
  obtain ⟨m, hm, hm2⟩ : ∃ m : Nat, (m : Int) ≤ 9223372036854775808 ∧ Hid (m = n.natAbs) := ⟨n.natAbs, by omega, Lib.hid rfl⟩
  have hl := decDigits_len20 m hm
  have HL := Lib.hid hl; clear hl
  have hcv := conv1
  have hs1 : ∀ x : Int, (strOfNums [x]).size = 1 := fun x => strOfNums_size [x]
  by_cases hn : n < 0
  · have hu := Lib.hid (show IntKind.u64.wrap (-IntKind.u64.wrap n) = (m : Int) by rw [hm2.out]; exact wrap_neg n hn h0)
    have HI := Lib.hid (show Lib.itoa n = [45] ++ Lib.decDigits m by rw [hm2.out]; simp [Lib.itoa, hn])
    go_enter Tryz.func181, Tryz.ntmps181
    go_wp2
    rw [hu.out]
    go_loopw [3, 5] (fun u s wr => ∃ (k : Nat) (t : ByteArray), k ≤ m ∧ u = .int .u64 k ∧ s = .string t ∧ Hid (Lib.decDigits m = Lib.decDigits k ++ t.data.toList) ∧ Below w.heap.size w wr) (fun u _ _ => (intOf u).toNat)
    case atStart => exact ⟨m, ByteArray.empty, by omega, rfl, rfl, Lib.hid (by simp), Below.refl _ _⟩
    case round =>
      obtain ⟨k, t, hk, rfl, rfl, HT, hb⟩ := hrel
      have hts : t.size ≤ 20 := by have := HT.out; have h2 := HL.out; rw [this] at h2; simp at h2; have := sz_data t; simp at this; omega
      by_cases h9 : 9 < k
      · go_wp2
        exact ⟨⟨k / 10, _, by omega, by go_num, rfl, Lib.hid (shown m k t HT.out h9 _ rfl), hb.alloc hb.size _⟩, by simp [intOf]; omega⟩
      · go_wp2
        go_ret
        exact ⟨_, rfl, by rw [HI.out]; exact shown_end m k t HT.out (by omega) _ rfl [45], hb.alloc hb.size _⟩
  · have HI := Lib.hid (show Lib.itoa n = [] ++ Lib.decDigits m by rw [hm2.out]; simp [Lib.itoa, hn]; congr 1; omega)
    obtain ⟨n', hn'⟩ : ∃ n' : Int, n' = n := ⟨n, rfl⟩
    have hmn : n = (m : Int) := by have := hm2.out; omega
    subst hmn
    go_enter Tryz.func181, Tryz.ntmps181
    go_wp2
    go_loopw [3, 5] (fun u s wr => ∃ (k : Nat) (t : ByteArray), k ≤ m ∧ u = .int .u64 k ∧ s = .string t ∧ Hid (Lib.decDigits m = Lib.decDigits k ++ t.data.toList) ∧ Below w.heap.size w wr) (fun u _ _ => (intOf u).toNat)
    case atStart => exact ⟨m, ByteArray.empty, by omega, rfl, rfl, Lib.hid (by simp), Below.refl _ _⟩
    case round =>
      obtain ⟨k, t, hk, rfl, rfl, HT, hb⟩ := hrel
      have hts : t.size ≤ 20 := by have := HT.out; have h2 := HL.out; rw [this] at h2; simp at h2; have := sz_data t; simp at this; omega
      by_cases h9 : 9 < k
      · go_wp2
        exact ⟨⟨k / 10, _, by omega, by go_num, rfl, Lib.hid (shown m k t HT.out h9 _ rfl), hb.alloc hb.size _⟩, by simp [intOf]; omega⟩
      · go_wp2
        go_ret
        exact ⟨_, rfl, by rw [HI.out]; exact shown_end m k t HT.out (by omega) _ rfl [], hb.alloc hb.size _⟩
end Go.Proofs.YtmjkgnknfgoadaaGreatDoor
/- The contracts of bonsairef03's digit, within, Sign and Literal. -/
namespace Go.Proofs.YtmjkgnknfgoadaaGreatDoor
open Go.RowKit
set_option linter.unusedSimpArgs false
set_option linter.unusedVariables false
theorem hex_at : ∀ n : Nat, n < 16 → (⟨#[48, 49, 50, 51, 52, 53, 54, 55, 56, 57, 97, 98, 99, 100, 101, 102]⟩ : ByteArray).extract n (n + 1) = ⟨#[hexB n]⟩ := by
  intro n h
  have hc : n = 0 ∨ n = 1 ∨ n = 2 ∨ n = 3 ∨ n = 4 ∨ n = 5 ∨ n = 6 ∨ n = 7 ∨ n = 8 ∨ n = 9 ∨ n = 10 ∨ n = 11 ∨ n = 12 ∨ n = 13 ∨ n = 14 ∨ n = 15 := by omega
  rcases hc with rfl | rfl | rfl | rfl | rfl | rfl | rfl | rfl | rfl | rfl | rfl | rfl | rfl | rfl | rfl | rfl <;> rfl
set_option maxHeartbeats 800000 in
theorem digit3_any (n : Nat) (hn : n < 16) (w : World) :
    Calls Tryz.prog 190 #[.int .i64 n] w fun e w' => w = w' ∧ e = .returned (.string ⟨#[hexB n]⟩) := by
  have HX := Lib.hid (hex_at n hn)
  have i1 : (0 : Int) ≤ (n : Int) := by omega
  have i2 : (n : Int) + 1 ≤ 16 := by omega
  have i3 : (n : Int) ≤ (n : Int) + 1 := by omega
  go_enter Tryz.func190, Tryz.ntmps190
  go_wp2_with fail
  go_ret
  exact ⟨rfl, by rw [← HX.out]; try rfl⟩
theorem digit3_at (z : Int) (n : Nat) (hz : z = (n : Int)) (hn : n < 16) (w : World) :
    Calls Tryz.prog 190 #[.int .i64 z] w fun e w' => w = w' ∧ e = .returned (.string ⟨#[hexB n]⟩) := by
  subst hz; exact digit3_any n hn w
theorem mem_take_at (s : ByteArray) (k : Nat) (hk : k < s.size) (b : UInt8) : b ∈ s.data.toList.take (k + 1) ↔ b ∈ s.data.toList.take k ∨ s[k] = b := by
  have h : k < s.data.toList.length := hk
  rw [List.take_add_one, List.getElem?_eq_getElem h, List.mem_append]
  simp only [Option.toList_some, List.mem_singleton]
  exact or_congr Iff.rfl ⟨fun e => e.symm, fun e => e.symm⟩
set_option maxHeartbeats 800000 in
theorem within3_core (b : UInt8) (s : ByteArray) (w : World) (hs : s.size ≤ 1000) (r : Bool) (HR : Hid (r = decide (b ∈ s.data.toList))) :
    Calls Tryz.prog 191 #[.int .u8 b.toNat, .string s] w fun e w' => w = w' ∧ e = .returned (.bool r) := by
  go_enter Tryz.func191, Tryz.ntmps191
  go_wp2_with fail
  go_loop [5] (fun v5 => ∃ k : Nat, k ≤ s.size ∧ v5 = .int .i64 k ∧ Hid (b ∉ s.data.toList.take k)) (fun v5 => s.size - (intOf v5).toNat)
  case atStart => exact ⟨0, Nat.zero_le _, rfl, Lib.hid (by simp)⟩
  case round =>
    obtain ⟨k, hk, rfl, HN⟩ := hrel
    by_cases hlt : k < s.size
    · have i1 : (k : Int) < (s.size : Int) := by omega
      have i2 : (0 : Int) ≤ (k : Int) := by omega
      by_cases he : s[k] = b
      · have i3 : ((s[k].toNat : Int) == (b.toNat : Int)) = true := by rw [he]; simp
        have HD := Lib.hid (show b ∈ s.data.toList from List.mem_of_mem_take ((mem_take_at s k hlt b).2 (.inr he)))
        clear he
        go_wp2_with fail
        go_ret
        exact ⟨rfl, ret_bool (show true = r from by rw [HR.out, decide_eq_true HD.out])⟩
      · have i3 : ((s[k].toNat : Int) == (b.toNat : Int)) = false := by
          rw [beq_eq_false_iff_ne]
          intro h
          exact he (UInt8.toNat_inj.1 (by omega))
        have HD := Lib.hid (show b ∉ s.data.toList.take (k + 1) from fun h => ((mem_take_at s k hlt b).1 h).elim HN.out he)
        clear he
        go_wp2_with fail
        exact ⟨⟨k + 1, hlt, by go_num, HD⟩, by simp [intOf]; omega⟩
    · obtain rfl : k = s.size := by omega
      go_wp2_with fail
      go_ret
      have HD := Lib.hid (show b ∉ s.data.toList from fun h => HN.out (by rwa [List.take_of_length_le (show s.data.toList.length ≤ s.size from Nat.le_refl _)]))
      exact ⟨rfl, ret_bool (show false = r from by rw [HR.out, decide_eq_false HD.out])⟩
theorem within3_any (b : UInt8) (s : ByteArray) (w : World) (hs : s.size ≤ 1000) :
    Calls Tryz.prog 191 #[.int .u8 b.toNat, .string s] w fun e w' => w = w' ∧ e = .returned (.bool (decide (b ∈ s.data.toList))) :=
  within3_core b s w hs _ (Lib.hid rfl)
theorem str1 (b : UInt8) : strOfNums [(b.toNat : Int)] = ⟨#[b]⟩ := by simp [strOfNums]
set_option maxRecDepth 100000 in
set_option maxHeartbeats 1600000 in
theorem sign3_any (b : UInt8) (sp : ByteArray) (w : World) (hs : sp.size ≤ 1000) :
    Calls Tryz.prog 180 #[.int .u8 b.toNat, .string sp] w fun e w' => e = .returned (.string ⟨(signR sp.data.toList b).toArray⟩) ∧ Below w.heap.size w w' := by
  have hcv := conv1
  have hs1 : ∀ x : Int, (strOfNums [x]).size = 1 := fun x => strOfNums_size [x]
  have hb := b.toNat_lt
  by_cases h10 : b = 10
  · subst h10
    go_enter Tryz.func180, Tryz.ntmps180
    go_wp2_with fail
    go_ret
    exact ⟨by simp [signR], Below.refl _ _⟩
  by_cases h13 : b = 13
  · subst h13
    go_enter Tryz.func180, Tryz.ntmps180
    go_wp2_with fail
    go_ret
    exact ⟨by simp [signR], Below.refl _ _⟩
  by_cases h9 : b = 9
  · subst h9
    go_enter Tryz.func180, Tryz.ntmps180
    go_wp2_with fail
    go_ret
    exact ⟨by simp [signR], Below.refl _ _⟩
  have e10 : ((b.toNat : Int) == 10) = false := by
    rw [beq_eq_false_iff_ne]; intro h; exact h10 (UInt8.toNat_inj.1 (by show b.toNat = 10; omega))
  have e13 : ((b.toNat : Int) == 13) = false := by
    rw [beq_eq_false_iff_ne]; intro h; exact h13 (UInt8.toNat_inj.1 (by show b.toNat = 13; omega))
  have e9 : ((b.toNat : Int) == 9) = false := by
    rw [beq_eq_false_iff_ne]; intro h; exact h9 (UInt8.toNat_inj.1 (by show b.toNat = 9; omega))
  by_cases hp : b.toNat < 32 ∨ 126 < b.toNat
  · have HS := Lib.hid (show signR sp.data.toList b = [92, 120, hexB (b.toNat / 16), hexB (b.toNat % 16)] from by
      unfold signR; rw [if_neg h10, if_neg h13, if_neg h9, if_pos hp])
    clear h10 h13 h9
    rcases hp with hp | hp
    · have i1 : (b.toNat : Int) < 32 := by omega
      go_enter Tryz.func180, Tryz.ntmps180
      go_wp2_with (go_at_call 190; first | (refine (digit3_at _ (b.toNat / 16) (by omega) (by omega) _).mono ?_; rintro e w5 ⟨rfl, rfl⟩) | (refine (digit3_at _ (b.toNat % 16) (by omega) (by omega) _).mono ?_; rintro e w5 ⟨rfl, rfl⟩))
      go_ret
      exact ⟨by rw [HS.out]; try rfl, Below.refl _ _⟩
    · have i1 : ¬ (b.toNat : Int) < 32 := by omega
      have i2 : 126 < (b.toNat : Int) := by omega
      go_enter Tryz.func180, Tryz.ntmps180
      go_wp2_with (go_at_call 190; first | (refine (digit3_at _ (b.toNat / 16) (by omega) (by omega) _).mono ?_; rintro e w5 ⟨rfl, rfl⟩) | (refine (digit3_at _ (b.toNat % 16) (by omega) (by omega) _).mono ?_; rintro e w5 ⟨rfl, rfl⟩))
      go_ret
      exact ⟨by rw [HS.out]; try rfl, Below.refl _ _⟩
  · have i1 : ¬ (b.toNat : Int) < 32 := by omega
    have i2 : ¬ 126 < (b.toNat : Int) := by omega
    have HW := Lib.hid (within3_any b sp w hs)
    have HS0 := Lib.hid (show signR sp.data.toList b = if b ∈ sp.data.toList then [92, b] else [b] from by
      unfold signR; rw [if_neg h10, if_neg h13, if_neg h9, if_neg hp])
    have H1 := Lib.hid (str1 b)
    clear h10 h13 h9 hp
    by_cases hm : b ∈ sp.data.toList
    · have HS := Lib.hid (HS0.out.trans (if_pos hm))
      rw [decide_eq_true hm] at HW
      clear hm HS0
      go_enter Tryz.func180, Tryz.ntmps180
      go_wp2_with (go_at_call 191; refine HW.out.mono ?_; rintro e w5 ⟨rfl, rfl⟩)
      go_ret
      exact ⟨by rw [HS.out, H1.out]; try rfl, (Below.refl _ _).alloc (Nat.le_refl _) _⟩
    · have HS := Lib.hid (HS0.out.trans (if_neg hm))
      rw [decide_eq_false hm] at HW
      clear hm HS0
      go_enter Tryz.func180, Tryz.ntmps180
      go_wp2_with (go_at_call 191; refine HW.out.mono ?_; rintro e w5 ⟨rfl, rfl⟩)
      go_ret
      exact ⟨by rw [HS.out, H1.out]; try rfl, (Below.refl _ _).alloc (Nat.le_refl _) _⟩
theorem signR_lit (b : UInt8) : signR [34, 92] b = signB [34] b := signR_eq [34] [34, 92] (fun x => by simp only [List.mem_cons, List.not_mem_nil, or_false]; exact or_comm) (fun x hx => by
  simp only [List.mem_cons, List.not_mem_nil, or_false] at hx
  rcases hx with rfl | rfl <;> decide) b
theorem signR_class (b : UInt8) : signR [93, 45, 94, 92] b = signB [93, 45, 94] b := signR_eq [93, 45, 94] [93, 45, 94, 92] (fun x => by
  simp only [List.mem_cons, List.not_mem_nil, or_false]
  constructor
  · rintro (h | h | h | h) <;> simp [h]
  · rintro (h | h | h | h) <;> simp [h]) (fun x hx => by
  simp only [List.mem_cons, List.not_mem_nil, or_false] at hx
  rcases hx with rfl | rfl | rfl | rfl <;> decide) b
def litK (s : ByteArray) (k : Nat) : List UInt8 := (s.data.toList.take k).flatMap (signB [34])
theorem litK_succ (s : ByteArray) (k : Nat) (hk : k < s.size) : litK s (k + 1) = litK s k ++ signB [34] s[k] := by
  have h : k < s.data.toList.length := hk
  unfold litK
  rw [List.take_add_one, List.getElem?_eq_getElem h, List.flatMap_append]
  simp only [Option.toList_some, List.flatMap_cons, List.flatMap_nil, List.append_nil]
  rfl
set_option maxHeartbeats 1600000 in
theorem rlit_any (s : ByteArray) (w : World) (hs : s.size ≤ 1000000) :
    Calls Tryz.prog 168 #[.string s] w fun e w' => e = .returned (.string ⟨(litB s.data.toList).toArray⟩) ∧ Below w.heap.size w w' := by
  go_enter Tryz.func168, Tryz.ntmps168
  go_wp2_with fail
  go_loopw [3, 4] (fun v3 v4 wr => ∃ (k : Nat) (o : ByteArray), k ≤ s.size ∧ v4 = .int .i64 k ∧ v3 = .string o ∧ o.size ≤ k * 4 ∧ Hid (o = ⟨(litK s k).toArray⟩) ∧ Hid (Below w.heap.size w wr)) (fun _ v4 _ => s.size - (intOf v4).toNat)
  case atStart => exact ⟨0, ByteArray.empty, Nat.zero_le _, rfl, rfl, Nat.le_refl _, Lib.hid (by simp [litK]; rfl), Lib.hid (Below.refl _ _)⟩
  case round =>
    obtain ⟨k, o, hk, rfl, rfl, hol, HO, HB⟩ := hrel
    by_cases hlt : k < s.size
    · have i1 : (k : Int) < (s.size : Int) := by omega
      have i2 : (0 : Int) ≤ (k : Int) := by omega
      have HN := Lib.hid (show o ++ (⟨(signB [34] s[k]).toArray⟩ : ByteArray) = ⟨(litK s (k + 1)).toArray⟩ from by
        rw [HO.out, litK_succ s k hlt]
        exact ByteArray.ext (by simp))
      have HC := Lib.hid (sign3_any s[k] ⟨#[34, 92]⟩ wr (by decide))
      rw [show (⟨#[34, 92]⟩ : ByteArray).data.toList = [34, 92] from rfl, signR_lit] at HC
      have hsl : (⟨(signB [34] s[k]).toArray⟩ : ByteArray).size ≤ 4 := (signB_len [34] s[k]).2
      generalize (⟨(signB [34] s[k]).toArray⟩ : ByteArray) = z at *
      go_wp2_with (go_at_call 180; refine HC.out.mono ?_; rintro e w5 ⟨rfl, hb5⟩; have HB5 := Lib.hid (HB.out.trans (hb5.mono HB.out.size)); clear hb5)
      exact ⟨⟨k + 1, _, hlt, by go_num, rfl, by simp; omega, HN, HB5⟩, by simp [intOf]; omega⟩
    · obtain rfl : k = s.size := by omega
      have HN := Lib.hid (show (⟨#[34]⟩ ++ o ++ ⟨#[34]⟩ : ByteArray) = ⟨(litB s.data.toList).toArray⟩ from by
        rw [HO.out]
        unfold litK litB
        rw [List.take_of_length_le (show s.data.toList.length ≤ s.size from Nat.le_refl _)]
        exact ByteArray.ext (by simp))
      go_wp2_with fail
      go_ret
      exact ⟨by rw [← HN.out]; try rfl, HB.out⟩
end Go.Proofs.YtmjkgnknfgoadaaGreatDoor
