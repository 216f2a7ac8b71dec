/-
  Texts with their lengths ahead: both PutTexts, both TakeTexts.
-/
import Derived.Test.YthlajcohbpjgkaaDoorMDef
import Derived.Test.YthlajcohbpjgkaaDoorVRTake
import Derived.Test.YthlajcohbpjgkaaDoorVTake
namespace Go.Proofs.YthlajcohbpjgkaaDoor
open Go.RowKit Go.Shelf Go.Proofs.Mem
set_option linter.unusedVariables false

theorem putL_len (k n : Nat) : (putL k n).length ≤ k + 1 := by
  induction k generalizing n with
  | zero => exact Nat.le_refl _
  | succ k ih =>
    show (if n < 128 then _ else _ : List UInt8).length ≤ _
    split
    · simp
    · rw [List.length_cons]; have := ih (n / 128); omega
theorem putB_size (n : Nat) : (putB n).size ≤ 11 := by
  show (putL 10 n).toArray.size ≤ 11
  rw [List.size_toArray]
  exact putL_len 10 n
theorem putT_size (s : ByteArray) : (putT s).size ≤ s.size + 11 := by
  unfold putT
  rw [ByteArray.size_append]
  have := putB_size s.size
  omega

set_option maxHeartbeats 1000000 in
theorem rputt_any (s : ByteArray) (w : World) (hs : s.size ≤ 65536) :
    Calls Tryd.prog 39 #[.string s] w fun e w' => e = .returned (.string (putT s)) ∧ Below w.heap.size w w' := by
  obtain ⟨p, hp⟩ : ∃ p, p = putB s.size := ⟨_, rfl⟩
  have hac : ¬ 9223372036854775807 < p.size + s.size := by rw [hp]; have := putB_size s.size; omega
  have HP := Lib.hid hp
  have d1 : decide (65536 < (s.size : Int)) = false := decide_eq_false (by omega)
  have d2 : decide (65536 < s.size) = false := decide_eq_false (by omega)
  have hw : IntKind.u64.wrap (s.size : Int) = (s.size : Int) := wraps_u64 _ (by omega) (by omega)
  clear hp
  go_enter Tryd.func39, Tryd.ntmps39
  go_wp2_with (go_at_call 40; refine Calls.mono (rput_any s.size _ (by omega)) ?_; rw [← HP.out]; rintro e w1 ⟨rfl, hB1⟩)
  go_ret
  exact ⟨by unfold putT; rw [HP.out]; rfl, hB1⟩

set_option maxHeartbeats 1000000 in
theorem vputt_any (s : ByteArray) (w : World) (hs : s.size ≤ 65536) :
    Calls Tryd.prog 21 #[.string s] w fun e w' => e = .returned (.string (putT s)) ∧ Below w.heap.size w w' := by
  obtain ⟨p, hp⟩ : ∃ p, p = putB s.size := ⟨_, rfl⟩
  have hac : ¬ 9223372036854775807 < p.size + s.size := by rw [hp]; have := putB_size s.size; omega
  have HP := Lib.hid hp
  have d1 : decide (65536 < (s.size : Int)) = false := decide_eq_false (by omega)
  have d2 : decide (65536 < s.size) = false := decide_eq_false (by omega)
  have hw : IntKind.u64.wrap (s.size : Int) = (s.size : Int) := wraps_u64 _ (by omega) (by omega)
  clear hp
  go_enter Tryd.func21, Tryd.ntmps21
  go_wp2_with (go_at_call 22; refine Calls.mono (vput_any s.size _ (by omega)) ?_; rw [← HP.out]; rintro e w1 ⟨rfl, hB1⟩)
  go_ret
  exact ⟨by unfold putT; rw [HP.out]; rfl, hB1⟩

theorem takeR_end (s : ByteArray) (f i n : Nat) : (takeR s f i n).2.1 ≤ s.size := by
  induction f generalizing i n with
  | zero => exact Nat.zero_le _
  | succ f ih =>
    rw [takeR]
    split
    · exact Nat.zero_le _
    · split
      · exact Nat.zero_le _
      · split
        · split
          · exact Nat.zero_le _
          · show i + 1 ≤ _; omega
        · exact ih _ _
theorem takeR_lt (s : ByteArray) (f i n : Nat) (hf : i + f = 10) (hn : n < 2 ^ (7 * i)) : (takeR s f i n).1 < 18446744073709551616 := by
  induction f generalizing i n with
  | zero => show 0 < _; omega
  | succ f ih =>
    have hc8 := byteAt_lt s i
    rw [takeR]
    split
    · show 0 < _; omega
    · split
      · show 0 < _; omega
      · rename_i h9
        split
        · split
          · show 0 < _; omega
          · show n + byteAt s i % 128 * 2 ^ (7 * i) < _
            by_cases hi : i = 9
            · subst hi
              have h1 : byteAt s 9 ≤ 1 := by omega
              have h2 : byteAt s 9 % 128 * 2 ^ (7 * 9) ≤ 1 * 2 ^ (7 * 9) := Nat.mul_le_mul_right _ (by omega)
              have e : 2 ^ (7 * 9) = 9223372036854775808 := by decide
              omega
            · have h1 := group_lt (byteAt s i) i n (by omega) hn
              have h2 := pow63 (i + 1) (by omega)
              omega
        · rename_i h128
          have h8 : i ≤ 8 := by omega
          exact ih _ _ (by omega) (group_lt (byteAt s i) i n h8 hn)
theorem takeB_lt (s : ByteArray) : (takeB s).1 < 18446744073709551616 := takeR_lt s 10 0 0 rfl (by decide)
theorem takeB_end (s : ByteArray) : (takeB s).2.1 ≤ s.size := takeR_end s 10 0 0

/-- The text that bytes begin with, where it ends, why not. -/
def takeT (s : ByteArray) : ByteArray × Nat × Nat :=
  if (takeB s).2.2 ≠ 0 then (⟨#[]⟩, 0, (takeB s).2.2)
  else if 65536 < (takeB s).1 then (⟨#[]⟩, 0, 4)
  else if s.size - (takeB s).2.1 < (takeB s).1 then (⟨#[]⟩, 0, 1)
  else (s.extract (takeB s).2.1 ((takeB s).2.1 + (takeB s).1), (takeB s).2.1 + (takeB s).1, 0)
def texV (t : ByteArray × Nat × Nat) : Value := .tuple #[.string t.1, .int .i64 (t.2.1 : Nat), .int .i64 (t.2.2 : Nat)]

theorem vtake_any (s : ByteArray) (w : World) (hz : s.size ≤ 1000000) :
    Calls Tryd.prog 58 #[.string s] w fun e w' => e = .returned (tripV (takeB s)) ∧ Below w.heap.size w w' := callsIn_wide.1 (vtake_in s w hz)

set_option maxHeartbeats 1000000 in
theorem rtaket_any (s : ByteArray) (w : World) (hs : s.size ≤ 1000000) :
    Calls Tryd.prog 51 #[.string s] w fun e w' => e = .returned (texV (takeT s)) ∧ Below w.heap.size w w' := by
  obtain ⟨⟨n, k, c⟩, ht⟩ : ∃ t, t = takeB s := ⟨_, rfl⟩
  have hT : takeT s = if c ≠ 0 then (⟨#[]⟩, 0, c) else if 65536 < n then (⟨#[]⟩, 0, 4) else if s.size - k < n then (⟨#[]⟩, 0, 1) else (s.extract k (k + n), k + n, 0) := by unfold takeT; rw [← ht]
  have hn : n < 18446744073709551616 := by have := takeB_lt s; rw [← ht] at this; exact this
  have hk : k ≤ s.size := by have := takeB_end s; rw [← ht] at this; exact this
  have HT := Lib.hid ht
  clear ht
  by_cases hc : c = 0
  case neg =>
    have d0 : ((c : Int) == 0) = false := by rw [beq_eq_false_iff_ne]; omega
    have d1 : ((c : Int) != 0) = true := by rw [bne, d0]; rfl
    rw [if_pos hc] at hT
    have HQ := Lib.hid hT
    clear hT hc
    go_enter Tryd.func51, Tryd.ntmps51
    go_wp2_with (go_at_call 30; refine Calls.mono (rtake_any s _ hs) ?_; rw [← HT.out]; rintro e w1 ⟨rfl, hB1⟩; unfold tripV)
    refine bodyPost_ret (v := .tuple #[.string ⟨#[]⟩, .int .i64 0, .int .i64 (c : Nat)]) ?_ rfl ?_
    · simp only [results, Tryd.f51]
      go_simp
    · exact ⟨by rw [HQ.out]; rfl, hB1⟩
  subst hc
  rw [if_neg (by simp)] at hT
  by_cases h6 : 65536 < n
  case pos =>
    have d2 : decide (65536 < (n : Int)) = true := decide_eq_true (by omega)
    have d3 : decide (65536 < n) = true := decide_eq_true h6
    rw [if_pos h6] at hT
    have HQ := Lib.hid hT
    clear hT h6
    go_enter Tryd.func51, Tryd.ntmps51
    go_wp2_with (go_at_call 30; refine Calls.mono (rtake_any s _ hs) ?_; rw [← HT.out]; rintro e w1 ⟨rfl, hB1⟩; unfold tripV)
    refine bodyPost_ret (v := .tuple #[.string ⟨#[]⟩, .int .i64 0, .int .i64 4]) ?_ rfl ?_
    · simp only [results, Tryd.f51]
      go_simp
    · exact ⟨by rw [HQ.out]; rfl, hB1⟩
  rw [if_neg h6] at hT
  have d2 : decide (65536 < (n : Int)) = false := decide_eq_false (by omega)
  have d3 : decide (65536 < n) = false := decide_eq_false h6
  have hwn : IntKind.i64.wrap (n : Int) = (n : Int) := by simp [IntKind.wrap, IntKind.bits, IntKind.signed]; omega
  by_cases hl : s.size - k < n
  case pos =>
    have d4 : (s.size : Int) - (k : Int) < (n : Int) := by omega
    rw [if_pos hl] at hT
    have HQ := Lib.hid hT
    clear hT hl
    go_enter Tryd.func51, Tryd.ntmps51
    go_wp2_with (go_at_call 30; refine Calls.mono (rtake_any s _ hs) ?_; rw [← HT.out]; rintro e w1 ⟨rfl, hB1⟩; unfold tripV)
    refine bodyPost_ret (v := .tuple #[.string ⟨#[]⟩, .int .i64 0, .int .i64 1]) ?_ rfl ?_
    · simp only [results, Tryd.f51]
      go_simp
    · exact ⟨by rw [HQ.out]; rfl, hB1⟩
  rw [if_neg hl] at hT
  have d4 : ¬ (s.size : Int) - (k : Int) < (n : Int) := by omega
  have d5 : (k : Int) + (n : Int) ≤ (s.size : Int) := by omega
  have HQ := Lib.hid hT
  clear hT hl
  go_enter Tryd.func51, Tryd.ntmps51
  go_wp2_with (go_at_call 30; refine Calls.mono (rtake_any s _ hs) ?_; rw [← HT.out]; rintro e w1 ⟨rfl, hB1⟩; unfold tripV)
  refine bodyPost_ret (v := .tuple #[.string (s.extract k (k + n)), .int .i64 ((k : Int) + (n : Int)), .int .i64 0]) ?_ rfl ?_
  · simp only [results, Tryd.f51]
    go_simp
  · exact ⟨by rw [HQ.out]; rfl, hB1⟩

set_option maxHeartbeats 1000000 in
theorem vtaket_any (s : ByteArray) (w : World) (hs : s.size ≤ 1000000) :
    Calls Tryd.prog 57 #[.string s] w fun e w' => e = .returned (texV (takeT s)) ∧ Below w.heap.size w w' := by
  obtain ⟨⟨n, k, c⟩, ht⟩ : ∃ t, t = takeB s := ⟨_, rfl⟩
  have hT : takeT s = if c ≠ 0 then (⟨#[]⟩, 0, c) else if 65536 < n then (⟨#[]⟩, 0, 4) else if s.size - k < n then (⟨#[]⟩, 0, 1) else (s.extract k (k + n), k + n, 0) := by unfold takeT; rw [← ht]
  have hn : n < 18446744073709551616 := by have := takeB_lt s; rw [← ht] at this; exact this
  have hk : k ≤ s.size := by have := takeB_end s; rw [← ht] at this; exact this
  have HT := Lib.hid ht
  clear ht
  by_cases hc : c = 0
  case neg =>
    have d0 : ((c : Int) == 0) = false := by rw [beq_eq_false_iff_ne]; omega
    have d1 : ((c : Int) != 0) = true := by rw [bne, d0]; rfl
    rw [if_pos hc] at hT
    have HQ := Lib.hid hT
    clear hT hc
    go_enter Tryd.func57, Tryd.ntmps57
    go_wp2_with (go_at_call 58; refine Calls.mono (vtake_any s _ hs) ?_; rw [← HT.out]; rintro e w1 ⟨rfl, hB1⟩; unfold tripV)
    refine bodyPost_ret (v := .tuple #[.string ⟨#[]⟩, .int .i64 0, .int .i64 (c : Nat)]) ?_ rfl ?_
    · simp only [results, Tryd.f57]
      go_simp
    · exact ⟨by rw [HQ.out]; rfl, hB1⟩
  subst hc
  rw [if_neg (by simp)] at hT
  by_cases h6 : 65536 < n
  case pos =>
    have d2 : decide (65536 < (n : Int)) = true := decide_eq_true (by omega)
    have d3 : decide (65536 < n) = true := decide_eq_true h6
    rw [if_pos h6] at hT
    have HQ := Lib.hid hT
    clear hT h6
    go_enter Tryd.func57, Tryd.ntmps57
    go_wp2_with (go_at_call 58; refine Calls.mono (vtake_any s _ hs) ?_; rw [← HT.out]; rintro e w1 ⟨rfl, hB1⟩; unfold tripV)
    refine bodyPost_ret (v := .tuple #[.string ⟨#[]⟩, .int .i64 0, .int .i64 4]) ?_ rfl ?_
    · simp only [results, Tryd.f57]
      go_simp
    · exact ⟨by rw [HQ.out]; rfl, hB1⟩
  rw [if_neg h6] at hT
  have d2 : decide (65536 < (n : Int)) = false := decide_eq_false (by omega)
  have d3 : decide (65536 < n) = false := decide_eq_false h6
  have hwn : IntKind.i64.wrap (n : Int) = (n : Int) := by simp [IntKind.wrap, IntKind.bits, IntKind.signed]; omega
  have hwk : IntKind.u64.wrap ((s.size : Int) - (k : Int)) = (s.size : Int) - (k : Int) := wraps_u64 _ (by omega) (by omega)
  by_cases hl : s.size - k < n
  case pos =>
    have d4 : (s.size : Int) - (k : Int) < (n : Int) := by omega
    rw [if_pos hl] at hT
    have HQ := Lib.hid hT
    clear hT hl
    go_enter Tryd.func57, Tryd.ntmps57
    go_wp2_with (go_at_call 58; refine Calls.mono (vtake_any s _ hs) ?_; rw [← HT.out]; rintro e w1 ⟨rfl, hB1⟩; unfold tripV)
    refine bodyPost_ret (v := .tuple #[.string ⟨#[]⟩, .int .i64 0, .int .i64 1]) ?_ rfl ?_
    · simp only [results, Tryd.f57]
      go_simp
    · exact ⟨by rw [HQ.out]; rfl, hB1⟩
  rw [if_neg hl] at hT
  have d4 : ¬ (s.size : Int) - (k : Int) < (n : Int) := by omega
  have d5 : (k : Int) + (n : Int) ≤ (s.size : Int) := by omega
  have HQ := Lib.hid hT
  clear hT hl
  go_enter Tryd.func57, Tryd.ntmps57
  go_wp2_with (go_at_call 58; refine Calls.mono (vtake_any s _ hs) ?_; rw [← HT.out]; rintro e w1 ⟨rfl, hB1⟩; unfold tripV)
  refine bodyPost_ret (v := .tuple #[.string (s.extract k (k + n)), .int .i64 ((k : Int) + (n : Int)), .int .i64 0]) ?_ rfl ?_
  · simp only [results, Tryd.f57]
    go_simp
  · exact ⟨by rw [HQ.out]; rfl, hB1⟩

end Go.Proofs.YthlajcohbpjgkaaDoor
