/-
  Eight bytes as a number.
-/
import Derived.Test.YtingloamfpibaaaBMath
import Derived.WalkKit
namespace Go.Proofs.Ytingloamfpibaaa
open Go.RowKit
set_option linter.unusedVariables false

def byteAt (s : ByteArray) (i : Nat) : Nat := if h : i < s.size then s[i].toNat else 0
theorem byteAt_eq (s : ByteArray) (i : Nat) (h : i < s.size) : byteAt s i = s[i].toNat := by unfold byteAt; rw [dif_pos h]
theorem byteAt_lt (s : ByteArray) (i : Nat) : byteAt s i < 256 := by
  unfold byteAt
  split
  · exact s[i].toNat_lt
  · decide
/-- The first k bytes, the lowest first. -/
def lowP (s : ByteArray) : Nat → Nat
  | 0 => 0
  | k + 1 => lowP s k + byteAt s k * 256 ^ k
/-- The bytes from 8 - k on. -/
def leR (s : ByteArray) : Nat → Nat
  | 0 => 0
  | k + 1 => leR s k * 256 + byteAt s (7 - k)
def le8 (s : ByteArray) : Nat := lowP s 8
theorem le8_eq (s : ByteArray) : leR s 8 = le8 s := by
  simp only [leR, le8, lowP, Nat.reduceSub, Nat.reducePow]
  omega
theorem lowP_lt (s : ByteArray) : ∀ k, lowP s k < 256 ^ k := by
  intro k
  induction k with
  | zero => simp [lowP]
  | succ k ih =>
    have h := byteAt_lt s k
    rw [lowP, Nat.pow_succ]
    have : byteAt s k * 256 ^ k ≤ 255 * 256 ^ k := Nat.mul_le_mul_right _ (by omega)
    omega
theorem leR_lt (s : ByteArray) : ∀ k, leR s k < 256 ^ k := by
  intro k
  induction k with
  | zero => simp [leR]
  | succ k ih =>
    have h := byteAt_lt s (7 - k)
    rw [leR, Nat.pow_succ]
    omega
theorem le8_lt (s : ByteArray) : le8 s < 18446744073709551616 := by have := lowP_lt s 8; unfold le8; omega

theorem join_step (k : Nat) (hk : k < 8) (n b : Nat) (hn : n < 256 ^ k) (hb : b < 256) : bits .or .u64 (n : Int) (IntKind.u64.wrap ((b : Int) * 2 ^ (8 * k))) = ((n + b * 256 ^ k : Nat) : Int) := by
  have hk7 : k = 0 ∨ k = 1 ∨ k = 2 ∨ k = 3 ∨ k = 4 ∨ k = 5 ∨ k = 6 ∨ k = 7 := by omega
  rcases hk7 with rfl | rfl | rfl | rfl | rfl | rfl | rfl | rfl
  · simp only [Nat.reduceMul, Int.reducePow, Nat.reducePow] at hn ⊢
    rw [wraps_u64 _ (by omega) (by omega), bits_join_low .u64 64 (by decide) wraps_u64 0 _ _ (by omega) (by omega) (by omega) (by omega) (by omega) (by omega)]
    omega
  · simp only [Nat.reduceMul, Int.reducePow, Nat.reducePow] at hn ⊢
    rw [wraps_u64 _ (by omega) (by omega), bits_join_low .u64 64 (by decide) wraps_u64 8 _ _ (by omega) (by omega) (by omega) (by omega) (by omega) (by omega)]
    omega
  · simp only [Nat.reduceMul, Int.reducePow, Nat.reducePow] at hn ⊢
    rw [wraps_u64 _ (by omega) (by omega), bits_join_low .u64 64 (by decide) wraps_u64 16 _ _ (by omega) (by omega) (by omega) (by omega) (by omega) (by omega)]
    omega
  · simp only [Nat.reduceMul, Int.reducePow, Nat.reducePow] at hn ⊢
    rw [wraps_u64 _ (by omega) (by omega), bits_join_low .u64 64 (by decide) wraps_u64 24 _ _ (by omega) (by omega) (by omega) (by omega) (by omega) (by omega)]
    omega
  · simp only [Nat.reduceMul, Int.reducePow, Nat.reducePow] at hn ⊢
    rw [wraps_u64 _ (by omega) (by omega), bits_join_low .u64 64 (by decide) wraps_u64 32 _ _ (by omega) (by omega) (by omega) (by omega) (by omega) (by omega)]
    omega
  · simp only [Nat.reduceMul, Int.reducePow, Nat.reducePow] at hn ⊢
    rw [wraps_u64 _ (by omega) (by omega), bits_join_low .u64 64 (by decide) wraps_u64 40 _ _ (by omega) (by omega) (by omega) (by omega) (by omega) (by omega)]
    omega
  · simp only [Nat.reduceMul, Int.reducePow, Nat.reducePow] at hn ⊢
    rw [wraps_u64 _ (by omega) (by omega), bits_join_low .u64 64 (by decide) wraps_u64 48 _ _ (by omega) (by omega) (by omega) (by omega) (by omega) (by omega)]
    omega
  · simp only [Nat.reduceMul, Int.reducePow, Nat.reducePow] at hn ⊢
    rw [wraps_u64 _ (by omega) (by omega), bits_join_low .u64 64 (by decide) wraps_u64 56 _ _ (by omega) (by omega) (by omega) (by omega) (by omega) (by omega)]
    omega

set_option maxHeartbeats 1000000 in
theorem low_any (s : ByteArray) (w : World) (hs : 8 ≤ s.size) :
    Calls Try.prog 37 #[.string s] w fun e w' => e = .returned (.int .u64 (le8 s)) ∧ w' = w := by
  go_enter Try.func37, Try.ntmps37
  go_wp2
  go_loopw [2, 4] (fun n i wr => ∃ k : Nat, k ≤ 8 ∧ i = .int .i64 k ∧ n = .int .u64 (lowP s k) ∧ wr = w) (fun _ i _ => 8 - (intOf i).toNat)
  case atStart => exact ⟨0, by omega, rfl, rfl, rfl⟩
  case round =>
    obtain ⟨k, hk, rfl, rfl, rfl⟩ := hrel
    by_cases h8 : k = 8
    · subst h8
      go_wp2
      go_ret
      exact ⟨rfl, rfl⟩
    · have HS := Lib.hid (join_step k (by omega) (lowP s k) (byteAt s k) (lowP_lt s k) (byteAt_lt s k))
      have HB := Lib.hid (byteAt_eq s k (by omega))
      have hsz : (k : Int) < (s.size : Int) := by omega
      have hsz2 : k < s.size := by omega
      have hbs : s[k].toNat < 256 := s[k].toNat_lt
      go_wp2
      go_roundw
      case rel => exact ⟨k + 1, by omega, by go_num, by rw [← HB.out, HS.out]; rfl, trivial⟩
      case measure => simp [intOf]; omega

set_option maxHeartbeats 1000000 in
theorem le_any (s : ByteArray) (w : World) (hs : 8 ≤ s.size) :
    Calls Try.prog 38 #[.string s] w fun e w' => e = .returned (.int .u64 (le8 s)) ∧ w' = w := by
  go_enter Try.func38, Try.ntmps38
  go_wp2
  go_loopw [3, 4] (fun n i wr => ∃ k : Nat, k ≤ 8 ∧ i = .int .i64 (7 - (k : Int)) ∧ n = .int .u64 (leR s k) ∧ wr = w) (fun _ i _ => (intOf i + 1).toNat)
  case atStart => exact ⟨0, by omega, rfl, rfl, rfl⟩
  case round =>
    obtain ⟨k, hk, rfl, rfl, rfl⟩ := hrel
    by_cases h8 : k = 8
    · subst h8
      have HE := Lib.hid (le8_eq s)
      go_wp2
      go_ret
      exact ⟨by rw [← HE.out]; rfl, rfl⟩
    · have hlt := leR_lt s (k + 1)
      have h16 : 256 ^ (k + 1) ≤ 256 ^ 8 := Nat.pow_le_pow_right (by decide) (by omega)
      have hle : leR s k * 256 + byteAt s (7 - k) < 18446744073709551616 := by
        have : leR s (k + 1) = leR s k * 256 + byteAt s (7 - k) := rfl
        omega
      have hb := byteAt_eq s (7 - k) (by omega)
      rw [hb] at hle
      obtain ⟨j, hj⟩ : ∃ j : Nat, 7 - k = j := ⟨_, rfl⟩
      have hji : (7 : Int) - (k : Int) = (j : Int) := by omega
      have hjs : j < s.size := by omega
      have hjs2 : (j : Int) < (s.size : Int) := by omega
      have hj0 : (0 : Int) ≤ (j : Int) := by omega
      have hL : leR s (k + 1) = leR s k * 256 + byteAt s j := by rw [← hj]; rfl
      have hbj := byteAt_eq s j hjs
      have HL := Lib.hid hL
      have HBJ := Lib.hid hbj
      have hle2 : leR s k * 256 + s[j].toNat < 18446744073709551616 := by
        have h2 := lowP_lt s 8
        rw [← hbj, ← hL]
        omega
      have HJ := Lib.hid hj
      rw [hji]
      have HJI := Lib.hid hji
      clear hlt h16 hle hb hj hL hbj hji
      go_wp2
      go_roundw
      case rel => exact ⟨k + 1, by omega, by
          have h1 := HJI.out
          rw [← IntWalk.i64_left, IntWalk.i64_in _ (by omega)]
          congr 1
          omega, by rw [HL.out, HBJ.out]; congr 1, trivial⟩
      case measure =>
        have h1 := HJI.out
        rw [← IntWalk.i64_left, IntWalk.i64_in _ (by omega)]
        simp only [intOf]
        omega

end Go.Proofs.Ytingloamfpibaaa
