/-
  The walks of GearBack and GearParts.
-/
import Derived.Test.YtbbopmhbbaapfaaLawA
namespace Go.Proofs.Ytbbopmhbbaapfaa
open Go.RowKit Go.Proofs.Gear

theorem back1 (h a : Nat) : IntKind.u64.wrap ((roll h a : Int) - (tab a : Int)) = IntKind.u64.wrap ((h : Int) + (h : Int)) := by
  rw [← roll_eq h a]
  simp only [IntKind.wrap_u64]
  omega
theorem back2 (h a b : Nat) : ((roll (roll h a) b : Nat) : Int) = IntKind.u64.wrap (IntKind.u64.wrap (IntKind.u64.wrap (4 * (h : Int)) + IntKind.u64.wrap (2 * (tab a : Int))) + (tab b : Int)) := by
  rw [← roll_eq (roll h a) b, ← roll_eq h a]
  simp only [IntKind.wrap_u64]
  omega
theorem beq_of {a b : Int} (h : a = b) : (a == b) = true := by rw [h]; exact beq_self_eq_true b

theorem back_walk (h a b : Nat) (ha : a < 256) (hb : b < 256) (w : World) :
    Calls Try.prog 6 #[.int .u64 h, .int .u8 a, .int .u8 b] w fun e w' => e = .returned (.bool true) ∧ Below w.heap.size w w' := by
  have E1 := beq_of (back1 h a)
  have E2 := beq_of (back2 h a b)
  go_enter Try.func6, Try.ntmps6
  go_wp2_with fail
  refine (roll_any h a ha _).mono ?_
  rintro e w' ⟨rfl, rfl⟩
  go_wp2_with fail
  refine (table_any a ha _).mono ?_
  rintro e w' ⟨rfl, rfl⟩
  go_wp2_with fail
  refine (roll_any h a ha _).mono ?_
  rintro e w' ⟨rfl, rfl⟩
  go_wp2_with fail
  refine (roll_any _ b hb _).mono ?_
  rintro e w' ⟨rfl, rfl⟩
  go_wp2_with fail
  refine (table_any a ha _).mono ?_
  rintro e w' ⟨rfl, rfl⟩
  go_wp2_with fail
  refine (table_any b hb _).mono ?_
  rintro e w' ⟨rfl, rfl⟩
  go_wp2_with fail
  refine (awake_any _).mono ?_
  rintro e w1 ⟨rfl, hb1⟩
  go_wp2_with fail
  go_ret
  exact ⟨rfl, hb1⟩

def shiftN (h k : Nat) : Nat := h * 2 ^ k % M
theorem shiftN_zero (h : Nat) (hh : h < M) : shiftN h 0 = h := by unfold shiftN; rw [Nat.pow_zero, Nat.mul_one, Nat.mod_eq_of_lt hh]
theorem shiftN_succ (h k : Nat) : IntKind.u64.wrap ((shiftN h k : Int) * 2) = (shiftN h (k + 1) : Int) := by
  rw [u64_mod _ (shiftN h k * 2) (by rw [Int.natCast_mul]; rfl)]
  unfold shiftN
  rw [Nat.mod_mul_mod, Nat.mul_assoc, ← Nat.pow_succ]
theorem shiftN_hash (a b : ByteArray) (c : List UInt8) (hc : c = a.data.toList ++ b.data.toList) : IntKind.u64.wrap ((shiftN (ghash a.data.toList) b.size : Int) + (ghash b.data.toList : Int)) = (ghash c : Int) := by
  subst hc
  rw [u64_mod _ (shiftN (ghash a.data.toList) b.size + ghash b.data.toList) (by rw [Int.natCast_add])]
  unfold shiftN
  rw [Nat.mod_add_mod, ghash_two]
  simp
theorem tab_beq (x y : Nat) (hx : x < 256) (hy : y < 256) : (((tab x : Nat) : Int) == ((tab y : Nat) : Int)) = ((x : Int) == (y : Int)) := by
  by_cases h : x = y
  · subst h; simp
  · have h1 : ¬ tab x = tab y := fun e => h (tab_inj x y hx hy e)
    rw [beq_eq_false_iff_ne.2 (by omega), beq_eq_false_iff_ne.2 (by omega)]

theorem parts_walk (x y : Nat) (hx : x < 256) (hy : y < 256) (a b : ByteArray) (ha : a.size ≤ 9223372036854775807) (hb : b.size ≤ 9223372036854775807) (w : World) :
    Calls Try.prog 5 #[.int .u8 x, .int .u8 y, .string a, .string b] w fun e w' => e = .returned (.bool true) ∧ Below w.heap.size w w' := by
  by_cases hl : 1000 < a.size
  · go_enter Try.func5, Try.ntmps5
    go_wp2_with (go_at_call 7; refine (awake_any _).mono ?_; rintro e w' ⟨rfl, hb1⟩)
    go_ret
    exact ⟨rfl, hb1⟩
  by_cases hl2 : 1000 < b.size
  · go_enter Try.func5, Try.ntmps5
    go_wp2_with (go_at_call 7; refine (awake_any _).mono ?_; rintro e w' ⟨rfl, hb1⟩)
    go_ret
    exact ⟨rfl, hb1⟩
  go_enter Try.func5, Try.ntmps5
  go_wp2_with fail
  refine (hash_any a ha _).mono ?_
  rintro e w1 ⟨rfl, hb1⟩
  go_wp2_with fail
  go_loop [9, 23] (fun h i => ∃ k : Nat, k ≤ b.size ∧ i = .int .i64 k ∧ h = .int .u64 (shiftN (ghash a.data.toList) k : Nat)) (fun _ i => b.size - (intOf i).toNat)
  case atStart => exact ⟨0, Nat.zero_le _, rfl, by rw [shiftN_zero _ (ghash_lt _)]⟩
  case round =>
    obtain ⟨k, hk, rfl, rfl⟩ := hrel
    by_cases hlt : k < b.size
    · have HS := Lib.hid (shiftN_succ (ghash a.data.toList) k)
      go_wp2
      go_round
      case rel => exact ⟨k + 1, by omega, by go_num, by rw [HS.out]⟩
      case measure => simp [intOf]; omega
    · obtain rfl : k = b.size := by omega
      have E1 := tab_beq x y hx hy
      have E2 := beq_of (shiftN_hash a b _ rfl).symm
      have hz : (a ++ b).size ≤ 9223372036854775807 := by rw [ByteArray.size_append]; omega
      go_wp2_with fail
      refine (table_any x hx _).mono ?_
      rintro e w' ⟨rfl, rfl⟩
      go_wp2_with fail
      refine (table_any y hy _).mono ?_
      rintro e w' ⟨rfl, rfl⟩
      go_wp2_with fail
      refine (hash_any (a ++ b) hz _).mono ?_
      rintro e w2 ⟨rfl, hb2⟩
      go_wp2_with fail
      refine (hash_any b hb _).mono ?_
      rintro e w3 ⟨rfl, hb3⟩
      go_wp2_with fail
      refine (awake_any _).mono ?_
      rintro e w4 ⟨rfl, hb4⟩
      go_wp2_with fail
      go_ret
      exact ⟨rfl, bel (bel (bel hb1 hb2) hb3) hb4⟩

end Go.Proofs.Ytbbopmhbbaapfaa
