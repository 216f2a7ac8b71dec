/-
  SIEVES: plain arithmetic.
-/
import Derived.Test.YtingloamfpibaaaProg
import Derived.Lib.EndianBits
import Derived.Lib.Hide
import Derived.Handy
namespace Go.Proofs.Ytingloamfpibaaa
open Go.RowKit
set_option linter.unusedVariables false

theorem and_i64 (a b : Nat) (ha : a < 2 ^ 63) (hb : b < 2 ^ 63) : bits .and .i64 (a : Int) (b : Int) = ((a &&& b : Nat) : Int) :=
  (bits_nat .i64 63 (by decide) (fun n h0 h1 => by rw [IntKind.wrap_i64]; omega) a b ha hb).1
theorem and_u64 (a b : Nat) (ha : a < 2 ^ 64) (hb : b < 2 ^ 64) : bits .and .u64 (a : Int) (b : Int) = ((a &&& b : Nat) : Int) := (bits_nat .u64 64 (by decide) wraps_u64 a b ha hb).1
theorem or_u64 (a b : Nat) (ha : a < 2 ^ 64) (hb : b < 2 ^ 64) : bits .or .u64 (a : Int) (b : Int) = ((a ||| b : Nat) : Int) := (bits_nat .u64 64 (by decide) wraps_u64 a b ha hb).2
theorem wraps_u8 (n : Int) (h₀ : 0 ≤ n) (h₁ : n < 2 ^ 8) : IntKind.u8.wrap n = n := by simp [IntKind.wrap, IntKind.bits, IntKind.signed]; omega
theorem and_u8 (a b : Nat) (ha : a < 2 ^ 8) (hb : b < 2 ^ 8) : bits .and .u8 (a : Int) (b : Int) = ((a &&& b : Nat) : Int) := (bits_nat .u8 8 (by decide) wraps_u8 a b ha hb).1
theorem or_u8 (a b : Nat) (ha : a < 2 ^ 8) (hb : b < 2 ^ 8) : bits .or .u8 (a : Int) (b : Int) = ((a ||| b : Nat) : Int) := (bits_nat .u8 8 (by decide) wraps_u8 a b ha hb).2

/-- A number of which no bit stands in the one below it is a power of two. -/
theorem and_pred (n : Nat) (h : 0 < n) : n &&& (n - 1) = 0 ↔ ∃ k, n = 2 ^ k := by
  constructor
  · intro h0
    refine ⟨n.log2, ?_⟩
    have h1 := Nat.log2_self_le (n := n) (by omega)
    have h2 : n < 2 ^ (n.log2 + 1) := Nat.lt_log2_self
    by_cases he : n = 2 ^ n.log2
    · exact he
    · exfalso
      have hbit : ∀ m, 2 ^ n.log2 ≤ m → m < 2 ^ (n.log2 + 1) → m.testBit n.log2 = true := by
        intro m m1 m2
        rw [Nat.testBit_eq_decide_div_mod_eq]
        have : m / 2 ^ n.log2 = 1 := by
          rw [Nat.div_eq_iff (Nat.two_pow_pos _)]
          rw [Nat.pow_succ] at m2
          omega
        rw [this]
        rfl
      have b1 := hbit n h1 h2
      have b2 := hbit (n - 1) (by omega) (by omega)
      have b3 : (n &&& (n - 1)).testBit n.log2 = true := by rw [Nat.testBit_and, b1, b2]; rfl
      rw [h0] at b3
      simp at b3
  · rintro ⟨k, rfl⟩
    apply Nat.eq_of_testBit_eq
    intro i
    rw [Nat.testBit_and, Nat.zero_testBit, Nat.testBit_two_pow, Nat.testBit_two_pow_sub_one]
    by_cases hik : k = i
    · subst hik; simp
    · simp [hik]

/-- How many bits a sieve has. -/
def sizes : List Int := [64, 128, 256, 512, 1024, 2048, 4096, 8192, 16384, 32768, 65536]
def shapeB (bi h : Int) : Bool := decide (1 ≤ h) && (decide (h ≤ 8) && sizes.contains bi)
def fitB (bi h : Int) (d : ByteArray) : Bool := shapeB bi h && decide ((d.size : Int) * 8 = bi)

theorem pow_sizes (k : Nat) (h1 : 64 ≤ 2 ^ k) (h2 : 2 ^ k ≤ 65536) : sizes.contains ((2 ^ k : Nat) : Int) = true := by
  have hk : k ≤ 16 := by
    rcases Nat.lt_or_ge 16 k with h | h
    · have : 2 ^ 17 ≤ 2 ^ k := Nat.pow_le_pow_right (by decide) h
      omega
    · exact h
  have hk2 : 6 ≤ k := by
    rcases Nat.lt_or_ge k 6 with h | h
    · have : 2 ^ k ≤ 2 ^ 5 := Nat.pow_le_pow_right (by decide) (by omega)
      omega
    · exact h
  have : ∀ k : Fin 17, 6 ≤ k.val → sizes.contains ((2 ^ k.val : Nat) : Int) = true := by decide
  exact this ⟨k, by omega⟩ hk2
theorem sizes_pow {bi : Int} (h : sizes.contains bi = true) : ∃ e, e ≤ 10 ∧ bi = ((64 * 2 ^ e : Nat) : Int) := by
  have h2 : bi ∈ sizes := by simpa using h
  simp only [sizes, List.mem_cons, List.not_mem_nil, or_false] at h2
  rcases h2 with rfl | rfl | rfl | rfl | rfl | rfl | rfl | rfl | rfl | rfl | rfl
  · exact ⟨0, by decide, by decide⟩
  · exact ⟨1, by decide, by decide⟩
  · exact ⟨2, by decide, by decide⟩
  · exact ⟨3, by decide, by decide⟩
  · exact ⟨4, by decide, by decide⟩
  · exact ⟨5, by decide, by decide⟩
  · exact ⟨6, by decide, by decide⟩
  · exact ⟨7, by decide, by decide⟩
  · exact ⟨8, by decide, by decide⟩
  · exact ⟨9, by decide, by decide⟩
  · exact ⟨10, by decide, by decide⟩
/-- The program's test. -/
theorem and_sizes (bi : Int) (h1 : 64 ≤ bi) (h2 : bi ≤ 65536) : (bits .and .i64 bi (bi - 1) == 0) = sizes.contains bi := by
  obtain ⟨n, rfl⟩ : ∃ n : Nat, bi = n := ⟨bi.toNat, by omega⟩
  rw [show (n : Int) - 1 = ((n - 1 : Nat) : Int) by omega, and_i64 n (n - 1) (by omega) (by omega)]
  rw [Bool.eq_iff_iff]
  constructor
  · intro h
    have h0 : n &&& (n - 1) = 0 := by
      have := eq_of_beq h
      omega
    obtain ⟨k, rfl⟩ := (and_pred n (by omega)).1 h0
    exact pow_sizes k (by omega) (by omega)
  · intro h
    obtain ⟨e, _, he⟩ := sizes_pow h
    have h0 : n &&& (n - 1) = 0 := (and_pred n (by omega)).2 ⟨6 + e, by rw [Nat.pow_add]; omega⟩
    rw [h0]
    rfl

end Go.Proofs.Ytingloamfpibaaa
