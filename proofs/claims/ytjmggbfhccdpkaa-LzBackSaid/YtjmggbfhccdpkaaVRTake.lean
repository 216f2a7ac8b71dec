/-
  A NUMBER FROM BYTES: the document's Take.
-/
import Derived.Test.YtjmggbfhccdpkaaVPut
import Derived.Test.YtjmggbfhccdpkaaLBase
namespace Go.Proofs.Ytjmggbfhccdpkaa
open Go.RowKit Go.Proofs.Mem
set_option linter.unusedVariables false

/-- The document's rule, from group i on. -/
def takeR (s : ByteArray) : Nat → Nat → Nat → Nat × Nat × Nat
  | 0, _, _ => (0, 0, 4)
  | f + 1, i, n =>
    if s.size ≤ i then (0, 0, 1)
    else if i = 9 ∧ 1 < byteAt s i then (0, 0, 4)
    else if byteAt s i < 128 then (if byteAt s i = 0 ∧ 0 < i then (0, 0, 2) else (n + byteAt s i % 128 * 2 ^ (7 * i), i + 1, 0))
    else takeR s f (i + 1) (n + byteAt s i % 128 * 2 ^ (7 * i))
def takeB (s : ByteArray) : Nat × Nat × Nat := takeR s 10 0 0
def tripV (t : Nat × Nat × Nat) : Value := .tuple #[.int .u64 (t.1 : Nat), .int .i64 (t.2.1 : Nat), .int .i64 (t.2.2 : Nat)]
theorem group_lt (c k n : Nat) (hk : k ≤ 8) (hn : n < 2 ^ (7 * k)) : n + c % 128 * 2 ^ (7 * k) < 2 ^ (7 * (k + 1)) := by
  have h1 : 2 ^ (7 * (k + 1)) = 128 * 2 ^ (7 * k) := by rw [Nat.mul_add, Nat.pow_add]; omega
  have h2 : c % 128 * 2 ^ (7 * k) ≤ 127 * 2 ^ (7 * k) := Nat.mul_le_mul_right _ (by omega)
  omega
theorem pow63 (k : Nat) (hk : k ≤ 9) : 2 ^ (7 * k) ≤ 9223372036854775808 := by
  have := Nat.pow_le_pow_right (show 0 < 2 by decide) (show 7 * k ≤ 63 by omega)
  have e : 2 ^ 63 = 9223372036854775808 := by decide
  omega

theorem group_wrap (c k n : Nat) (hk : k ≤ 9) (hn : n < 2 ^ (7 * k)) (hc : k = 9 → c ≤ 1) : IntKind.u64.wrap ((n : Int) + IntKind.u64.wrap ((c : Int) % 128 * 2 ^ (7 * k))) = ((n + c % 128 * 2 ^ (7 * k) : Nat) : Int) := by
  have e : (c : Int) % 128 * 2 ^ (7 * k) = ((c % 128 * 2 ^ (7 * k) : Nat) : Int) := by rw [Int.natCast_mul, Int.natCast_emod, Int.natCast_pow]; rfl
  have hb : n + c % 128 * 2 ^ (7 * k) < 18446744073709551616 := by
    by_cases h9 : k = 9
    · have h1 := hc h9
      have h2 := pow63 k hk
      have h3 : c % 128 * 2 ^ (7 * k) ≤ 1 * 2 ^ (7 * k) := Nat.mul_le_mul_right _ (by omega)
      omega
    · have h1 := group_lt c k n (by omega) hn
      have h2 := pow63 (k + 1) (by omega)
      omega
  rw [e]
  generalize c % 128 * 2 ^ (7 * k) = y at *
  rw [IntKind.wrap_u64, IntKind.wrap_u64]
  omega

end Go.Proofs.Ytjmggbfhccdpkaa
