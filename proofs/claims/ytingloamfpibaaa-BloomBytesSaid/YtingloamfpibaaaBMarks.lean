/-
  THE ITERATOR OVER A KEY'S BITS (bloom's sifter.marks).
-/
import Derived.Test.YtingloamfpibaaaBRHas
import Derived.RangeFuncNested
import Derived.RangeFuncBound
import Derived.RangeFuncCalls
import Derived.RangeFuncLeaves
import Derived.Shelf.Abstract
import Derived.Shelf.RegionOpen
import Derived.OwnWalkIn
import Derived.TacticsInMore
import Derived.LoopNIn
import Derived.LoopIn
namespace Go.Proofs.Ytingloamfpibaaa
open Go.RowKit Go.Shelf Go.Proofs.Mem
attribute [local go_sem] Oper.semAt_some
set_option linter.unusedVariables false

/-- What the iterator hands out: a byte's place, the bit in it. -/
def marksL (key : ByteArray) (B H : Nat) : List (Nat × Nat) := if key.size = 32 then (places key B H).map fun p => (p / 8, 2 ^ (p % 8)) else []
abbrev Mark (key : ByteArray) (B H : Nat) := { q : Nat × Nat // q ∈ marksL key B H }
def encM {key : ByteArray} {B H : Nat} (x : Mark key B H) : Array Value := #[.int .i64 (x.1.1 : Nat), .int .u8 (x.1.2 : Nat)]
theorem marksL_length (key : ByteArray) (B H : Nat) (hk : key.size = 32) : (marksL key B H).length = H := by simp [marksL, places, hk]
theorem marksL_get (key : ByteArray) (B H k : Nat) (hk : key.size = 32) (h : k < H) : (marksL key B H)[k]'(by rw [marksL_length _ _ _ hk]; exact h) = (placeN key B k / 8, 2 ^ (placeN key B k % 8)) := by
  simp [marksL, places, hk]
theorem attach_take {α : Type} (l : List α) (k : Nat) (h : k < l.length) : l.attach.take (k + 1) = l.attach.take k ++ [⟨l[k], List.getElem_mem h⟩] := by
  rw [List.take_succ_eq_append_getElem (by simpa using h)]
  simp
/-- The number before round k. -/
def kxK (key : ByteArray) (k : Nat) : Nat := (kx key + k * ky key) % 18446744073709551616
theorem kxK_lt (key : ByteArray) (k : Nat) : kxK key k < 18446744073709551616 := Nat.mod_lt _ (by decide)
theorem kxK_zero (key : ByteArray) : kxK key 0 = kx key := by
  unfold kxK
  rw [Nat.zero_mul, Nat.add_zero]
  exact Nat.mod_eq_of_lt (le8_lt _)
theorem kxK_succ (key : ByteArray) (k : Nat) : IntKind.u64.wrap ((kxK key k : Int) + (ky key : Int)) = (kxK key (k + 1) : Int) := by
  unfold kxK
  rw [IntKind.wrap_u64, Nat.add_mul, Nat.one_mul]
  generalize k * ky key = m
  omega
theorem ky_lt (key : ByteArray) : ky key < 18446744073709551616 := by
  have := le8_lt (key.extract 8 16)
  unfold ky
  omega
/-- The first eight bytes of what stands behind eight. -/
theorem le8_from (key : ByteArray) (h : key.size = 32) : le8 (key.extract 8 key.size) = le8 (key.extract 8 16) := by
  have hb : ∀ i, i < 8 → byteAt (key.extract 8 key.size) i = byteAt (key.extract 8 16) i := by
    intro i hi
    rw [byteAt_eq _ _ (by rw [ByteArray.size_extract]; omega), byteAt_eq _ _ (by rw [ByteArray.size_extract]; omega)]
    rw [ByteArray.getElem_extract, ByteArray.getElem_extract]
  unfold le8
  simp only [lowP]
  rw [hb 0 (by omega), hb 1 (by omega), hb 2 (by omega), hb 3 (by omega), hb 4 (by omega), hb 5 (by omega), hb 6 (by omega), hb 7 (by omega)]
theorem le8_front (key : ByteArray) (h : key.size = 32) : le8 key = kx key := by
  have hb : ∀ i, i < 8 → byteAt key i = byteAt (key.extract 0 8) i := by
    intro i hi
    rw [byteAt_eq _ _ (by omega), byteAt_eq _ _ (by rw [ByteArray.size_extract]; omega)]
    rw [ByteArray.getElem_extract]
    congr 1
    congr 1
    omega
  unfold kx le8
  simp only [lowP]
  rw [hb 0 (by omega), hb 1 (by omega), hb 2 (by omega), hb 3 (by omega), hb 4 (by omega), hb 5 (by omega), hb 6 (by omega), hb 7 (by omega)]
theorem or_one64 (z : Nat) (h : z < 18446744073709551616) : bits .or .u64 (z : Int) 1 = ((z / 2 * 2 + 1 : Nat) : Int) := by
  have h1 := or_u64 z 1 (by omega) (by decide)
  have h2 : z ||| 1 = z / 2 * 2 + 1 := by
    apply Nat.eq_of_testBit_eq
    intro i
    rw [Nat.testBit_or]
    cases i with
    | zero => simp [Nat.testBit_zero]
    | succ i =>
      rw [Nat.testBit_succ, Nat.testBit_succ, Nat.testBit_succ]
      have e1 : 1 / 2 = 0 := rfl
      have e2 : (z / 2 * 2 + 1) / 2 = z / 2 := by omega
      rw [e1, e2]
      simp
  rw [h2] at h1
  exact h1
/-- The bits of a place, masked off. -/
theorem mask_eq (x e : Nat) (hx : x < 18446744073709551616) (he : e ≤ 10) : bits .and .u64 (x : Int) (((64 * 2 ^ e : Nat) : Int) - 1) = ((x % (64 * 2 ^ e) : Nat) : Int) := by
  have h1 : 2 ^ e ≤ 2 ^ 10 := Nat.pow_le_pow_right (by decide) he
  have h0 : 1 ≤ 2 ^ e := Nat.one_le_two_pow
  have e2 : 64 * 2 ^ e = 2 ^ (6 + e) := by rw [Nat.pow_add]
  rw [show ((64 * 2 ^ e : Nat) : Int) - 1 = ((64 * 2 ^ e - 1 : Nat) : Int) by omega, and_u64 x (64 * 2 ^ e - 1) (by omega) (by omega), e2, Nat.and_two_pow_sub_one_eq_mod]

end Go.Proofs.Ytingloamfpibaaa
