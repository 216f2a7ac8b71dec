/-
  Numbers of four bytes read: both packages.
-/
import Derived.Test.YtjjenpklcbpkmaaIWrd
import Derived.Deep.QuietTactic
import Derived.Deep.RegionWith
import Derived.Lib.ConvBytes
namespace Go.Proofs.Ytjjenpklcbpkmaa
open Go.RowKit Go.Proofs.Mem
set_option linter.unusedVariables false

theorem wrap_i64 {n : Int} (h0 : 0 ≤ n) (h : n < 9223372036854775808) : IntKind.i64.wrap n = n := by simp [IntKind.wrap, IntKind.bits, IntKind.signed]; omega
theorem or_i64 (a b k : Nat) (hb : b < 2 ^ k) (hs : 2 ^ k * a + b < 9223372036854775808) : bits .or .i64 ((2 ^ k * a : Nat) : Int) (b : Int) = ((2 ^ k * a + b : Nat) : Int) := by
  have hx : 2 ^ k * a ||| b = 2 ^ k * a + b := (Nat.two_pow_add_eq_or_of_lt hb a).symm
  have h1 : (BitVec.ofInt 64 ((2 ^ k * a : Nat) : Int)).toNat = 2 ^ k * a := by
    rw [BitVec.ofInt_natCast, BitVec.toNat_ofNat]; exact Nat.mod_eq_of_lt (by omega)
  have h2 : (BitVec.ofInt 64 (b : Int)).toNat = b := by
    rw [BitVec.ofInt_natCast, BitVec.toNat_ofNat]; exact Nat.mod_eq_of_lt (by omega)
  show IntKind.i64.wrap ((BitVec.ofInt 64 ((2 ^ k * a : Nat) : Int) ||| BitVec.ofInt 64 (b : Int)).toNat : Int) = _
  rw [BitVec.toNat_or, h1, h2, hx, wrap_i64 (by omega) (by omega)]

def byteAt (s : ByteArray) (i : Nat) : Nat := (s.data.toList.getD i 0).toNat
theorem byteAt_lt (s : ByteArray) (i : Nat) : byteAt s i < 256 := UInt8.toNat_lt _
theorem byteAt_eq {s : ByteArray} {i : Nat} (h : i < s.size) : byteAt s i = (s[i]).toNat := by
  unfold byteAt
  have : s.data.toList[i]? = some s[i] := by
    rw [Array.getElem?_toList]
    exact Array.getElem?_eq_getElem h
  rw [List.getD_eq_getElem?_getD, this]
  rfl
/-- The number that stands at a place. -/
def numAt (s : ByteArray) (i : Nat) : Nat := byteAt s i * 16777216 + byteAt s (i + 1) * 65536 + byteAt s (i + 2) * 256 + byteAt s (i + 3)
theorem numAt_lt (s : ByteArray) (i : Nat) : numAt s i < 4294967296 := by
  have h0 := byteAt_lt s i
  have h1 := byteAt_lt s (i + 1)
  have h2 := byteAt_lt s (i + 2)
  have h3 := byteAt_lt s (i + 3)
  unfold numAt
  omega
theorem or3 {a b c d : Nat} (ha : a < 256) (hb : b < 256) (hc : c < 256) (hd : d < 256) :
    bits .or .i64 (bits .or .i64 (bits .or .i64 (IntKind.i64.wrap (IntKind.i64.wrap (a : Int) * 16777216)) (IntKind.i64.wrap (IntKind.i64.wrap (b : Int) * 65536))) (IntKind.i64.wrap (IntKind.i64.wrap (c : Int) * 256))) (IntKind.i64.wrap (d : Int)) = ((a * 16777216 + b * 65536 + c * 256 + d : Nat) : Int) := by
  rw [wrap_i64 (n := (a : Int)) (by omega) (by omega), wrap_i64 (n := (b : Int)) (by omega) (by omega), wrap_i64 (n := (c : Int)) (by omega) (by omega), wrap_i64 (n := (d : Int)) (by omega) (by omega)]
  rw [wrap_i64 (n := (a : Int) * 16777216) (by omega) (by omega), wrap_i64 (n := (b : Int) * 65536) (by omega) (by omega), wrap_i64 (n := (c : Int) * 256) (by omega) (by omega)]
  rw [show (a : Int) * 16777216 = ((2 ^ 24 * a : Nat) : Int) by omega, show (b : Int) * 65536 = ((b * 65536 : Nat) : Int) by omega, or_i64 a (b * 65536) 24 (by omega) (by omega)]
  rw [show ((2 ^ 24 * a + b * 65536 : Nat) : Int) = ((2 ^ 16 * (a * 256 + b) : Nat) : Int) by omega, show (c : Int) * 256 = ((c * 256 : Nat) : Int) by omega, or_i64 _ (c * 256) 16 (by omega) (by omega)]
  rw [show ((2 ^ 16 * (a * 256 + b) + c * 256 : Nat) : Int) = ((2 ^ 8 * (a * 65536 + b * 256 + c) : Nat) : Int) by omega, or_i64 _ d 8 (by omega) (by omega)]
  omega

theorem rnumber_any (s : ByteArray) (w : World) (hs : 4 ≤ s.size) (hs2 : s.size ≤ 9223372036854775807) :
    Calls Try.prog 27 #[.string s] w fun e w' => e = .returned (.int .i64 (numAt s 0 : Nat)) ∧ ∃ m, w' = w.drewN m := by
  have h0 : (0 : Int) < (s.size : Int) := by omega
  have n0 : 0 < s.size := by omega
  have h1 : (1 : Int) < (s.size : Int) := by omega
  have n1 : 1 < s.size := by omega
  have h2 : (2 : Int) < (s.size : Int) := by omega
  have n2 : 2 < s.size := by omega
  have h3 : (3 : Int) < (s.size : Int) := by omega
  have n3 : 3 < s.size := by omega
  have hO := Lib.hid (or3 (s[0]).toNat_lt (s[1]).toNat_lt (s[2]).toNat_lt (s[3]).toNat_lt)
  have hN : Hid (numAt s 0 = (s[0]).toNat * 16777216 + (s[1]).toNat * 65536 + (s[2]).toNat * 256 + (s[3]).toNat) := Lib.hid (by
    unfold numAt
    rw [byteAt_eq n0, byteAt_eq n1, byteAt_eq n2, byteAt_eq n3])
  go_enter Try.func27, Try.ntmps27
  go_wp2_with fail
  go_quiet (fail)
  go_wp2_with fail
  go_ret
  refine ⟨?_, _, rfl⟩
  rw [hN.out, ← hO.out]
  rfl

theorem extract_at {s : ByteArray} {i n j : Nat} (h : i + n ≤ s.size) (hj : j < n) : ((s.extract i (i + n)).data.toList.getD j 0).toNat = byteAt s (i + j) := by
  unfold byteAt
  have h1 : (s.extract i (i + n)).data.toList = (s.data.toList.drop i).take n := by
    rw [ByteArray.data_extract, Array.toList_extract, List.extract_eq_take_drop]
    congr 1
    omega
  rw [h1, List.getD_eq_getElem?_getD, List.getD_eq_getElem?_getD, List.getElem?_take, if_pos hj, List.getElem?_drop]
theorem below_bytes (w : World) (e : TypeId) (s : ByteArray) : Below w.heap.size w (Lib.bytesWorld w e s) := by
  unfold Lib.bytesWorld
  exact Lib.below_freeze ((Below.refl w.heap.size w).drew.alloc (Nat.le_refl _) _) (p := ⟨w.heap.size, _, none⟩) (Nat.le_refl _) _
theorem wrap64_eq {n : Int} (h0 : 0 ≤ n) (h : n < 9223372036854775808) : wrap64 n = n := by unfold wrap64; omega
theorem or_step {n b : Nat} (hn : n < 16777216) (hb : b < 256) : bits .or .i64 (wrap64 ((n : Int) * 256)) (wrap64 (b : Int)) = ((n * 256 + b : Nat) : Int) := by
  rw [wrap64_eq (n := (n : Int) * 256) (by omega) (by omega), wrap64_eq (n := (b : Int)) (by omega) (by omega), show (n : Int) * 256 = ((2 ^ 8 * n : Nat) : Int) by omega, or_i64 n b 8 (by omega) (by omega)]
  omega

def preN (s : ByteArray) (i : Nat) : Nat → Nat
  | 0 => 0
  | k + 1 => preN s i k * 256 + byteAt s (i + k)
theorem preN_lt (s : ByteArray) (i : Nat) {k : Nat} (hk : k ≤ 3) : preN s i k < 16777216 := by
  have h0 := byteAt_lt s (i + 0)
  have h1 := byteAt_lt s (i + 1)
  have h2 := byteAt_lt s (i + 2)
  obtain rfl | rfl | rfl | rfl : k = 0 ∨ k = 1 ∨ k = 2 ∨ k = 3 := by omega
  all_goals (simp only [preN]; omega)
theorem preN_four (s : ByteArray) (i : Nat) : preN s i 4 = numAt s i := by
  simp only [preN, numAt, Nat.add_zero]
  omega

set_option maxHeartbeats 1000000 in
theorem number_any (s : ByteArray) (i : Nat) (w : World) (hs : i + 4 ≤ s.size) (hs2 : s.size ≤ 9223372036854775807) :
    Calls Try.prog 53 #[.string s, .int .i64 i] w fun e w' => e = .returned (.int .i64 (numAt s i : Nat)) ∧ Below w.heap.size w w' := by
  have h0 : (i : Int) + 4 ≤ (s.size : Int) := by omega
  have hcv := Lib.run_convert_string_bytes (P := Try.prog) w 47 55 5 (s.extract i (i + 4)) Try.underlying47 Try.underlying55 Try.underlying5
  have hsz : (s.extract i (i + 4)).size = 4 := by rw [ByteArray.size_extract]; omega
  rw [hsz] at hcv
  have HC : Hid (∀ k, k < 4 → (Lib.bytesWorld w 5 (s.extract i (i + 4))).cell? ⟨w.heap.size, k, none⟩ = some (.int .u8 (byteAt s (i + k) : Nat))) := Lib.hid (fun k hk => by
    rw [Lib.bytesWorld_cell w 5 (s.extract i (i + 4)) k (by omega), extract_at hs hk])
  have HB := Lib.hid (below_bytes w 5 (s.extract i (i + 4)))
  generalize Lib.bytesWorld w 5 (s.extract i (i + 4)) = W at *
  generalize grownCap w 4 0 5 = cp at *
  clear hsz
  go_enter Try.func53, Try.ntmps53
  go_wp2_with fail
  go_loopw [5, 7, 15] (fun v _ q wr => ∃ k : Nat, q = .int .i64 k ∧ k ≤ 4 ∧ v = .int .i64 (preN s i k : Nat) ∧ wr = W) (fun _ _ q _ => 5 - (intOf q).toNat)
  case atStart => exact ⟨0, rfl, by omega, rfl, rfl⟩
  case round =>
    obtain ⟨k, rfl, hk, rfl, rfl⟩ := hrel
    by_cases hlt : k < 4
    · have i1 : (k : Int) < 4 := by omega
      have i0 : (0 : Int) ≤ (k : Int) := by omega
      have p := HC.out k hlt
      have HO := Lib.hid (or_step (preN_lt s i (show k ≤ 3 by omega)) (byteAt_lt s (i + k)))
      go_wp2_with fail
      go_roundw
      case rel => exact ⟨k + 1, by go_num, by omega, congrArg (Value.int .i64) HO.out, trivial⟩
      case measure => simp [intOf]; omega
    · obtain rfl : k = 4 := by omega
      rw [preN_four]
      go_wp2_with fail
      go_ret
      exact ⟨rfl, HB.out⟩

end Go.Proofs.Ytjjenpklcbpkmaa
