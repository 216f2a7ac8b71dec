/-
  SIEVES AS BYTES, there and back: the plain law.
-/
import Derived.Test.YtingloamfpibaaaBWrite
import Derived.Test.YtingloamfpibaaaVLaw
namespace Go.Proofs.Ytingloamfpibaaa
open Go.RowKit Go.Proofs.Mem
set_option linter.unusedVariables false

theorem byteAt_append (a b : ByteArray) (i : Nat) : byteAt (a ++ b) i = if i < a.size then byteAt a i else byteAt b (i - a.size) := by
  by_cases h : i < a.size
  · rw [if_pos h, byteAt_eq _ _ (by rw [ByteArray.size_append]; omega), byteAt_eq _ _ h, ByteArray.getElem_append_left h]
  · rw [if_neg h]
    by_cases h2 : i - a.size < b.size
    · rw [byteAt_eq _ _ (by rw [ByteArray.size_append]; omega), byteAt_eq _ _ h2, ByteArray.getElem_append_right (by omega)]
    · unfold byteAt
      rw [dif_neg (by rw [ByteArray.size_append]; omega), dif_neg h2]
theorem putL_more (k n : Nat) (h : n < 128 ^ (k + 1)) : putL k n = putL (k + 1) n := by
  induction k generalizing n with
  | zero =>
    have h128 : n < 128 := by simpa using h
    rw [putL_small 0 n h128, putL_small 1 n h128]
  | succ k ih =>
    by_cases h128 : n < 128
    · rw [putL_small _ n h128, putL_small _ n h128]
    · have e1 : putL (k + 1) n = UInt8.ofNat (n % 128 + 128) :: putL k (n / 128) := by show (if n < 128 then _ else _) = _; rw [if_neg h128]
      have e2 : putL (k + 1 + 1) n = UInt8.ofNat (n % 128 + 128) :: putL (k + 1) (n / 128) := by show (if n < 128 then _ else _) = _; rw [if_neg h128]
      rw [e1, e2, ih (n / 128) (by rw [Nat.pow_succ] at h; exact Nat.div_lt_of_lt_mul (by rw [Nat.mul_comm]; exact h))]
theorem putB_at (n j : Nat) (h : j < (putL 10 n).length) : byteAt (putB n) j = (putL 10 n)[j].toNat := by
  have hs : (putB n).size = (putL 10 n).length := by show (putL 10 n).toArray.size = _; rw [List.size_toArray]
  rw [byteAt_eq _ _ (by omega)]
  show ((putL 10 n).toArray[j]'(by simpa using h)).toNat = _
  rw [List.getElem_toArray]
theorem putB_len (n : Nat) : (putB n).size = (putL 10 n).length := by show (putL 10 n).toArray.size = _; rw [List.size_toArray]
theorem p70 : 128 ^ 10 = 1180591620717411303424 := by decide
/-- Take of what Put wrote, whatever stands behind. -/
theorem take_putB (n : Nat) (r : ByteArray) (h : n < 18446744073709551616) : takeB (putB n ++ r) = (n, (putB n).size, 0) := by
  have hm : putL 9 n = putL 10 n := putL_more 9 n (by rw [p70]; omega)
  have hl : LiesAt (putB n ++ r) 0 (putL 9 n) := by
    rw [hm]
    refine ⟨by rw [ByteArray.size_append, putB_len]; omega, fun j hj => ?_⟩
    rw [Nat.zero_add, byteAt_append, if_pos (by rw [putB_len]; exact hj), putB_at n j hj]
  have := take_put (putB n ++ r) 9 0 0 n rfl hl (by simpa using h) (by intro h; omega) (by rw [p70]; omega)
  unfold takeB
  rw [this, hm, putB_len]
  simp
/-- What Take reads is what Put writes. -/
theorem put_takeB (s : ByteArray) (x k : Nat) (h : takeB s = (x, k, 0)) (hx : x < 18446744073709551616) : k = (putB x).size ∧ k ≤ s.size ∧ ∀ j, j < k → byteAt s j = byteAt (putB x) j := by
  obtain ⟨m, hxm, _, hl, hk⟩ := put_take s 9 0 0 x k rfl h
  obtain rfl : x = m := by simpa using hxm
  have hm : putL 9 x = putL 10 x := putL_more 9 x (by rw [p70]; omega)
  rw [hm] at hl hk
  rw [Nat.zero_add] at hk
  refine ⟨by rw [putB_len, hk], by have := hl.1; omega, fun j hj => ?_⟩
  have := hl.2 j (by omega)
  rw [Nat.zero_add] at this
  rw [this, putB_at x j (by omega)]
/-- A sieve from bytes, and whether it is one. -/
def readB (s : ByteArray) : Int × Int × ByteArray × Int :=
  let a := takeB s
  let c := takeB (s.extract a.2.1 s.size)
  let d := s.extract (a.2.1 + c.2.1) s.size
  if a.2.2 = 0 ∧ a.1 ≤ 65536 ∧ c.2.2 = 0 ∧ c.1 ≤ 8 ∧ fitB a.1 c.1 d = true then (a.1, c.1, d, 0) else (0, 0, ⟨#[]⟩, 2)
theorem byteAt_extract (s : ByteArray) (i j : Nat) : byteAt (s.extract i s.size) j = byteAt s (i + j) := by
  by_cases h : i + j < s.size
  · rw [byteAt_eq _ _ (by rw [ByteArray.size_extract]; omega), byteAt_eq _ _ h, ByteArray.getElem_extract]
  · unfold byteAt
    rw [dif_neg (by rw [ByteArray.size_extract]; omega), dif_neg h]
theorem extract_behind (a b : ByteArray) : (a ++ b).extract a.size (a ++ b).size = b := by
  refine ba_ext (by rw [ByteArray.size_extract, ByteArray.size_append]; omega) fun j => ?_
  rw [byteAt_extract, byteAt_append, if_neg (by omega)]
  congr 1
  omega
/-- Read of what Write wrote. -/
theorem read_write (bi ha : Int) (d : ByteArray) (hf : fitB bi ha d = true) : readB (writeB bi ha d) = (bi, ha, d, 0) := by
  obtain ⟨E, H, hE, h1, h8, hbi, hha, hds⟩ := fit_is hf
  have hp : 2 ^ E ≤ 2 ^ 10 := Nat.pow_le_pow_right (by decide) hE
  obtain ⟨B, hB⟩ : ∃ B : Nat, B = 64 * 2 ^ E := ⟨_, rfl⟩
  rw [← hB] at hbi
  subst hbi
  subst hha
  have hw : writeB B H d = putB B ++ (putB H ++ d) := by
    unfold writeB
    rw [hf, if_pos rfl, Int.toNat_natCast, Int.toNat_natCast]
    refine ba_ext (by simp only [ByteArray.size_append]; omega) fun j => ?_
    simp only [byteAt_append, ByteArray.size_append]
    split
    · split
      · rfl
      · rw [if_pos (by omega)]
    · rw [if_neg (by omega), if_neg (by omega)]
      congr 1
      omega
  have t1 := take_putB B (putB H ++ d) (by omega)
  have t2 := take_putB H d (by omega)
  rw [hw]
  unfold readB
  rw [t1]
  dsimp only
  rw [extract_behind, t2]
  dsimp only
  have t3 : (putB B ++ (putB H ++ d)).extract ((putB B).size + (putB H).size) (putB B ++ (putB H ++ d)).size = d := by
    refine ba_ext (by simp only [ByteArray.size_extract, ByteArray.size_append]; omega) fun j => ?_
    rw [byteAt_extract, byteAt_append, if_neg (by omega), byteAt_append, if_neg (by omega)]
    congr 1
    omega
  rw [t3, if_pos ⟨rfl, by omega, rfl, h8, hf⟩]
/-- Write of what Read read. -/
theorem write_read (s : ByteArray) (h : (readB s).2.2.2 = 0) : writeB (readB s).1 (readB s).2.1 (readB s).2.2.1 = s := by
  obtain ⟨⟨x, k, e1⟩, hx⟩ : ∃ t, t = takeB s := ⟨_, rfl⟩
  obtain ⟨⟨y, n, e2⟩, hy⟩ : ∃ t, t = takeB (s.extract k s.size) := ⟨_, rfl⟩
  have hrb : readB s = if e1 = 0 ∧ x ≤ 65536 ∧ e2 = 0 ∧ y ≤ 8 ∧ fitB x y (s.extract (k + n) s.size) = true then ((x : Int), (y : Int), s.extract (k + n) s.size, 0) else (0, 0, ⟨#[]⟩, 2) := by unfold readB; rw [← hx]; dsimp only; rw [← hy]
  by_cases hc : e1 = 0 ∧ x ≤ 65536 ∧ e2 = 0 ∧ y ≤ 8 ∧ fitB x y (s.extract (k + n) s.size) = true
  · rw [if_pos hc] at hrb
    obtain ⟨rfl, hx9, rfl, hy9, hf⟩ := hc
    obtain ⟨hk, hks, hkb⟩ := put_takeB s x k hx.symm (by omega)
    obtain ⟨hn, hns, hnb⟩ := put_takeB _ y n hy.symm (by omega)
    rw [ByteArray.size_extract] at hns
    rw [hrb]
    unfold writeB
    dsimp only
    rw [hf, if_pos rfl, Int.toNat_natCast, Int.toNat_natCast]
    refine ba_ext (by simp only [ByteArray.size_append, ByteArray.size_extract]; omega) fun j => ?_
    simp only [byteAt_append, ByteArray.size_append]
    split
    · split
      · exact (hkb j (by omega)).symm
      · have := hnb (j - k) (by omega)
        rw [byteAt_extract, show k + (j - k) = j by omega] at this
        rw [this]
        congr 1
        omega
    · rw [byteAt_extract]
      congr 1
      omega
  · rw [if_neg hc] at hrb
    rw [hrb] at h
    cases h
end Go.Proofs.Ytingloamfpibaaa
