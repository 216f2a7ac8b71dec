/-
  THE PLAIN LAW OF NUMBERS AS BYTES: there and back.
-/
import Derived.Test.YthlajcohbpjgkaaDoorVRTake
namespace Go.Proofs.YthlajcohbpjgkaaDoor
open Go.RowKit Go.Proofs.Mem
set_option linter.unusedVariables false

/-- From place i on there lie these bytes. -/
def LiesAt (s : ByteArray) (i : Nat) (l : List UInt8) : Prop := i + l.length ≤ s.size ∧ ∀ j (h : j < l.length), byteAt s (i + j) = l[j].toNat
theorem LiesAt.head {s : ByteArray} {i : Nat} {x : UInt8} {l : List UInt8} (h : LiesAt s i (x :: l)) : i < s.size ∧ byteAt s i = x.toNat ∧ LiesAt s (i + 1) l := by
  obtain ⟨h1, h2⟩ := h
  rw [List.length_cons] at h1
  refine ⟨by omega, by have := h2 0 (by simp); simpa using this, by omega, fun j hj => ?_⟩
  have := h2 (j + 1) (by simp; omega)
  rw [show i + (j + 1) = i + 1 + j by omega] at this
  simpa using this
theorem LiesAt.cons {s : ByteArray} {i : Nat} {x : UInt8} {l : List UInt8} (h0 : i < s.size) (h1 : byteAt s i = x.toNat) (h2 : LiesAt s (i + 1) l) : LiesAt s i (x :: l) := by
  obtain ⟨h3, h4⟩ := h2
  refine ⟨by rw [List.length_cons]; omega, fun j hj => ?_⟩
  cases j with
  | zero => simpa using h1
  | succ j =>
    have := h4 j (by simpa using hj)
    rw [show i + (j + 1) = i + 1 + j by omega]
    simpa using this
theorem pow_step (i m : Nat) : m % 128 * 2 ^ (7 * i) + m / 128 * 2 ^ (7 * (i + 1)) = m * 2 ^ (7 * i) := by
  have h1 : 2 ^ (7 * (i + 1)) = 128 * 2 ^ (7 * i) := by rw [Nat.mul_add, Nat.pow_add]; omega
  rw [h1, ← Nat.mul_assoc, ← Nat.add_mul]
  congr 1
  omega
/-- What Put writes, Take reads. -/
theorem take_put (s : ByteArray) (f i n m : Nat) (hf : i + (f + 1) = 10) (hl : LiesAt s i (putL f m)) (hm : m * 2 ^ (7 * i) < 18446744073709551616) (h0 : 0 < i → 0 < m) (hk : m < 128 ^ (f + 1)) :
    takeR s (f + 1) i n = (n + m * 2 ^ (7 * i), i + (putL f m).length, 0) := by
  induction f generalizing i n m with
  | zero =>
    have h128 : m < 128 := by simpa using hk
    rw [putL_small 0 m h128] at hl ⊢
    obtain ⟨h1, h2, _⟩ := hl.head
    have h3 : byteAt s i = m := by rw [h2, UInt8.toNat_ofNat', Nat.mod_eq_of_lt (by omega)]
    rw [takeR, if_neg (by omega), h3]
    obtain rfl : i = 9 := by omega
    rw [if_neg (by rintro ⟨_, h⟩; have : 2 * 2 ^ (7 * 9) ≤ m * 2 ^ (7 * 9) := Nat.mul_le_mul_right _ (by omega); have e : 2 ^ (7 * 9) = 9223372036854775808 := by decide
                   omega), if_pos h128, if_neg (by have := h0 (by decide); omega)]
    have e : m % 128 = m := by omega
    rw [e]
    rfl
  | succ f ih =>
    by_cases h128 : m < 128
    · rw [putL_small _ m h128] at hl ⊢
      obtain ⟨h1, h2, _⟩ := hl.head
      have h3 : byteAt s i = m := by rw [h2, UInt8.toNat_ofNat', Nat.mod_eq_of_lt (by omega)]
      rw [takeR, if_neg (by omega), h3, if_neg (by omega), if_pos h128, if_neg (by rintro ⟨ha, hb⟩; have := h0 hb; omega)]
      have e : m % 128 = m := by omega
      rw [e]
      rfl
    · have hp : putL (f + 1) m = UInt8.ofNat (m % 128 + 128) :: putL f (m / 128) := by show (if m < 128 then _ else _) = _; rw [if_neg h128]
      rw [hp] at hl ⊢
      obtain ⟨h1, h2, h4⟩ := hl.head
      have h3 : byteAt s i = m % 128 + 128 := by rw [h2, UInt8.toNat_ofNat', Nat.mod_eq_of_lt (by omega)]
      have hst := pow_step i m
      rw [takeR, if_neg (by omega), h3, if_neg (by omega), if_neg (by omega), ih (i + 1) _ (m / 128) (by omega) h4 (by omega) (by omega) (by rw [Nat.pow_succ] at hk; exact Nat.div_lt_of_lt_mul (by rw [Nat.mul_comm]; exact hk))]
      have e : (m % 128 + 128) % 128 = m % 128 := by omega
      rw [e, List.length_cons, Nat.add_assoc n, hst, show i + 1 + (putL f (m / 128)).length = i + ((putL f (m / 128)).length + 1) by omega]
/-- What Take reads, Put writes. -/
theorem put_take (s : ByteArray) (f i n x k : Nat) (hf : i + (f + 1) = 10) (h : takeR s (f + 1) i n = (x, k, 0)) :
    ∃ m, x = n + m * 2 ^ (7 * i) ∧ (0 < i → 0 < m) ∧ LiesAt s i (putL f m) ∧ k = i + (putL f m).length := by
  induction f generalizing i n with
  | zero =>
    rw [takeR] at h
    split at h
    · cases h
    · rename_i h1
      split at h
      · cases h
      · rename_i h2
        split at h
        · rename_i h128
          split at h
          · cases h
          · rename_i h4
            injection h with ha hb
            injection hb with hb _
            refine ⟨byteAt s i, ?_, ?_, ?_, ?_⟩
            · rw [← ha]
              congr 2
              omega
            · intro hi
              rcases Nat.eq_zero_or_pos (byteAt s i) with hz | hz
              · exact absurd ⟨hz, hi⟩ h4
              · exact hz
            · rw [putL_small _ _ h128]
              refine LiesAt.cons (by omega) ?_ ⟨by simp; omega, fun j hj => by simp at hj⟩
              rw [UInt8.toNat_ofNat', Nat.mod_eq_of_lt (by omega)]
            · rw [putL_small _ _ h128]; exact hb.symm
        · rename_i h128
          exact absurd ⟨by omega, by omega⟩ h2
  | succ f ih =>
    rw [takeR] at h
    split at h
    · cases h
    · rename_i h1
      split at h
      · cases h
      · split at h
        · rename_i h128
          split at h
          · cases h
          · rename_i h4
            injection h with ha hb
            injection hb with hb _
            refine ⟨byteAt s i, ?_, ?_, ?_, ?_⟩
            · rw [← ha]
              congr 2
              omega
            · intro hi
              rcases Nat.eq_zero_or_pos (byteAt s i) with hz | hz
              · exact absurd ⟨hz, hi⟩ h4
              · exact hz
            · rw [putL_small _ _ h128]
              refine LiesAt.cons (by omega) ?_ ⟨by simp; omega, fun j hj => by simp at hj⟩
              rw [UInt8.toNat_ofNat', Nat.mod_eq_of_lt (by omega)]
            · rw [putL_small _ _ h128]; exact hb.symm
        · rename_i h128
          obtain ⟨m, hx, hm, hl, hk⟩ := ih (i + 1) _ (by omega) h
          have hm0 := hm (by omega)
          have hb := byteAt_lt s i
          have e1 : (m * 128 + byteAt s i % 128) / 128 = m := by omega
          have e2 : (m * 128 + byteAt s i % 128) % 128 = byteAt s i % 128 := by omega
          have hn : ¬(m * 128 + byteAt s i % 128 < 128) := by omega
          have hp : putL (f + 1) (m * 128 + byteAt s i % 128) = UInt8.ofNat (byteAt s i % 128 + 128) :: putL f m := by
            show (if _ then _ else _) = _
            rw [if_neg hn, e1, e2]
          refine ⟨m * 128 + byteAt s i % 128, ?_, fun _ => by omega, ?_, ?_⟩
          · have hst := pow_step i (m * 128 + byteAt s i % 128)
            rw [e1, e2] at hst
            rw [hx, ← hst, Nat.add_assoc]
          · rw [hp]
            refine LiesAt.cons (by omega) ?_ hl
            rw [UInt8.toNat_ofNat', Nat.mod_eq_of_lt (by omega)]
            omega
          · rw [hp, hk, List.length_cons]; omega
end Go.Proofs.YthlajcohbpjgkaaDoor
