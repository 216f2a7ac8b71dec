/-
  SIEVES AS BYTES: both Writes.
-/
import Derived.Test.YtingloamfpibaaaBDoes
import Derived.Test.YtingloamfpibaaaVPut
namespace Go.Proofs.Ytingloamfpibaaa
open Go.RowKit Go.Proofs.Mem
set_option linter.unusedVariables false

/-- A sieve as bytes. -/
def writeB (bi ha : Int) (d : ByteArray) : ByteArray := if fitB bi ha d then putB bi.toNat ++ putB ha.toNat ++ d else ⟨#[]⟩

theorem putL_len (k n : Nat) : (putL k n).length ≤ k + 1 := by
  induction k generalizing n with
  | zero => exact Nat.le_refl _
  | succ k ih =>
    show (if n < 128 then [UInt8.ofNat n] else UInt8.ofNat (n % 128 + 128) :: putL k (n / 128)).length ≤ _
    split
    · simp
    · rw [List.length_cons]; have := ih (n / 128); omega
theorem putB_size (n : Nat) : (putB n).size ≤ 11 := by
  show (putL 10 n).toArray.size ≤ 11
  rw [List.size_toArray]
  exact putL_len 10 n

set_option maxHeartbeats 1000000 in
theorem bwrite_any (bi ha : Int) (d : ByteArray) (w : World) (hd : d.size ≤ 1000000) (hb : bi ≤ 9223372036854775807) :
    Calls Try.prog 26 #[.agg #[.int .i64 bi, .int .i64 ha, .string d]] w fun e w' => e = .returned (.string (writeB bi ha d)) ∧ Below w.heap.size w w' := by
  cases hf : fitB bi ha d with
  | false =>
    have HF := Lib.hid hf
    have hr : writeB bi ha d = ⟨#[]⟩ := by unfold writeB; rw [hf]; rfl
    have HR := Lib.hid hr
    clear hf hr
    go_enter Try.func26, Try.ntmps26
    go_wp2_with (go_at_call 10; refine Calls.mono (fit_any _ _ _ _ hd hb) ?_; rw [HF.out]; rintro e w1 ⟨rfl, hB1⟩)
    go_ret
    exact ⟨by rw [HR.out]; rfl, bel (by go_grown) hB1⟩
  | true =>
    have HF := Lib.hid hf
    obtain ⟨E, H, hE, h1, h8, hbi, hha, hds⟩ := fit_is hf
    have hp : 2 ^ E ≤ 2 ^ 10 := Nat.pow_le_pow_right (by decide) hE
    obtain ⟨B, hB⟩ : ∃ B : Nat, B = 64 * 2 ^ E := ⟨_, rfl⟩
    have hB9 : B ≤ 65536 := by omega
    rw [← hB] at hbi
    subst hbi
    subst hha
    obtain ⟨pB, hpB⟩ : ∃ pB, pB = putB B := ⟨_, rfl⟩
    obtain ⟨pH, hpH⟩ : ∃ pH, pH = putB H := ⟨_, rfl⟩
    have hr : writeB B H d = pB ++ pH ++ d := by unfold writeB; rw [hf, if_pos rfl, hpB, hpH, Int.toNat_natCast, Int.toNat_natCast]
    have hs1 : pB.size ≤ 11 := by rw [hpB]; exact putB_size B
    have hs2 : pH.size ≤ 11 := by rw [hpH]; exact putB_size H
    have hac1 : ¬9223372036854775807 < pB.size + pH.size := by omega
    have hac2 : ¬9223372036854775807 < (pB ++ pH).size + d.size := by rw [ByteArray.size_append]; omega
    have hac3 : ¬9223372036854775807 < pB.size + pH.size + d.size := by omega
    have hwB : IntKind.u64.wrap (B : Int) = (B : Int) := wraps_u64 _ (by omega) (by omega)
    have hwH : IntKind.u64.wrap (H : Int) = (H : Int) := wraps_u64 _ (by omega) (by omega)
    have HR := Lib.hid hr
    have HPB := Lib.hid hpB
    have HPH := Lib.hid hpH
    have HB9 := Lib.hid hB9
    have HH8 := Lib.hid h8
    clear hf hr hpB hpH hB hp hE hB9 h1 h8 hds
    go_enter Try.func26, Try.ntmps26
    have k0 : (w.alloc (.cells #[.int .i64 (B : Int), .int .i64 (H : Int), .string d] 23)).cell? ⟨w.heap.size, 0, none⟩ = some (.int .i64 (B : Int)) := by go_simp
    have HA := Lib.hid (Blo.new w (B : Int) (H : Int) d 23)
    clear k0
    go_wp2_with (first
      | (go_at_call 10
         refine Calls.mono (fit_any _ _ _ _ hd hb) ?_
         rw [HF.out]
         rintro e w1 ⟨rfl, hB1⟩
         have HA1 := Lib.hid (HA.out.kept hB1)
         have HW1 := Lib.hid (bel ((Below.refl _ _).alloc (Nat.le_refl _) (.cells #[.int .i64 (B : Int), .int .i64 (H : Int), .string d] 23)) hB1)
         obtain ⟨a0, a1, a2⟩ := HA1.out
         clear hB1))
    have hS0 := keep1 HA1 (Lib.hid (Below.refl w1.heap.size w1).drew)
    clear a0 a1 a2
    go_region_held3 (fun w' => w'.cell? ⟨w.heap.size, 0, none⟩ = some (.int .i64 (B : Int)) ∧ w'.cell? ⟨w.heap.size, 1, none⟩ = some (.int .i64 (H : Int)) ∧ w'.cell? ⟨w.heap.size, 2, none⟩ = some (.string d) ∧ Hid (Below w1.heap.size w1 w'))
      (first
        | exact hS0
        | (go_split_ands; exact keep1 HA1 (Lib.hid (bel (Hid.out ‹Hid (Below w1.heap.size w1 _)›) ‹_›))))
      (first
        | (go_at_call 34; refine Calls.mono (vput_any _ _ (by first | (have := HB9.out; omega) | (have := HH8.out; omega))) ?_; (first | rw [← HPB.out] | rw [← HPH.out]); rintro e wx ⟨rfl, hBx⟩))
    go_split_ands
    go_wp2_with fail
    go_ret
    exact ⟨by rw [HR.out]; rfl, bel HW1.out (Hid.out ‹Hid (Below w1.heap.size w1 _)›)⟩

set_option maxHeartbeats 1000000 in
theorem rwrite_any (bi ha : Int) (d : ByteArray) (w : World) (hd : d.size ≤ 1000000) (hb : bi ≤ 9223372036854775807) :
    Calls Try.prog 27 #[.agg #[.int .i64 bi, .int .i64 ha, .string d]] w fun e w' => e = .returned (.string (writeB bi ha d)) ∧ Below w.heap.size w w' := by
  cases hf : fitB bi ha d with
  | false =>
    have HF := Lib.hid hf
    have hr : writeB bi ha d = ⟨#[]⟩ := by unfold writeB; rw [hf]; rfl
    have HR := Lib.hid hr
    clear hf hr
    go_enter Try.func27, Try.ntmps27
    go_wp2_with (go_at_call 11; refine Calls.mono (rfit_any _ _ _ _ hd) ?_; rw [HF.out]; rintro e w1 ⟨rfl, hB1⟩)
    go_ret
    exact ⟨by rw [HR.out]; rfl, bel (by go_grown) hB1⟩
  | true =>
    have HF := Lib.hid hf
    obtain ⟨E, H, hE, h1, h8, hbi, hha, hds⟩ := fit_is hf
    have hp : 2 ^ E ≤ 2 ^ 10 := Nat.pow_le_pow_right (by decide) hE
    obtain ⟨B, hB⟩ : ∃ B : Nat, B = 64 * 2 ^ E := ⟨_, rfl⟩
    have hB9 : B ≤ 65536 := by omega
    rw [← hB] at hbi
    subst hbi
    subst hha
    obtain ⟨pB, hpB⟩ : ∃ pB, pB = putB B := ⟨_, rfl⟩
    obtain ⟨pH, hpH⟩ : ∃ pH, pH = putB H := ⟨_, rfl⟩
    have hr : writeB B H d = pB ++ pH ++ d := by unfold writeB; rw [hf, if_pos rfl, hpB, hpH, Int.toNat_natCast, Int.toNat_natCast]
    have hs1 : pB.size ≤ 11 := by rw [hpB]; exact putB_size B
    have hs2 : pH.size ≤ 11 := by rw [hpH]; exact putB_size H
    have hac1 : ¬9223372036854775807 < pB.size + pH.size := by omega
    have hac2 : ¬9223372036854775807 < (pB ++ pH).size + d.size := by rw [ByteArray.size_append]; omega
    have hac3 : ¬9223372036854775807 < pB.size + pH.size + d.size := by omega
    have hwB : IntKind.u64.wrap (B : Int) = (B : Int) := wraps_u64 _ (by omega) (by omega)
    have hwH : IntKind.u64.wrap (H : Int) = (H : Int) := wraps_u64 _ (by omega) (by omega)
    have HR := Lib.hid hr
    have HPB := Lib.hid hpB
    have HPH := Lib.hid hpH
    have HB9 := Lib.hid hB9
    have HH8 := Lib.hid h8
    clear hf hr hpB hpH hB hp hE hB9 h1 h8 hds
    go_enter Try.func27, Try.ntmps27
    have k0 : (w.alloc (.cells #[.int .i64 (B : Int), .int .i64 (H : Int), .string d] 23)).cell? ⟨w.heap.size, 0, none⟩ = some (.int .i64 (B : Int)) := by go_simp
    have HA := Lib.hid (Blo.new w (B : Int) (H : Int) d 23)
    clear k0
    go_wp2_with (first
      | (go_at_call 11
         refine Calls.mono (rfit_any _ _ _ _ hd) ?_
         rw [HF.out]
         rintro e w1 ⟨rfl, hB1⟩
         have HA1 := Lib.hid (HA.out.kept hB1)
         have HW1 := Lib.hid (bel ((Below.refl _ _).alloc (Nat.le_refl _) (.cells #[.int .i64 (B : Int), .int .i64 (H : Int), .string d] 23)) hB1)
         obtain ⟨a0, a1, a2⟩ := HA1.out
         clear hB1))
    have hS0 := keep1 HA1 (Lib.hid (Below.refl w1.heap.size w1).drew)
    clear a0 a1 a2
    go_region_held3 (fun w' => w'.cell? ⟨w.heap.size, 0, none⟩ = some (.int .i64 (B : Int)) ∧ w'.cell? ⟨w.heap.size, 1, none⟩ = some (.int .i64 (H : Int)) ∧ w'.cell? ⟨w.heap.size, 2, none⟩ = some (.string d) ∧ Hid (Below w1.heap.size w1 w'))
      (first
        | exact hS0
        | (go_split_ands; exact keep1 HA1 (Lib.hid (bel (Hid.out ‹Hid (Below w1.heap.size w1 _)›) ‹_›))))
      (first
        | (go_at_call 35; refine Calls.mono (rput_any _ _ (by first | (have := HB9.out; omega) | (have := HH8.out; omega))) ?_; (first | rw [← HPB.out] | rw [← HPH.out]); rintro e wx ⟨rfl, hBx⟩))
    go_split_ands
    go_wp2_with fail
    go_ret
    exact ⟨by rw [HR.out]; rfl, bel HW1.out (Hid.out ‹Hid (Below w1.heap.size w1 _)›)⟩
end Go.Proofs.Ytingloamfpibaaa
