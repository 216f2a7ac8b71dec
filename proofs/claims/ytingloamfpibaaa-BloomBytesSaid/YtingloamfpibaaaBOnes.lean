/-
  HOW MANY BITS ARE SET: both Ones.
-/
import Derived.Test.YtingloamfpibaaaBJoin
import Derived.Lib.BitFns
import Derived.Shelf.Small.Bits
namespace Go.Proofs.Ytingloamfpibaaa
open Go.RowKit Go.Proofs.Mem
set_option linter.unusedVariables false

/-- The bits of the first k bytes. -/
def onesK (d : ByteArray) : Nat → Nat
  | 0 => 0
  | k + 1 => onesK d k + Lib.onesCount (byteAt d k)
def onesB (d : ByteArray) : Nat := onesK d d.size
theorem ones8 (a : Nat) (h : a < 256) : Lib.onesCount a ≤ 8 := Lib.onesCount_le8 ⟨a, h⟩
theorem onesK_le (d : ByteArray) (k : Nat) : onesK d k ≤ 8 * k := by
  induction k with
  | zero => exact Nat.le_refl _
  | succ k ih => have := ones8 (byteAt d k) (byteAt_lt _ _); simp only [onesK]; omega
/-- The first k bits of a byte. -/
def bitsK (a : Nat) : Nat → Nat
  | 0 => 0
  | k + 1 => bitsK a k + a / 2 ^ k % 2
theorem bitsK_8 : ∀ a : Fin 256, bitsK a.val 8 = Lib.onesCount a.val := by decide +kernel
theorem bitsK_le (a k : Nat) : bitsK a k ≤ k := by
  induction k with
  | zero => exact Nat.le_refl _
  | succ k ih => simp only [bitsK]; omega

def lays135_ren : Go.Shelf.Ren := ⟨fun | 135 => 31 | n => n, fun | 3 => 3 | 5 => 5 | 9 => 9 | n => n, fun | n => n⟩
theorem lays135 : Go.Proofs.Lays.n135 Try.prog lays135_ren := {
  mixed := by kernel_rfl
  f135 := Try.func31.trans (congrArg some (by kernel_rfl))
  t3 := Try.underlying3
  a3 := Try.isAgg3
  z3 := Try.sizeOf3
  v3 := Try.zeroValue3
  t5 := Try.underlying5
  a5 := Try.isAgg5
  z5 := Try.sizeOf5
  v5 := Try.zeroValue5
  t9 := Try.underlying9
  a9 := Try.isAgg9
  z9 := Try.sizeOf9
  v9 := Try.zeroValue9 }
theorem ones8_any (a : Nat) (h : a < 256) (w : World) : Calls Try.prog 31 #[.int .u8 (a : Int)] w fun e w' => e = .returned (.int .i64 (Lib.onesCount a : Nat)) ∧ w' = w :=
  Any.bits_OnesCount8 lays135 (a : Int) w (by omega) (by omega)

set_option maxHeartbeats 1000000 in
theorem bones_any (bi h : Int) (d : ByteArray) (w : World) (hz : d.size ≤ 1000000) :
    Calls Try.prog 20 #[.agg #[.int .i64 bi, .int .i64 h, .string d]] w fun e w' => e = .returned (.int .i64 (onesB d : Nat)) ∧ Below w.heap.size w w' := by
  obtain ⟨bw, cp, hbw, kc⟩ := conv_law
  obtain ⟨W0, hW0⟩ : ∃ W0, w.alloc (.cells #[.int .i64 bi, .int .i64 h, .string d] 23) = W0 := ⟨_, rfl⟩
  have hsz : W0.heap.size = w.heap.size + 1 := by rw [← hW0]; simp only [World.size_alloc]
  have hB0 : Below w.heap.size w W0 := by rw [← hW0]; clear hsz hW0; go_grown
  obtain ⟨W1, hW1⟩ : ∃ W1, bw W0 d = W1 := ⟨_, rfl⟩
  obtain ⟨hb1, hy1, hs1⟩ := hbw W0 d
  rw [hW1] at hb1 hy1 hs1
  rw [hsz] at hy1 hs1
  have hBx := Lib.hid (hB0.trans (hb1.mono (by omega)))
  have HY := Lib.hid hy1
  have kc0 := kc W0 d
  rw [hW1, hsz] at kc0
  generalize cp W0 d = cap at *
  clear hb1 hy1 hB0 kc hbw hsz hW1 hs1
  subst hW0
  go_enter Try.func20, Try.ntmps20
  go_wp2
  go_loopw [3, 10] (fun n i wr => ∃ k : Nat, i = .int .i64 k ∧ k ≤ d.size ∧ n = .int .i64 (onesK d k : Nat) ∧ Hid (Bytes wr (w.heap.size + 1) d) ∧ Hid (Below w.heap.size w wr)) (fun _ i _ => d.size - (intOf i).toNat)
  case atStart => exact ⟨0, rfl, Nat.zero_le _, rfl, HY, hBx⟩
  case round =>
    obtain ⟨k, rfl, hk', rfl, Hy, HB⟩ := hrel
    clear HY hBx kc0
    by_cases hkh : k = d.size
    · have hkk : decide ((k : Int) < (d.size : Int)) = false := decide_eq_false (by omega)
      have hkn : decide (k < d.size) = false := decide_eq_false (by omega)
      have hrf : onesK d k = onesB d := by rw [hkh]; rfl
      have HRF := Lib.hid hrf
      clear hrf hkh
      go_wp2
      go_ret
      exact ⟨by rw [HRF.out]; rfl, HB.out⟩
    · have hlt : k < d.size := by omega
      have hkk : decide ((k : Int) < (d.size : Int)) = true := decide_eq_true (by omega)
      have hkn : decide (k < d.size) = true := decide_eq_true (by omega)
      obtain ⟨y1, y2⟩ := Hy.out k hlt
      have hk0 : (0 : Int) ≤ (k : Int) := Int.natCast_nonneg _
      have hki : (k : Int) < (d.size : Int) := by omega
      have hbl := byteAt_lt d k
      have hsu : onesK d (k + 1) = onesK d k + Lib.onesCount (byteAt d k) := rfl
      have h8 := ones8 _ hbl
      have hle := onesK_le d k
      have hw : IntKind.i64.wrap ((onesK d k : Int) + (Lib.onesCount (byteAt d k) : Int)) = ((onesK d (k + 1) : Nat) : Int) := by rw [hsu]; rw [IntWalk.i64_in _ (by omega)]; omega
      obtain ⟨n1, hn1⟩ : ∃ n1, n1 = onesK d (k + 1) := ⟨_, rfl⟩
      rw [← hn1] at hw
      have HN1 := Lib.hid hn1
      clear hn1
      generalize onesK d k = n0 at *
      clear hsu hkh
      go_wp2_with (go_at_call 31; refine Calls.mono (ones8_any _ hbl _) ?_; rintro e w' ⟨rfl, rfl⟩)
      go_roundw
      case rel => exact ⟨k + 1, by go_num, by omega, by rw [HN1.out], Hy, HB⟩
      case measure => simp [intOf]; omega
set_option maxHeartbeats 1000000 in
theorem rones_any (bi h : Int) (d : ByteArray) (w : World) (hz : d.size ≤ 1000000) :
    Calls Try.prog 21 #[.agg #[.int .i64 bi, .int .i64 h, .string d]] w fun e w' => e = .returned (.int .i64 (onesB d : Nat)) ∧ Below w.heap.size w w' := by
  obtain ⟨W0, hW0⟩ : ∃ W0, w.alloc (.cells #[.int .i64 bi, .int .i64 h, .string d] 23) = W0 := ⟨_, rfl⟩
  have k2 : W0.cell? ⟨w.heap.size, 2, none⟩ = some (.string d) := by rw [← hW0]; clear hW0; go_simp
  have hB0 : Below w.heap.size w W0 := by rw [← hW0]; clear hW0; go_grown
  go_enter Try.func21, Try.ntmps21
  go_wp2
  clear hW0
  have HB0 := Lib.hid hB0
  clear hB0
  go_loopw [3, 4] (fun n i wr => ∃ k : Nat, i = .int .i64 k ∧ k ≤ d.size ∧ n = .int .i64 (onesK d k : Nat) ∧ wr.cell? ⟨w.heap.size, 2, none⟩ = some (.string d) ∧ Hid (Below w.heap.size w wr)) (fun _ i _ => d.size - (intOf i).toNat)
  case atStart => exact ⟨0, rfl, Nat.zero_le _, rfl, k2, HB0⟩
  case round =>
    obtain ⟨k, rfl, hk', rfl, c2, HB⟩ := hrel
    clear HB0 k2
    by_cases hkh : k = d.size
    · have hkk : decide ((k : Int) < (d.size : Int)) = false := decide_eq_false (by omega)
      have hkn : decide (k < d.size) = false := decide_eq_false (by omega)
      have hrf : onesK d k = onesB d := by rw [hkh]; rfl
      have HRF := Lib.hid hrf
      clear hrf hkh
      go_wp2
      go_ret
      exact ⟨by rw [HRF.out]; rfl, HB.out⟩
    · have hlt : k < d.size := by omega
      have hkk : decide ((k : Int) < (d.size : Int)) = true := decide_eq_true (by omega)
      have hkn : decide (k < d.size) = true := decide_eq_true (by omega)
      have hk0 : (0 : Int) ≤ (k : Int) := Int.natCast_nonneg _
      have hki : (k : Int) < (d.size : Int) := by omega
      have hle := onesK_le d k
      have hsu : onesK d (k + 1) = onesK d k + bitsK (byteAt d k) 8 := by rw [bitsK_8 ⟨byteAt d k, byteAt_lt _ _⟩]; rfl
      have HSU := Lib.hid hsu
      obtain ⟨n0, hn0⟩ : ∃ n0, n0 = onesK d k := ⟨_, rfl⟩
      rw [← hn0] at hle ⊢
      have HN0 := Lib.hid hn0
      clear hn0 hsu hkh
      obtain ⟨c, hc⟩ : ∃ c, c = byteAt d k := ⟨_, rfl⟩
      have hcl : c < 256 := by rw [hc]; exact byteAt_lt _ _
      have hdc : (d[k].toNat : Int) = (c : Int) := by rw [hc, byteAt_eq d k hlt]
      have HC := Lib.hid hc
      clear hc
      go_wp2
      rename World => W6
      go_loopw [3, 5] (fun n j wr => ∃ m : Nat, j = .int .i64 m ∧ m ≤ 8 ∧ n = .int .i64 (n0 + bitsK c m : Nat) ∧ wr.cell? ⟨w.heap.size, 2, none⟩ = some (.string d) ∧ Hid (Below w.heap.size w wr)) (fun _ j _ => 8 - (intOf j).toNat)
      case atStart => exact ⟨0, rfl, Nat.zero_le _, rfl, c2, HB⟩
      case round =>
        obtain ⟨m, rfl, hm', rfl, c3, HB3⟩ := hrel
        clear c2 HB
        have hm0 : (0 : Int) ≤ (m : Int) := Int.natCast_nonneg _
        have hbk := bitsK_le c m
        by_cases hm8 : m = 8
        · subst hm8
          have hn1 : n0 + bitsK c 8 = onesK d (k + 1) := by rw [HSU.out, ← HC.out, ← HN0.out]
          have HN1 := Lib.hid hn1
          clear hn1
          generalize bitsK c 8 = b8 at *
          go_wp2
          go_roundw
          case rel => exact ⟨k + 1, by go_num, by omega, by rw [← HN1.out], c3, HB3⟩
          case measure => simp [intOf]; omega
        · have hml : m < 8 := by omega
          have hmi : (m : Int) < 8 := by omega
          have hmd : decide ((m : Int) < 8) = true := decide_eq_true hmi
          have hmn : decide (m < 8) = true := decide_eq_true hml
          have hmw : IntKind.u64.wrap (m : Int) = (m : Int) := wraps_u64 _ (by omega) (by omega)
          have hsh := shr_one c m hcl
          have hb2 : c / 2 ^ m % 2 < 2 := Nat.mod_lt _ (by decide)
          have hsu2 : bitsK c (m + 1) = bitsK c m + c / 2 ^ m % 2 := rfl
          have HS2 := Lib.hid hsu2
          clear hsu2 hm8
          generalize c / 2 ^ m % 2 = bt at *
          generalize hbm : bitsK c m = bm at *
          have HBM := Lib.hid hbm
          clear hbm
          have hw1 : IntKind.i64.wrap (((n0 + bm : Nat) : Int) + (bt : Int)) = ((n0 + bm : Nat) : Int) + (bt : Int) := IntWalk.i64_in _ (by omega)
          go_wp2
          go_roundw
          case rel => exact ⟨m + 1, by go_num, by omega, by rw [HS2.out]; go_num, c3, HB3⟩
          case measure => simp [intOf]; omega
end Go.Proofs.Ytingloamfpibaaa
