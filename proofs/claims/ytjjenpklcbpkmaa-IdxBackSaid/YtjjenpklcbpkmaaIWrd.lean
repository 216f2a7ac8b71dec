/-
  Numbers of four bytes, greatest part first: written and read, both packages.
-/
import Derived.Test.YtjjenpklcbpkmaaIBld
import Derived.Test.YtjjenpklcbpkmaaICrc
namespace Go.Proofs.Ytjjenpklcbpkmaa
open Go.RowKit Go.Proofs.Mem
set_option linter.unusedVariables false

def wordL (m : Nat) : List UInt8 := [UInt8.ofNat (m / 16777216), UInt8.ofNat (m / 65536), UInt8.ofNat (m / 256), UInt8.ofNat m]
theorem wordL_len (m : Nat) : (wordL m).length = 4 := rfl

set_option maxHeartbeats 1000000 in
theorem rword_any (c : Nat) (w : World) (hc : c < 2147483648) :
    Calls Try.prog 35 #[.int .i64 c] w fun e w' => e = .returned (.string ⟨(wordL c).toArray⟩) ∧ Below w.heap.size w w' := by
  have hcv := conv4 w ((c : Int) / 16777216) ((c : Int) / 65536 % 256) ((c : Int) / 256 % 256) ((c : Int) % 256) (by omega) (by omega) (by omega) (by omega)
  have hR : (⟨#[UInt8.ofNat ((c : Int) / 16777216).toNat, UInt8.ofNat ((c : Int) / 65536 % 256).toNat, UInt8.ofNat ((c : Int) / 256 % 256).toNat, UInt8.ofNat ((c : Int) % 256).toNat]⟩ : ByteArray) = ⟨(wordL c).toArray⟩ := by
    rw [show ((c : Int) % 256).toNat = c % 256 by omega, show ((c : Int) / 256 % 256).toNat = c / 256 % 256 by omega, show ((c : Int) / 65536 % 256).toNat = c / 65536 % 256 by omega, show ((c : Int) / 16777216).toNat = c / 16777216 by omega, ofNat_mod, ofNat_mod, ofNat_mod]
    rfl
  rw [hR] at hcv
  clear hR
  go_enter Try.func35, Try.ntmps35
  go_wp2_with fail
  go_ret
  exact ⟨rfl, by go_grown⟩

theorem wrap_d3 (c : Nat) : IntKind.u8.wrap ((c : Int) / 16777216) = ((c / 16777216 % 256 : Nat) : Int) := by rw [← wrap_u8]; congr 1
theorem wrap_d2 (c : Nat) : IntKind.u8.wrap ((c : Int) / 65536) = ((c / 65536 % 256 : Nat) : Int) := by rw [← wrap_u8]; congr 1
theorem wrap_d1 (c : Nat) : IntKind.u8.wrap ((c : Int) / 256) = ((c / 256 % 256 : Nat) : Int) := by rw [← wrap_u8]; congr 1

set_option maxHeartbeats 2000000 in
theorem wword_any (B b : Nat) (l : List UInt8) (c : Nat) (w : World) (hc : c < 2147483648) (h : WB B b (Lib.byteCells l) w) (hl : l.length ≤ 1000000) (hBw : B ≤ w.heap.size) :
    Calls Try.prog 31 #[.pointer (some ⟨b, 0, none⟩), .int .i64 c] w fun e w' => e = .returned (.tuple #[]) ∧ WB B b (Lib.byteCells (l ++ wordL c)) w' ∧ Below B w w' ∧ Others b w w' := by
  have HI0 := Lib.hid h
  have HB0 : Hid (Below B w w) := Lib.hid (Below.refl _ _)
  have HO0 : Hid (Others b w w) := Lib.hid (Others.refl _ _)
  have HLL := Lib.hid hl
  clear h hl
  go_enter Try.func31, Try.ntmps31
  go_wp2_with fail
  refine wp_loop_rounds 5 ?_
  rw [rounds_succ]
  go_wp2_with fail
  go_region_with (go_at_call 50
                  refine Calls.mono (wwrite B b (Lib.byteCells l) _ _ HI0.out (by have := HLL.out; rw [byteCells_len]; omega) (Nat.le_trans hBw HB0.out.size)) ?_
                  rintro e w1 ⟨rfl, hbl, hB, hO⟩
                  rw [wrap_d3] at hbl
                  have HI1 : Hid (WB B b (Lib.byteCells (l ++ [UInt8.ofNat (c / 16777216)])) w1) := Lib.hid (by
                    have h := byteCells_snoc l (c / 16777216 % 256) (by omega)
                    rw [ofNat_mod] at h
                    rw [← h]
                    exact hbl)
                  have HB1 := Lib.hid ((Below.drew HB0.out).trans hB)
                  have HO1 := Lib.hid ((Others.drew HO0.out).trans (Below.drew HB0.out) hO)
                  clear hbl hB hO HI0 HB0 HO0)
  go_wp2_with fail
  rw [rounds_succ]
  go_wp2_with fail
  go_region_with (go_at_call 50
                  refine Calls.mono (wwrite B b (Lib.byteCells (l ++ [UInt8.ofNat (c / 16777216)])) _ _ HI1.out (by have := HLL.out; rw [byteCells_len]; simp; omega) (Nat.le_trans hBw HB1.out.size)) ?_
                  rintro e w2 ⟨rfl, hbl, hB, hO⟩
                  rw [wrap_d2] at hbl
                  have HI2 : Hid (WB B b (Lib.byteCells (l ++ [UInt8.ofNat (c / 16777216), UInt8.ofNat (c / 65536)])) w2) := Lib.hid (by
                    have h := byteCells_snoc (l ++ [UInt8.ofNat (c / 16777216)]) (c / 65536 % 256) (by omega)
                    rw [ofNat_mod, List.append_assoc] at h
                    rw [show l ++ [UInt8.ofNat (c / 16777216), UInt8.ofNat (c / 65536)] = l ++ ([UInt8.ofNat (c / 16777216)] ++ [UInt8.ofNat (c / 65536)]) from rfl, ← h]
                    exact hbl)
                  have HB2 := Lib.hid ((Below.drew HB1.out).trans hB)
                  have HO2 := Lib.hid ((Others.drew HO1.out).trans (Below.drew HB1.out) hO)
                  clear hbl hB hO HI1 HB1 HO1)
  go_wp2_with fail
  rw [rounds_succ]
  go_wp2_with fail
  go_region_with (go_at_call 50
                  refine Calls.mono (wwrite B b (Lib.byteCells (l ++ [UInt8.ofNat (c / 16777216), UInt8.ofNat (c / 65536)])) _ _ HI2.out (by have := HLL.out; rw [byteCells_len]; simp; omega) (Nat.le_trans hBw HB2.out.size)) ?_
                  rintro e w3 ⟨rfl, hbl, hB, hO⟩
                  rw [wrap_d1] at hbl
                  have HI3 : Hid (WB B b (Lib.byteCells (l ++ [UInt8.ofNat (c / 16777216), UInt8.ofNat (c / 65536), UInt8.ofNat (c / 256)])) w3) := Lib.hid (by
                    have h := byteCells_snoc (l ++ [UInt8.ofNat (c / 16777216), UInt8.ofNat (c / 65536)]) (c / 256 % 256) (by omega)
                    rw [ofNat_mod, List.append_assoc] at h
                    rw [show l ++ [UInt8.ofNat (c / 16777216), UInt8.ofNat (c / 65536), UInt8.ofNat (c / 256)] = l ++ ([UInt8.ofNat (c / 16777216), UInt8.ofNat (c / 65536)] ++ [UInt8.ofNat (c / 256)]) from rfl, ← h]
                    exact hbl)
                  have HB3 := Lib.hid ((Below.drew HB2.out).trans hB)
                  have HO3 := Lib.hid ((Others.drew HO2.out).trans (Below.drew HB2.out) hO)
                  clear hbl hB hO HI2 HB2 HO2)
  go_wp2_with fail
  rw [rounds_succ]
  go_wp2_with fail
  go_region_with (go_at_call 50
                  refine Calls.mono (wwrite B b (Lib.byteCells (l ++ [UInt8.ofNat (c / 16777216), UInt8.ofNat (c / 65536), UInt8.ofNat (c / 256)])) _ _ HI3.out (by have := HLL.out; rw [byteCells_len]; simp; omega) (Nat.le_trans hBw HB3.out.size)) ?_
                  rintro e w4 ⟨rfl, hbl, hB, hO⟩
                  rw [wrap_u8] at hbl
                  have HI4 : Hid (WB B b (Lib.byteCells (l ++ wordL c)) w4) := Lib.hid (by
                    have h := byteCells_snoc (l ++ [UInt8.ofNat (c / 16777216), UInt8.ofNat (c / 65536), UInt8.ofNat (c / 256)]) (c % 256) (by omega)
                    rw [ofNat_mod, List.append_assoc] at h
                    rw [show l ++ wordL c = l ++ ([UInt8.ofNat (c / 16777216), UInt8.ofNat (c / 65536), UInt8.ofNat (c / 256)] ++ [UInt8.ofNat c]) from rfl, ← h]
                    exact hbl)
                  have HB4 := Lib.hid ((Below.drew HB3.out).trans hB)
                  have HO4 := Lib.hid ((Others.drew HO3.out).trans (Below.drew HB3.out) hO)
                  clear hbl hB hO HI3 HB3 HO3)
  go_wp2_with fail
  rw [rounds_succ]
  go_wp2_with fail
  go_end0
  exact ⟨rfl, HI4.out, HB4.out, HO4.out⟩

end Go.Proofs.Ytjjenpklcbpkmaa
