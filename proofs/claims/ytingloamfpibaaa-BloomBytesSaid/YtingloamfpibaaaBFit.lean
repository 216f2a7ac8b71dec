/-
  WHICH SIEVES CAN BE: the program's answer, the document's.
-/
import Derived.Test.YtingloamfpibaaaBMath
import Derived.WalkKit
namespace Go.Proofs.Ytingloamfpibaaa
open Go.RowKit
set_option linter.unusedVariables false

def fitC (bi h : Int) (d : ByteArray) : Bool := decide (64 ≤ bi) && (decide (bi ≤ 65536) && ((bits .and .i64 bi (bi - 1) == 0) && (decide (0 < h) && (decide (h ≤ 8) && ((d.size : Int) * 8 == bi)))))
theorem fitC_eq (bi h : Int) (d : ByteArray) : fitC bi h d = fitB bi h d := by
  unfold fitC fitB shapeB
  rw [Bool.eq_iff_iff]
  simp only [Bool.and_eq_true, decide_eq_true_eq, beq_iff_eq]
  constructor
  · rintro ⟨h1, h2, h3, h4, h5, h6⟩
    have := and_sizes bi h1 h2
    rw [h3] at this
    exact ⟨⟨by omega, h5, by rw [← this]; rfl⟩, h6⟩
  · rintro ⟨⟨h4, h5, h3⟩, h6⟩
    obtain ⟨e, he, hb⟩ := sizes_pow h3
    have h7 : 2 ^ e ≤ 2 ^ 10 := Nat.pow_le_pow_right (by decide) he
    have h8 : 1 ≤ 2 ^ e := Nat.one_le_two_pow
    have h1 : 64 ≤ bi := by omega
    have h2 : bi ≤ 65536 := by omega
    have := and_sizes bi h1 h2
    rw [h3] at this
    exact ⟨h1, h2, by simpa using this, by omega, h5, h6⟩

set_option maxHeartbeats 1000000 in
theorem fitC_any (bi h : Int) (d : ByteArray) (w : World) (hd : d.size ≤ 1000000) (hb : bi ≤ 9223372036854775807) :
    Calls Try.prog 10 #[.agg #[.int .i64 bi, .int .i64 h, .string d]] w fun e w' => e = .returned (.bool (fitC bi h d)) ∧ Below w.heap.size w w' := by
  go_enter Try.func10, Try.ntmps10
  · by_cases a1 : 64 ≤ bi
    · by_cases a2 : bi ≤ 65536
      · by_cases a3 : (bits .and .i64 bi (bi - 1) == 0) = true
        · by_cases a4 : 0 < h
          · by_cases a5 : h ≤ 8
            · by_cases a6 : ((d.size : Int) * 8 == bi) = true
              · (go_wp2; go_ret; exact ⟨by simp [fitC, *]; try (intros; omega), by go_grown⟩)
              · (go_wp2; go_ret; exact ⟨by simp [fitC, *]; try (intros; omega), by go_grown⟩)
            · (go_wp2; go_ret; exact ⟨by simp [fitC, *]; try (intros; omega), by go_grown⟩)
          · (go_wp2; go_ret; exact ⟨by simp [fitC, *]; try (intros; omega), by go_grown⟩)
        · (go_wp2; go_ret; exact ⟨by simp [fitC, *]; try (intros; omega), by go_grown⟩)
      · (go_wp2; go_ret; exact ⟨by simp [fitC, *]; try (intros; omega), by go_grown⟩)
    · (go_wp2; go_ret; exact ⟨by simp [fitC, *]; try (intros; omega), by go_grown⟩)
theorem fit_any (bi h : Int) (d : ByteArray) (w : World) (hd : d.size ≤ 1000000) (hb : bi ≤ 9223372036854775807) :
    Calls Try.prog 10 #[.agg #[.int .i64 bi, .int .i64 h, .string d]] w fun e w' => e = .returned (.bool (fitB bi h d)) ∧ Below w.heap.size w w' := by
  rw [← fitC_eq]; exact fitC_any bi h d w hd hb

end Go.Proofs.Ytingloamfpibaaa
