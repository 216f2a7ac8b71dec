/-
  WHICH SIEVES CAN BE: the document's answer.
-/
import Derived.Test.YtingloamfpibaaaBFit
namespace Go.Proofs.Ytingloamfpibaaa
open Go.RowKit
set_option linter.unusedVariables false

theorem sizes_mem (bi : Int) : sizes.contains bi = true ↔ ∃ e, e ≤ 10 ∧ bi = ((64 * 2 ^ e : Nat) : Int) := by
  constructor
  · exact sizes_pow
  · rintro ⟨e, he, rfl⟩
    have : ∀ e : Fin 11, sizes.contains ((64 * 2 ^ e.val : Nat) : Int) = true := by decide
    exact this ⟨e, by omega⟩

set_option maxHeartbeats 1000000 in
theorem shape_any (bi h : Int) (w : World) :
    Calls Try.prog 28 #[.int .i64 bi, .int .i64 h] w fun e w' => e = .returned (.bool (shapeB bi h)) ∧ w' = w := by
  go_enter Try.func28, Try.ntmps28
  by_cases h1 : h < 1
  · go_wp2
    go_ret
    exact ⟨by unfold shapeB; rw [decide_eq_false (by omega)]; rfl, rfl⟩
  by_cases h2 : 8 < h
  · go_wp2
    go_ret
    exact ⟨by unfold shapeB; rw [decide_eq_false (p := h ≤ 8) (by omega)]; simp, rfl⟩
  have hs : shapeB bi h = sizes.contains bi := by unfold shapeB; rw [decide_eq_true (p := 1 ≤ h) (by omega), decide_eq_true (p := h ≤ 8) (by omega)]; rfl
  rw [hs]
  clear hs
  obtain ⟨cb, hcb⟩ : ∃ cb, cb = sizes.contains bi := ⟨_, rfl⟩
  rw [← hcb]
  have HCB := Lib.hid hcb
  clear hcb
  have d1 : decide (h < 1) = false := decide_eq_false h1
  have d2 : decide (8 < h) = false := decide_eq_false h2
  go_wp2
  go_loopw [5] (fun v wr => ∃ k : Nat, k ≤ 11 ∧ v = .int .i64 ((64 * 2 ^ k : Nat) : Int) ∧ Hid (∀ j, j < k → bi ≠ ((64 * 2 ^ j : Nat) : Int)) ∧ wr = w) (fun v _ => 200000 - (intOf v).toNat)
  case atStart => exact ⟨0, by omega, rfl, Lib.hid (by intro j hj; omega), rfl⟩
  case round =>
    obtain ⟨k, hk, rfl, hj, rfl⟩ := hrel
    by_cases h11 : k = 11
    · subst h11
      go_wp2
      go_ret
      refine ⟨?_, rfl⟩
      rw [HCB.out]
      congr 2
      cases hc : sizes.contains bi with
      | false => rfl
      | true =>
        obtain ⟨e, he, hb⟩ := sizes_pow hc
        exact absurd hb (hj.out e (by omega))
    · have hk10 : k ≤ 10 := by omega
      have hp : 2 ^ k ≤ 2 ^ 10 := Nat.pow_le_pow_right (by decide) hk10
      have hp1 : 1 ≤ 2 ^ k := Nat.one_le_two_pow
      obtain ⟨n, hn⟩ : ∃ n : Nat, n = 64 * 2 ^ k := ⟨_, rfl⟩
      have hn1 : n ≤ 65536 := by omega
      have hn0 : 64 ≤ n := by omega
      have hn2 : 64 * 2 ^ (k + 1) = n * 2 := by rw [Nat.pow_succ]; omega
      rw [← hn]
      have HN := Lib.hid hn
      have HN2 := Lib.hid hn2
      clear hn hn2 hp hp1
      have d3 : decide ((n : Int) ≤ 65536) = true := decide_eq_true (by omega)
      by_cases hb : bi = (n : Int)
      · have hc : cb = true := by rw [HCB.out]; exact (sizes_mem _).2 ⟨k, hk10, by rw [hb, HN.out]⟩
        have heq : ((n : Int) == bi) = true := beq_iff_eq.2 hb.symm
        subst hc
        clear hb
        go_wp2
        go_ret
        exact ⟨rfl, rfl⟩
      · have hne : ((n : Int) == bi) = false := beq_eq_false_iff_ne.2 (fun e => hb e.symm)
        go_wp2
        go_roundw
        case rel => exact ⟨k + 1, by omega, by rw [HN2.out]; go_num, Lib.hid (by
            intro j hjk
            rcases Nat.lt_or_ge j k with h | h
            · exact hj.out j h
            · obtain rfl : j = k := by omega
              rw [← HN.out]; exact hb), trivial⟩
        case measure => simp [intOf]; omega

theorem rfit_any (bi h : Int) (d : ByteArray) (w : World) (hd : d.size ≤ 1000000) :
    Calls Try.prog 11 #[.agg #[.int .i64 bi, .int .i64 h, .string d]] w fun e w' => e = .returned (.bool (fitB bi h d)) ∧ Below w.heap.size w w' := by
  go_enter Try.func11, Try.ntmps11
  cases hs : shapeB bi h with
  | false =>
    have HS := Lib.hid hs
    clear hs
    go_wp2_with (go_at_call 28; refine Calls.mono (shape_any _ _ _) ?_; rintro e w' ⟨rfl, rfl⟩; rw [HS.out])
    go_ret
    exact ⟨by unfold fitB; rw [HS.out]; rfl, by go_grown⟩
  | true =>
    have hf : fitB bi h d = decide ((d.size : Int) * 8 = bi) := by unfold fitB; rw [hs]; rfl
    have hsz : sizes.contains bi = true := by
      unfold shapeB at hs
      simp only [Bool.and_eq_true] at hs
      exact hs.2.2
    obtain ⟨e, he, hb⟩ := sizes_pow hsz
    have hp : 2 ^ e ≤ 2 ^ 10 := Nat.pow_le_pow_right (by decide) he
    obtain ⟨q, hq⟩ : ∃ q : Nat, q = 8 * 2 ^ e := ⟨_, rfl⟩
    have hbq : bi = ((q * 8 : Nat) : Int) := by rw [hb, hq]; omega
    have hql : q ≤ 8192 := by omega
    rw [hf]
    have HS := Lib.hid hs
    clear hs hf hsz hb hp hq
    have hdv : bi.tdiv 8 = (q : Int) := by rw [hbq, Int.tdiv_eq_ediv_of_nonneg (by omega)]; omega
    have HBQ := Lib.hid hbq
    clear hbq
    by_cases hdq : d.size = q
    · have heq : ((d.size : Int) == (q : Int)) = true := beq_iff_eq.2 (by omega)
      go_wp2_with (go_at_call 28; refine Calls.mono (shape_any _ _ _) ?_; rintro e w' ⟨rfl, rfl⟩; rw [HS.out])
      go_ret
      exact ⟨by rw [decide_eq_true (by have := HBQ.out; omega)]; rfl, by go_grown⟩
    · have hne : ((d.size : Int) == (q : Int)) = false := beq_eq_false_iff_ne.2 (by omega)
      go_wp2_with (go_at_call 28; refine Calls.mono (shape_any _ _ _) ?_; rintro e w' ⟨rfl, rfl⟩; rw [HS.out])
      go_ret
      exact ⟨by rw [decide_eq_false (by have := HBQ.out; omega)]; rfl, by go_grown⟩

end Go.Proofs.Ytingloamfpibaaa
