/-
  WHICH PARAMETERS ARE FIT: the program's answer, the document's.
-/
import Derived.Test.YtkcailgfggbigaaDoorPow
namespace Go.Proofs.YtkcailgfggbigaaDoor
open Go.RowKit Go.Shelf Go.Proofs.Gear
attribute [local go_sem] Oper.semAt_some
set_option linter.unusedVariables false

def fitR (mn av mx : Int) : Bool := decide (1 ≤ mn) && (decide (2 ≤ av) && (decide (0 < powerOf av) && (decide (mn ≤ av) && (decide (av ≤ mx) && decide (mx ≤ 4096)))))
theorem fitR_eq (mn av mx : Int) : fitR mn av mx = fitB mn av mx := by
  unfold fitR fitB
  rw [Bool.eq_iff_iff]
  simp only [Bool.and_eq_true, decide_eq_true_eq]
  constructor
  · rintro ⟨h1, h2, h3, h4, h5, h6⟩
    obtain ⟨n, rfl⟩ : ∃ n : Nat, av = n := ⟨av.toNat, by omega⟩
    have := pow_small n (by omega) (by omega)
    exact ⟨by omega, by omega, by rw [this.1]; exact decide_eq_true h3, h4, h5, h6⟩
  · rintro ⟨h1, h2, h3, h4, h5, h6⟩
    obtain ⟨n, rfl⟩ : ∃ n : Nat, av = n := ⟨av.toNat, by omega⟩
    have := pow_small n (by omega) (by omega)
    rw [h3] at this
    exact ⟨by omega, by omega, of_decide_eq_true this.1.symm, h4, h5, h6⟩

set_option maxHeartbeats 2000000 in
theorem fit_any (mn av mx : Int) (hav : av ≤ 9223372036854775807) (w : World) :
    Calls Tryd.prog 11 #[.agg #[.int .i64 mn, .int .i64 av, .int .i64 mx]] w fun e w' => e = .returned (.bool (fitB mn av mx)) ∧ Below w.heap.size w w' := by
  go_enter Tryd.func11, Tryd.ntmps11
  · by_cases a1 : 0 < mn
    · by_cases a2 : 1 < av
      · by_cases a3 : (bits .and .i64 av (av - 1) == 0) = true
        · by_cases a4 : mn ≤ av
          · by_cases a5 : av ≤ mx
            · by_cases a6 : mx ≤ 4096
              · go_wp2; go_ret; exact ⟨by (simp [fitB, *]; try (intros; omega)), by go_grown⟩
              · go_wp2; go_ret; exact ⟨by (simp [fitB, *]; try (intros; omega)), by go_grown⟩
            · go_wp2; go_ret; exact ⟨by (simp [fitB, *]; try (intros; omega)), by go_grown⟩
          · go_wp2; go_ret; exact ⟨by (simp [fitB, *]; try (intros; omega)), by go_grown⟩
        · go_wp2; go_ret; exact ⟨by (simp [fitB, *]; try (intros; omega)), by go_grown⟩
      · go_wp2; go_ret; exact ⟨by (simp [fitB, *]; try (intros; omega)), by go_grown⟩
    · go_wp2; go_ret; exact ⟨by (simp [fitB, *]; try (intros; omega)), by go_grown⟩

set_option maxHeartbeats 2000000 in
theorem rfit_any (mn av mx : Int) (w : World) :
    Calls Tryd.prog 12 #[.agg #[.int .i64 mn, .int .i64 av, .int .i64 mx]] w fun e w' => e = .returned (.bool (fitB mn av mx)) ∧ Below w.heap.size w w' := by
  rw [← fitR_eq]
  go_enter Tryd.func12, Tryd.ntmps12
  · by_cases a1 : 1 ≤ mn
    · by_cases a2 : 2 ≤ av
      · by_cases a3 : 0 < powerOf av
        · by_cases a4 : mn ≤ av
          · by_cases a5 : av ≤ mx
            · by_cases a6 : mx ≤ 4096
              · go_wp2_with (go_at_call 26; refine Calls.mono (power_any av _) ?_; rintro e w' ⟨rfl, rfl⟩); go_ret; exact ⟨by (simp [fitR, *]; try (intros; omega)), by go_grown⟩
              · go_wp2_with (go_at_call 26; refine Calls.mono (power_any av _) ?_; rintro e w' ⟨rfl, rfl⟩); go_ret; exact ⟨by (simp [fitR, *]; try (intros; omega)), by go_grown⟩
            · go_wp2_with (go_at_call 26; refine Calls.mono (power_any av _) ?_; rintro e w' ⟨rfl, rfl⟩); go_ret; exact ⟨by (simp [fitR, *]; try (intros; omega)), by go_grown⟩
          · go_wp2_with (go_at_call 26; refine Calls.mono (power_any av _) ?_; rintro e w' ⟨rfl, rfl⟩); go_ret; exact ⟨by (simp [fitR, *]; try (intros; omega)), by go_grown⟩
        · go_wp2_with (go_at_call 26; refine Calls.mono (power_any av _) ?_; rintro e w' ⟨rfl, rfl⟩); go_ret; exact ⟨by (simp [fitR, *]; try (intros; omega)), by go_grown⟩
      · go_wp2_with (go_at_call 26; refine Calls.mono (power_any av _) ?_; rintro e w' ⟨rfl, rfl⟩); go_ret; exact ⟨by (simp [fitR, *]; try (intros; omega)), by go_grown⟩
    · go_wp2_with (go_at_call 26; refine Calls.mono (power_any av _) ?_; rintro e w' ⟨rfl, rfl⟩); go_ret; exact ⟨by (simp [fitR, *]; try (intros; omega)), by go_grown⟩

end Go.Proofs.YtkcailgfggbigaaDoor
