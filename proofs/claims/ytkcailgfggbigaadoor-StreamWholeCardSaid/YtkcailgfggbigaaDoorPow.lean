/-
  POWERS OF TWO; WHICH PARAMETERS ARE FIT.
-/
import Derived.Test.YtkcailgfggbigaaDoorCut
namespace Go.Proofs.YtkcailgfggbigaaDoor
open Go.RowKit Go.Shelf Go.Proofs.Gear
attribute [local go_sem] Oper.semAt_some
set_option linter.unusedVariables false

/-- How often 2 divides a power of two. -/
def powerOf (n : Int) : Int := (((List.range 30).find? (fun k => n == 2 ^ k)).map (fun k => ((k : Nat) : Int))).getD (-1)

theorem powerOf_at (n : Int) (k : Nat) (hk : k < 30) (hn : ∀ j, j < k → n ≠ 2 ^ j) (h : n = 2 ^ k) : powerOf n = k := by
  have : (List.range 30).find? (fun k => n == 2 ^ k) = some k := by
    rw [show (List.range 30) = List.range (k + (30 - k)) by congr 1; omega, List.range_add, List.find?_append, List.find?_eq_none.2 (by intro j hj; simp; exact hn j (List.mem_range.1 hj))]
    obtain ⟨m, hm⟩ : ∃ m, 30 - k = m + 1 := ⟨30 - k - 1, by omega⟩
    rw [hm, List.range_succ_eq_map]
    simp [h]
  unfold powerOf
  rw [this]
  rfl
theorem powerOf_none (n : Int) (hn : ∀ j, j < 30 → n ≠ 2 ^ j) : powerOf n = -1 := by
  unfold powerOf
  rw [List.find?_eq_none.2 (by intro j hj; simp; exact hn j (List.mem_range.1 hj))]
  rfl

theorem pow_le (a b : Nat) (h : a ≤ b) : (2 : Int) ^ a ≤ 2 ^ b := by exact_mod_cast Nat.pow_le_pow_right (by decide) h

theorem power_any (n : Int) (w : World) :
    Calls Tryd.prog 26 #[.int .i64 n] w fun e w' => e = .returned (.int .i64 (powerOf n)) ∧ w' = w := by
  go_enter Tryd.func26, Tryd.ntmps26
  go_wp2
  go_loopw [3] (fun i wr => ∃ k : Nat, k ≤ 30 ∧ i = .int .i64 (k : Int) ∧ Hid (∀ j, j < k → n ≠ 2 ^ j) ∧ wr = w) (fun i _ => 30 - (intOf i).toNat)
  case atStart => exact ⟨0, by omega, rfl, Lib.hid (by intro j hj; omega), rfl⟩
  case round =>
    obtain ⟨k, hk, rfl, hn, rfl⟩ := hrel
    by_cases hlt : k < 30
    · obtain ⟨P, hP⟩ : ∃ P : Int, P = 2 ^ k := ⟨_, rfl⟩
      have hw : wrap64 (2 ^ k) = P := by
        rw [hP]
        have h1 : (2 : Int) ^ k ≤ 2 ^ 30 := pow_le _ _ (by omega)
        have h2 : (0 : Int) < 2 ^ k := Int.pow_pos (by decide)
        unfold wrap64
        omega
      have HP := Lib.hid hP
      clear hP
      by_cases he : n = P
      · have hb : (n == P) = true := beq_iff_eq.2 he
        have HE := Lib.hid he
        clear he
        go_wp2
        go_ret
        exact ⟨by rw [powerOf_at n k hlt hn.out (HE.out.trans HP.out)]; rfl, rfl⟩
      · have hb : (n == P) = false := beq_eq_false_iff_ne.2 he
        have HE := Lib.hid he
        clear he
        go_wp2
        exact ⟨⟨k + 1, by omega, by go_num, Lib.hid (by intro j hj; rcases Nat.lt_succ_iff_lt_or_eq.1 hj with h | h; exact hn.out j h; rw [h, ← HP.out]; exact HE.out), trivial⟩, by simp [intOf]; omega⟩
    · obtain rfl : k = 30 := by omega
      go_wp2
      go_ret
      exact ⟨by rw [powerOf_none n hn.out]; rfl, rfl⟩

/-- Whether parameters are fit. -/
def fitB (mn av mx : Int) : Bool := decide (0 < mn) && (decide (1 < av) && ((bits .and .i64 av (av - 1) == 0) && (decide (mn ≤ av) && (decide (av ≤ mx) && decide (mx ≤ 4096)))))
/-- How they are fit. -/
structure FitP (mn av mx : Int) (b : Nat) : Prop where
  pow : av = 2 ^ b
  low : 1 ≤ b
  high : b ≤ 12
  one : 1 ≤ mn
  min : mn ≤ av
  max : av ≤ mx
  big : mx ≤ 4096

theorem pow_small0 : ∀ a : Fin 65, ∀ c : Fin 64, 1 < 64 * a.val + c.val → ((bits .and .i64 ((64 * a.val + c.val : Nat) : Int) (((64 * a.val + c.val : Nat) : Int) - 1) == 0) = decide (0 < powerOf ((64 * a.val + c.val : Nat) : Int))) ∧ (0 < powerOf ((64 * a.val + c.val : Nat) : Int) → ∃ b : Fin 13, ((64 * a.val + c.val : Nat) : Int) = 2 ^ b.val ∧ 1 ≤ b.val ∧ powerOf ((64 * a.val + c.val : Nat) : Int) = b.val) := by decide +kernel
theorem pow_small (n : Nat) (h : n < 4097) (h1 : 1 < n) : ((bits .and .i64 (n : Int) ((n : Int) - 1) == 0) = decide (0 < powerOf n)) ∧ (0 < powerOf n → ∃ b : Fin 13, (n : Int) = 2 ^ b.val ∧ 1 ≤ b.val ∧ powerOf n = b.val) := by
  have := pow_small0 ⟨n / 64, by omega⟩ ⟨n % 64, by omega⟩
  simp only [Nat.div_add_mod] at this
  exact this h1

theorem fitB_iff (mn av mx : Int) : fitB mn av mx = true ↔ ∃ b, FitP mn av mx b := by
  unfold fitB
  simp only [Bool.and_eq_true, decide_eq_true_eq]
  constructor
  · rintro ⟨h1, h2, h3, h4, h5, h6⟩
    obtain ⟨n, rfl⟩ : ∃ n : Nat, av = n := ⟨av.toNat, by omega⟩
    have := pow_small n (by omega) (by omega)
    obtain ⟨b, hb, hb1, -⟩ := this.2 (by rw [h3] at this; exact of_decide_eq_true this.1.symm)
    exact ⟨b.val, hb, hb1, by omega, by omega, h4, h5, h6⟩
  · rintro ⟨b, h⟩
    have hb := h.pow
    obtain ⟨n, rfl⟩ : ∃ n : Nat, av = n := ⟨av.toNat, by have := h.min; have := h.one; omega⟩
    have hlt : 1 < n := by
      have h2 : (2 : Int) ^ 1 ≤ 2 ^ b := pow_le _ _ h.low
      omega
    have hle := Int.le_trans h.max h.big
    have := pow_small n (by omega) hlt
    refine ⟨by have := h.one; omega, by omega, ?_, h.min, h.max, h.big⟩
    rw [this.1]
    have hlow := h.low
    have hp : powerOf (n : Int) = b := powerOf_at _ b (by have := h.high; omega) (by
      intro j hj e
      rw [hb] at e
      have h3 : (2 : Int) ^ (j + 1) ≤ 2 ^ b := pow_le _ _ hj
      have h4 : (0 : Int) < 2 ^ j := Int.pow_pos (by decide)
      rw [Int.pow_succ] at h3
      omega) hb
    rw [hp]
    exact decide_eq_true (by omega)

end Go.Proofs.YtkcailgfggbigaaDoor
