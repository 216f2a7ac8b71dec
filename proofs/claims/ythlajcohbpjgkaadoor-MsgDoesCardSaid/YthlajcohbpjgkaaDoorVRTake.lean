/-
  A NUMBER FROM BYTES: the document's Take.
-/
import Derived.Test.YthlajcohbpjgkaaDoorVPut
import Derived.Test.YthlajcohbpjgkaaDoorLBase
namespace Go.Proofs.YthlajcohbpjgkaaDoor
open Go.RowKit Go.Proofs.Mem
set_option linter.unusedVariables false

/-- The document's rule, from group i on. -/
def takeR (s : ByteArray) : Nat → Nat → Nat → Nat × Nat × Nat
  | 0, _, _ => (0, 0, 4)
  | f + 1, i, n =>
    if s.size ≤ i then (0, 0, 1)
    else if i = 9 ∧ 1 < byteAt s i then (0, 0, 4)
    else if byteAt s i < 128 then (if byteAt s i = 0 ∧ 0 < i then (0, 0, 2) else (n + byteAt s i % 128 * 2 ^ (7 * i), i + 1, 0))
    else takeR s f (i + 1) (n + byteAt s i % 128 * 2 ^ (7 * i))
def takeB (s : ByteArray) : Nat × Nat × Nat := takeR s 10 0 0
def tripV (t : Nat × Nat × Nat) : Value := .tuple #[.int .u64 (t.1 : Nat), .int .i64 (t.2.1 : Nat), .int .i64 (t.2.2 : Nat)]
theorem group_lt (c k n : Nat) (hk : k ≤ 8) (hn : n < 2 ^ (7 * k)) : n + c % 128 * 2 ^ (7 * k) < 2 ^ (7 * (k + 1)) := by
  have h1 : 2 ^ (7 * (k + 1)) = 128 * 2 ^ (7 * k) := by rw [Nat.mul_add, Nat.pow_add]; omega
  have h2 : c % 128 * 2 ^ (7 * k) ≤ 127 * 2 ^ (7 * k) := Nat.mul_le_mul_right _ (by omega)
  omega
theorem pow63 (k : Nat) (hk : k ≤ 9) : 2 ^ (7 * k) ≤ 9223372036854775808 := by
  have := Nat.pow_le_pow_right (show 0 < 2 by decide) (show 7 * k ≤ 63 by omega)
  have e : 2 ^ 63 = 9223372036854775808 := by decide
  omega

theorem group_wrap (c k n : Nat) (hk : k ≤ 9) (hn : n < 2 ^ (7 * k)) (hc : k = 9 → c ≤ 1) : IntKind.u64.wrap ((n : Int) + IntKind.u64.wrap ((c : Int) % 128 * 2 ^ (7 * k))) = ((n + c % 128 * 2 ^ (7 * k) : Nat) : Int) := by
  have e : (c : Int) % 128 * 2 ^ (7 * k) = ((c % 128 * 2 ^ (7 * k) : Nat) : Int) := by rw [Int.natCast_mul, Int.natCast_emod, Int.natCast_pow]; rfl
  have hb : n + c % 128 * 2 ^ (7 * k) < 18446744073709551616 := by
    by_cases h9 : k = 9
    · have h1 := hc h9
      have h2 := pow63 k hk
      have h3 : c % 128 * 2 ^ (7 * k) ≤ 1 * 2 ^ (7 * k) := Nat.mul_le_mul_right _ (by omega)
      omega
    · have h1 := group_lt c k n (by omega) hn
      have h2 := pow63 (k + 1) (by omega)
      omega
  rw [e]
  generalize c % 128 * 2 ^ (7 * k) = y at *
  rw [IntKind.wrap_u64, IntKind.wrap_u64]
  omega

set_option maxRecDepth 100000 in
set_option maxHeartbeats 1000000 in
theorem rtake_any (s : ByteArray) (w : World) (hs : s.size ≤ 1000000) :
    Calls Tryd.prog 30 #[.string s] w fun e w' => e = .returned (tripV (takeB s)) ∧ Below w.heap.size w w' := by
  go_enter Tryd.func30, Tryd.ntmps30
  go_wp2
  go_loopw [5, 6, 7] (fun nv iv _ wr => ∃ (k f n : Nat), nv = .int .u64 n ∧ iv = .int .i64 k ∧ k + f = 10 ∧ Hid (takeB s = takeR s f k n) ∧ Hid (n < 2 ^ (7 * k)) ∧ wr = w) (fun _ iv _ _ => 10 - (intOf iv).toNat)
  case atStart => exact ⟨0, 10, 0, rfl, rfl, rfl, Lib.hid rfl, Lib.hid (by decide), rfl⟩
  case round =>
    obtain ⟨k, f, n, rfl, rfl, hkf, HR, HN, rfl⟩ := hrel
    have hk0 : (0 : Int) ≤ (k : Int) := Int.natCast_nonneg _
    cases f with
    | zero =>
      have d1 : decide ((k : Int) < 10) = false := decide_eq_false (by omega)
      have d2 : decide (k < 10) = false := decide_eq_false (by omega)
      have HT : Hid (takeB s = (0, 0, 4)) := HR
      clear hkf
      go_wp2
      refine bodyPost_ret (v := .tuple #[.int .u64 0, .int .i64 0, .int .i64 4]) ?_ rfl ?_
      · simp only [results, Tryd.f30]
        go_simp
      · exact ⟨by rw [HT.out]; rfl, Below.refl _ _⟩
    | succ f =>
      have d1 : decide ((k : Int) < 10) = true := decide_eq_true (by omega)
      have d2 : decide (k < 10) = true := decide_eq_true (by omega)
      have hk9 : k ≤ 9 := by omega
      have hstep := HR.out
      rw [takeR] at hstep
      by_cases hs1 : s.size ≤ k
      · rw [if_pos hs1] at hstep
        have HT := Lib.hid hstep
        have d3 : decide ((s.size : Int) ≤ (k : Int)) = true := decide_eq_true (by omega)
        have d4 : decide (s.size ≤ k) = true := decide_eq_true hs1
        clear hkf hstep hs1 HR
        go_wp2
        refine bodyPost_ret (v := .tuple #[.int .u64 0, .int .i64 0, .int .i64 1]) ?_ rfl ?_
        · simp only [results, Tryd.f30]
          go_simp
        · exact ⟨by rw [HT.out]; rfl, Below.refl _ _⟩
      · rw [if_neg hs1] at hstep
        have d3 : decide ((s.size : Int) ≤ (k : Int)) = false := decide_eq_false (by omega)
        have d4 : decide (s.size ≤ k) = false := decide_eq_false hs1
        have hlt : k < s.size := by omega
        have hlti : (k : Int) < (s.size : Int) := by omega
        obtain ⟨c, hc⟩ : ∃ c, c = byteAt s k := ⟨_, rfl⟩
        have hsc : (s[k].toNat : Int) = (c : Int) := by rw [hc, byteAt_eq s k hlt]
        have hc8 : c < 256 := by rw [hc]; exact byteAt_lt _ _
        rw [← hc] at hstep
        clear hc HR hs1
        by_cases h9 : k = 9 ∧ 1 < c
        · rw [if_pos h9] at hstep
          obtain ⟨rfl, hc1⟩ := h9
          have d5 : decide (1 < (c : Int)) = true := decide_eq_true (by omega)
          have d6 : decide (1 < c) = true := decide_eq_true hc1
          have HT := Lib.hid hstep
          clear hkf hstep hc1
          go_wp2
          refine bodyPost_ret (v := .tuple #[.int .u64 0, .int .i64 0, .int .i64 4]) ?_ rfl ?_
          · simp only [results, Tryd.f30]
            go_simp
          · exact ⟨by rw [HT.out]; rfl, Below.refl _ _⟩
        · rw [if_neg h9] at hstep
          have HST := Lib.hid hstep
          have H9 := Lib.hid h9
          have hw := group_wrap c k n hk9 HN.out (by intro h; have := H9.out; omega)
          obtain ⟨n', hn'⟩ : ∃ n', n' = n + c % 128 * 2 ^ (7 * k) := ⟨_, rfl⟩
          rw [← hn'] at hw
          have HN' := Lib.hid hn'
          have HC9 : Hid (k = 9 → c ≤ 1) := Lib.hid (by intro h; have := H9.out; omega)
          have HKF := Lib.hid hkf
          clear hkf hstep h9 hn'
          have hor : ((k : Int) == 9) = false ∨ decide (1 < (c : Int)) = false ∧ decide (1 < c) = false ∧ ((k : Int) == 9) = true := by
            by_cases h : k = 9
            · have := HC9.out h
              exact .inr ⟨decide_eq_false (by omega), decide_eq_false (by omega), beq_iff_eq.2 (by omega)⟩
            · exact .inl (beq_eq_false_iff_ne.2 (by omega))
          by_cases hc1 : c < 128
          · have d5 : decide ((c : Int) < 128) = true := decide_eq_true (by omega)
            have d6 : decide (c < 128) = true := decide_eq_true hc1
            have hst2 := HST.out
            rw [if_pos hc1] at hst2
            by_cases hz : c = 0 ∧ 0 < k
            · rw [if_pos hz] at hst2
              have e1 : ((c : Int) == 0) = true := beq_iff_eq.2 (by omega)
              have e2 : decide (0 < (k : Int)) = true := decide_eq_true (by omega)
              have e3 : decide (0 < k) = true := decide_eq_true hz.2
              have HT := Lib.hid hst2
              clear hst2 hz hc1
              rcases hor with q1 | ⟨q1, q2, q3⟩
              all_goals
                go_wp2
                refine bodyPost_ret (v := .tuple #[.int .u64 0, .int .i64 0, .int .i64 2]) ?_ rfl ?_
                · simp only [results, Tryd.f30]
                  go_simp
                · exact ⟨by rw [HT.out]; rfl, Below.refl _ _⟩
            · rw [if_neg hz] at hst2
              have HT := Lib.hid hst2
              have hz2 : ((c : Int) == 0) = false ∨ ((c : Int) == 0) = true ∧ decide (0 < (k : Int)) = false ∧ decide (0 < k) = false := by
                by_cases h : c = 0
                · exact .inr ⟨beq_iff_eq.2 (by omega), decide_eq_false (by omega), decide_eq_false (by omega)⟩
                · exact .inl (beq_eq_false_iff_ne.2 (by omega))
              clear hst2 hz hc1
              rcases hor with q1 | ⟨q1, q2, q3⟩ <;> rcases hz2 with e1 | ⟨e1, e2, e3⟩
              all_goals
                go_wp2
                refine bodyPost_ret (v := .tuple #[.int .u64 (n' : Nat), .int .i64 ((k : Int) + 1), .int .i64 0]) ?_ rfl ?_
                · simp only [results, Tryd.f30]
                  go_simp
                · exact ⟨by rw [HT.out, ← HN'.out]; rfl, Below.refl _ _⟩
          · have d5 : decide ((c : Int) < 128) = false := decide_eq_false (by omega)
            have d6 : decide (c < 128) = false := decide_eq_false hc1
            have hst2 := HST.out
            rw [if_neg hc1, ← HN'.out] at hst2
            have hk8 : k ≤ 8 := by
              rcases Nat.lt_or_ge k 9 with h | h
              · omega
              · have := HC9.out (by omega); omega
            have hnl : n' < 2 ^ (7 * (k + 1)) := by rw [HN'.out]; exact group_lt c k n hk8 HN.out
            have HT := Lib.hid hst2
            have HNL := Lib.hid hnl
            have q1 : ((k : Int) == 9) = false := beq_eq_false_iff_ne.2 (by omega)
            clear hst2 hnl hc1 hor
            go_wp2
            go_roundw
            case rel => exact ⟨k + 1, f, n', rfl, by go_num, by have := HKF.out; omega, HT, HNL, trivial⟩
            case measure => simp [intOf]; omega
end Go.Proofs.YthlajcohbpjgkaaDoor
