/-
  BloomBytes: the walk.
-/
import Derived.Test.YtingloamfpibaaaBRead
namespace Go.Proofs.Ytingloamfpibaaa
open Go.RowKit Go.Proofs.Mem
set_option linter.unusedVariables false

theorem keep2 {W W' : World} {A B : Nat} {ai ah bi bh : Int} {a b : ByteArray} (HP : Hid (Blo W A ai ah a ∧ Blo W B bi bh b)) (h : Hid (Below W.heap.size W W')) :
    W'.cell? ⟨A, 0, none⟩ = some (.int .i64 ai) ∧ W'.cell? ⟨A, 1, none⟩ = some (.int .i64 ah) ∧ W'.cell? ⟨A, 2, none⟩ = some (.string a) ∧
    W'.cell? ⟨B, 0, none⟩ = some (.int .i64 bi) ∧ W'.cell? ⟨B, 1, none⟩ = some (.int .i64 bh) ∧ W'.cell? ⟨B, 2, none⟩ = some (.string b) ∧ Hid (Below W.heap.size W W') := by
  obtain ⟨h1, h2⟩ := HP.out
  obtain ⟨a0, a1, a2⟩ := h1.kept h.out
  obtain ⟨b0, b1, b2⟩ := h2.kept h.out
  exact ⟨a0, a1, a2, b0, b1, b2, h⟩

set_option maxRecDepth 100000 in
set_option maxHeartbeats 2000000 in
theorem bytes_core (bi ha x1 x2 z1 z2 ec g : Int) (d s x3 z3 T : ByteArray) (w : World) (hb9 : Hid (bi ≤ 9223372036854775807)) (HX1S : Hid (x1 ≤ 9223372036854775807)) (HD : Hid (d.size ≤ 1000000)) (HS : Hid (s.size ≤ 1000000)) (HX3S : Hid (x3.size ≤ 1000000)) (HTS : Hid (T.size ≤ 1000000))
    (d1 : decide (9000 < (d.size : Int)) = false) (d2 : decide (9000 < d.size) = false) (d3 : decide (9000 < (s.size : Int)) = false) (d4 : decide (9000 < s.size) = false)
    (HR : Hid (readB s = (x1, x2, x3, ec))) (HT : Hid (writeB bi ha d = T)) (HZ : Hid (readB T = (z1, z2, z3, g)))
    (hE : (ec = 0 ∧ Hid (writeB x1 x2 x3 = s)) ∨ ec = 2) (hF : T = ⟨#[]⟩ ∨ (T.toList.isEmpty = false ∧ z1 = bi ∧ z2 = ha ∧ z3 = d ∧ g = 0)) :
    Calls Try.prog 5 #[.agg #[.int .i64 bi, .int .i64 ha, .string d], .string s] w fun e w' => e = .returned (.bool true) ∧ Below w.heap.size w w' := by
  rcases hE with ⟨rfl, HWR⟩ | rfl
  all_goals
    rcases hF with rfl | ⟨hne, e1, e2, e3, e4⟩
    rotate_left
    · subst e1 e2 e3 e4
      go_enter Try.func5, Try.ntmps5
      go_wp2_with (first
        | (go_at_call 24
           refine Calls.mono (bread_any _ _ (by first | exact HS.out | exact HTS.out)) ?_
           first
             | (rw [HR.out]
                rintro e w1 ⟨rfl, hB1⟩
                dsimp only [readV]
                have HA1 := Lib.hid ((Blo.kept hB1 (Blo.new w _ _ _ 23)).alloc (.cells #[.int .i64 x1, .int .i64 x2, .string x3] 23))
                have HX1 := Lib.hid (Blo.new w1 x1 x2 x3 23)
                have HW1 := Lib.hid (bel (bel ((Below.refl _ _).alloc (Nat.le_refl _) (.cells #[.int .i64 _, .int .i64 _, .string _] 23)) hB1) ((Below.refl _ _).alloc (Nat.le_refl _) (.cells #[.int .i64 x1, .int .i64 x2, .string x3] 23)))
                clear hB1)
             | (rw [HZ.out]
                rintro e w6 ⟨rfl, hB6⟩
                dsimp only [readV]
                first
                  | (have HA6 := Lib.hid ((HA5.out.kept hB6).alloc (.cells #[.int .i64 z1, .int .i64 z2, .string z3] 23))
                     have HW6 := Lib.hid (bel (bel HW5.out hB6) ((Below.refl _ _).alloc (Nat.le_refl _) (.cells #[.int .i64 z1, .int .i64 z2, .string z3] 23)))
                     clear hB6)
                  | (have HA6 := Lib.hid ((HA4.out.kept hB6).alloc (.cells #[.int .i64 z1, .int .i64 z2, .string z3] 23))
                     have HW6 := Lib.hid (bel (bel HW4.out hB6) ((Below.refl _ _).alloc (Nat.le_refl _) (.cells #[.int .i64 z1, .int .i64 z2, .string z3] 23)))
                     clear hB6 a0 a1 a2 x0 xh xd)
                obtain ⟨b0, b1, b2⟩ := HA6.out))
        | (go_at_call 7
           refine Calls.mono (awake_any _) ?_
           rintro e wk ⟨rfl, hBk⟩)
        | (go_at_call 25
           refine Calls.mono (rread_any s _ HS.out) ?_
           rw [HR.out]
           rintro e w2 ⟨rfl, hB2⟩
           dsimp only [readV]
           have HA2 := Lib.hid ((HA1.out.kept hB2).alloc (.cells #[.int .i64 x1, .int .i64 x2, .string x3] 23))
           have HX2 := Lib.hid ((HX1.out.kept hB2).alloc (.cells #[.int .i64 x1, .int .i64 x2, .string x3] 23))
           have HY2 := Lib.hid (Blo.new w2 x1 x2 x3 23)
           have HW2 := Lib.hid (bel (bel HW1.out hB2) ((Below.refl _ _).alloc (Nat.le_refl _) (.cells #[.int .i64 x1, .int .i64 x2, .string x3] 23)))
           obtain ⟨a0, a1, a2⟩ := HA1.out.kept hB2
           have la := (HA1.out.kept hB2).lt
           clear hB2)
        | (go_at_call 26
           refine Calls.mono (bwrite_any _ _ _ _ (by first | exact HD.out | exact HX3S.out) (by first | exact hb9.out | exact HX1S.out)) ?_
           first
             | (rw [HT.out]
                rintro e w3 ⟨rfl, hB3⟩
                have HA3 := Lib.hid (HA2.out.kept hB3)
                have HX3 := Lib.hid (HX2.out.kept hB3)
                have HY3 := Lib.hid (HY2.out.kept hB3)
                have HW3 := Lib.hid (bel HW2.out hB3)
                clear hB3 a0 a1 a2 la
                obtain ⟨a0, a1, a2⟩ := HA3.out
                obtain ⟨x0, xh, xd⟩ := HX3.out
                obtain ⟨y0, yh, yd⟩ := HY3.out)
             | (rw [HWR.out]
                rintro e w5 ⟨rfl, hB5⟩
                have HA5 := Lib.hid (HA4.out.kept hB5)
                have HW5 := Lib.hid (bel HW4.out hB5)
                clear hB5 a0 a1 a2 x0 xh xd))
        | (go_at_call 27
           refine Calls.mono (rwrite_any _ _ _ _ HD.out hb9.out) ?_
           rw [HT.out]
           rintro e w4 ⟨rfl, hB4⟩
           have HA4 := Lib.hid (HA3.out.kept hB4)
           have HX4 := Lib.hid (HX3.out.kept hB4)
           have HW4 := Lib.hid (bel HW3.out hB4)
           clear hB4 a0 a1 a2 x0 xh xd y0 yh yd
           obtain ⟨a0, a1, a2⟩ := HA4.out
           obtain ⟨x0, xh, xd⟩ := HX4.out))
      go_ret
      exact ⟨rfl, bel HW6.out hBk⟩
    · skip
      go_enter Try.func5, Try.ntmps5
      go_wp2_with (first
        | (go_at_call 24
           refine Calls.mono (bread_any _ _ (by first | exact HS.out | exact HTS.out)) ?_
           first
             | (rw [HR.out]
                rintro e w1 ⟨rfl, hB1⟩
                dsimp only [readV]
                have HA1 := Lib.hid ((Blo.kept hB1 (Blo.new w _ _ _ 23)).alloc (.cells #[.int .i64 x1, .int .i64 x2, .string x3] 23))
                have HX1 := Lib.hid (Blo.new w1 x1 x2 x3 23)
                have HW1 := Lib.hid (bel (bel ((Below.refl _ _).alloc (Nat.le_refl _) (.cells #[.int .i64 _, .int .i64 _, .string _] 23)) hB1) ((Below.refl _ _).alloc (Nat.le_refl _) (.cells #[.int .i64 x1, .int .i64 x2, .string x3] 23)))
                clear hB1)
             | (rw [HZ.out]
                rintro e w6 ⟨rfl, hB6⟩
                dsimp only [readV]
                first
                  | (have HA6 := Lib.hid ((HA5.out.kept hB6).alloc (.cells #[.int .i64 z1, .int .i64 z2, .string z3] 23))
                     have HW6 := Lib.hid (bel (bel HW5.out hB6) ((Below.refl _ _).alloc (Nat.le_refl _) (.cells #[.int .i64 z1, .int .i64 z2, .string z3] 23)))
                     clear hB6)
                  | (have HA6 := Lib.hid ((HA4.out.kept hB6).alloc (.cells #[.int .i64 z1, .int .i64 z2, .string z3] 23))
                     have HW6 := Lib.hid (bel (bel HW4.out hB6) ((Below.refl _ _).alloc (Nat.le_refl _) (.cells #[.int .i64 z1, .int .i64 z2, .string z3] 23)))
                     clear hB6 a0 a1 a2 x0 xh xd)
                obtain ⟨b0, b1, b2⟩ := HA6.out))
        | (go_at_call 7
           refine Calls.mono (awake_any _) ?_
           rintro e wk ⟨rfl, hBk⟩)
        | (go_at_call 25
           refine Calls.mono (rread_any s _ HS.out) ?_
           rw [HR.out]
           rintro e w2 ⟨rfl, hB2⟩
           dsimp only [readV]
           have HA2 := Lib.hid ((HA1.out.kept hB2).alloc (.cells #[.int .i64 x1, .int .i64 x2, .string x3] 23))
           have HX2 := Lib.hid ((HX1.out.kept hB2).alloc (.cells #[.int .i64 x1, .int .i64 x2, .string x3] 23))
           have HY2 := Lib.hid (Blo.new w2 x1 x2 x3 23)
           have HW2 := Lib.hid (bel (bel HW1.out hB2) ((Below.refl _ _).alloc (Nat.le_refl _) (.cells #[.int .i64 x1, .int .i64 x2, .string x3] 23)))
           obtain ⟨a0, a1, a2⟩ := HA1.out.kept hB2
           have la := (HA1.out.kept hB2).lt
           clear hB2)
        | (go_at_call 26
           refine Calls.mono (bwrite_any _ _ _ _ (by first | exact HD.out | exact HX3S.out) (by first | exact hb9.out | exact HX1S.out)) ?_
           first
             | (rw [HT.out]
                rintro e w3 ⟨rfl, hB3⟩
                have HA3 := Lib.hid (HA2.out.kept hB3)
                have HX3 := Lib.hid (HX2.out.kept hB3)
                have HY3 := Lib.hid (HY2.out.kept hB3)
                have HW3 := Lib.hid (bel HW2.out hB3)
                clear hB3 a0 a1 a2 la
                obtain ⟨a0, a1, a2⟩ := HA3.out
                obtain ⟨x0, xh, xd⟩ := HX3.out
                obtain ⟨y0, yh, yd⟩ := HY3.out)
             | (rw [HWR.out]
                rintro e w5 ⟨rfl, hB5⟩
                have HA5 := Lib.hid (HA4.out.kept hB5)
                have HW5 := Lib.hid (bel HW4.out hB5)
                clear hB5 a0 a1 a2 x0 xh xd))
        | (go_at_call 27
           refine Calls.mono (rwrite_any _ _ _ _ HD.out hb9.out) ?_
           rw [HT.out]
           rintro e w4 ⟨rfl, hB4⟩
           have HA4 := Lib.hid (HA3.out.kept hB4)
           have HX4 := Lib.hid (HX3.out.kept hB4)
           have HW4 := Lib.hid (bel HW3.out hB4)
           clear hB4 a0 a1 a2 x0 xh xd y0 yh yd
           obtain ⟨a0, a1, a2⟩ := HA4.out
           obtain ⟨x0, xh, xd⟩ := HX4.out))
      go_ret
      exact ⟨rfl, bel HW6.out hBk⟩

theorem readB_parts {s : ByteArray} {x1 x2 : Int} {x3 : ByteArray} {ec : Int} (h : readB s = (x1, x2, x3, ec)) (hs : s.size ≤ 1000000) : (ec = 0 ∨ ec = 2) ∧ x3.size ≤ 1000000 ∧ x1 ≤ 9223372036854775807 := by
  unfold readB at h
  dsimp only at h
  split at h
  · rename_i hc
    simp only [Prod.mk.injEq] at h
    obtain ⟨h1, h2, h3, h4⟩ := h
    exact ⟨.inl h4.symm, by rw [← h3, ByteArray.size_extract]; omega, by have := hc.2.1; omega⟩
  · simp only [Prod.mk.injEq] at h
    obtain ⟨h1, h2, h3, h4⟩ := h
    exact ⟨.inr h4.symm, by rw [← h3]; exact Nat.zero_le _, by omega⟩
theorem writeB_size (bi ha : Int) (d : ByteArray) : (writeB bi ha d).size ≤ 22 + d.size := by
  unfold writeB
  split
  · have := putB_size bi.toNat
    have := putB_size ha.toNat
    simp only [ByteArray.size_append]
    omega
  · exact Nat.zero_le _
theorem writeB_ne {bi ha : Int} {d : ByteArray} (hf : fitB bi ha d = true) : (writeB bi ha d).toList.isEmpty = false := by
  obtain ⟨e, H, _, _, _, _, _, hd⟩ := fit_is hf
  have hp : 1 ≤ 2 ^ e := Nat.one_le_two_pow
  have : 0 < (writeB bi ha d).size := by
    unfold writeB
    rw [if_pos hf]
    simp only [ByteArray.size_append]
    omega
  rw [Lib.toList_data]
  cases hl : (writeB bi ha d).data.toList with
  | nil =>
    exfalso
    have h2 : (writeB bi ha d).data.toList.length = 0 := by rw [hl]; rfl
    rw [Array.length_toList] at h2
    have h3 : (writeB bi ha d).size = (writeB bi ha d).data.size := rfl
    omega
  | cons a l => rfl

theorem bytes_big (bi ha : Int) (d s : ByteArray) (w : World) (hd9 : d.size ≤ 9223372036854775807) (hs9 : s.size ≤ 9223372036854775807) (hbig : ¬ (d.size ≤ 9000 ∧ s.size ≤ 9000)) :
    Calls Try.prog 5 #[.agg #[.int .i64 bi, .int .i64 ha, .string d], .string s] w fun e w' => e = .returned (.bool true) ∧ Below w.heap.size w w' := by
  rcases Nat.lt_or_ge 9000 d.size with hd | hd
  · have d1 : decide (9000 < (d.size : Int)) = true := decide_eq_true (by omega)
    have d2 : decide (9000 < d.size) = true := decide_eq_true hd
    clear hbig hd
    go_enter Try.func5, Try.ntmps5
    go_wp2_with (first
      | (go_at_call 7
         refine Calls.mono (awake_any _) ?_
         rintro e wk ⟨rfl, hBk⟩))
    go_ret
    exact ⟨rfl, bel ((Below.refl _ _).alloc (Nat.le_refl _) _) hBk⟩
  · have d1 : decide (9000 < (d.size : Int)) = false := decide_eq_false (by omega)
    have d2 : decide (9000 < d.size) = false := decide_eq_false (by omega)
    have d3 : decide (9000 < (s.size : Int)) = true := decide_eq_true (by omega)
    have d4 : decide (9000 < s.size) = true := decide_eq_true (by omega)
    clear hbig hd
    go_enter Try.func5, Try.ntmps5
    go_wp2_with (first
      | (go_at_call 7
         refine Calls.mono (awake_any _) ?_
         rintro e wk ⟨rfl, hBk⟩))
    go_ret
    exact ⟨rfl, bel ((Below.refl _ _).alloc (Nat.le_refl _) _) hBk⟩

theorem bytes_walk (bi ha : Int) (d s : ByteArray) (w : World) (hb9 : bi ≤ 9223372036854775807) (hd9 : d.size ≤ 9223372036854775807) (hs9 : s.size ≤ 9223372036854775807) :
    Calls Try.prog 5 #[.agg #[.int .i64 bi, .int .i64 ha, .string d], .string s] w fun e w' => e = .returned (.bool true) ∧ Below w.heap.size w w' := by
  by_cases hbig : d.size ≤ 9000 ∧ s.size ≤ 9000
  · obtain ⟨hd, hs⟩ := hbig
    obtain ⟨⟨x1, x2, x3, ec⟩, hr⟩ : ∃ t, t = readB s := ⟨_, rfl⟩
    obtain ⟨⟨z1, z2, z3, g⟩, hz⟩ : ∃ t, t = readB (writeB bi ha d) := ⟨_, rfl⟩
    obtain ⟨hec, hx3, hx1⟩ := readB_parts hr.symm (by omega)
    have hw := writeB_size bi ha d
    refine bytes_core bi ha x1 x2 z1 z2 ec g d s x3 z3 (writeB bi ha d) w (Lib.hid hb9) (Lib.hid hx1) (Lib.hid (by omega)) (Lib.hid (by omega)) (Lib.hid hx3) (Lib.hid (by omega))
      (decide_eq_false (by omega)) (decide_eq_false (by omega)) (decide_eq_false (by omega)) (decide_eq_false (by omega)) (Lib.hid hr.symm) (Lib.hid rfl) (Lib.hid hz.symm) ?_ ?_
    · rcases hec with h0 | h2
      · refine .inl ⟨h0, Lib.hid ?_⟩
        have h := write_read s (by rw [← hr]; exact h0)
        rw [← hr] at h
        exact h
      · exact .inr h2
    · rcases Bool.eq_false_or_eq_true (fitB bi ha d) with hf | hf
      · right
        rw [read_write bi ha d hf] at hz
        simp only [Prod.mk.injEq] at hz
        exact ⟨writeB_ne hf, hz.1, hz.2.1, hz.2.2.1, hz.2.2.2⟩
      · left
        unfold writeB
        rw [if_neg (by rw [hf]; decide)]
  · exact bytes_big bi ha d s w hd9 hs9 hbig
end Go.Proofs.Ytingloamfpibaaa
