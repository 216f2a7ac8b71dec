/-
  Which slots can be an index: the document's package (printed by genrfit.py).
-/
import Derived.Test.YtjjenpklcbpkmaaIFit
namespace Go.Proofs.Ytjjenpklcbpkmaa
open Go.RowKit Go.Proofs.Mem
set_option linter.unusedVariables false

set_option maxHeartbeats 4000000 in
theorem rfit_any (v : Value) (l : List Slt) (w : World) (h : Slots w w.heap.size v l) (hz : ∀ x ∈ l, x.k.size ≤ 9223372036854775807) :
    Calls Try.prog 22 #[v] w fun e w' => e = .returned (.bool (fitP l)) ∧ Below w.heap.size w w' := by
  obtain ⟨A, c, rfl, hc1, hc2, hR⟩ := h
  have hl : l.length ≤ 9223372036854775807 := by unfold maxLen at hc2; omega
  have HR := Lib.hid hR
  have HZ := Lib.hid hz
  clear hR hz hc1 hc2
  obtain ⟨r, hr⟩ : ∃ r, r = fitP l := ⟨_, rfl⟩
  rw [← hr]
  have HRR := Lib.hid hr
  clear hr
  by_cases h4 : l.length ≤ 4096
  case neg =>
    go_enter Try.func22, Try.ntmps22
    go_wp2_with fail
    go_ret
    refine ⟨?_, Below.refl _ _⟩
    rw [HRR.out]
    unfold fitP
    rw [decide_eq_false h4]
    rfl
  have H4 := Lib.hid h4
  go_enter Try.func22, Try.ntmps22
  go_wp2_with fail
  clear h4
  go_loopw [3, 4] (fun i _ wr => ∃ k : Nat, i = .int .i64 k ∧ k ≤ l.length ∧ Hid ((List.range k).all (fitAt l) = true) ∧ Hid (Below w.heap.size w wr)) (fun i _ _ => l.length + 1 - (intOf i).toNat)
  case atStart => exact ⟨0, rfl, Nat.zero_le _, Lib.hid rfl, Lib.hid (Below.refl _ _)⟩
  case round =>
    obtain ⟨k, rfl, hk, hE, hB⟩ := hrel
    by_cases hlt : k < l.length
    · obtain ⟨x, hx⟩ : ∃ x, l[k]? = some x := ⟨l[k], List.getElem?_eq_getElem hlt⟩
      obtain ⟨b, o, rfl, hb, q0, q1, q2⟩ := row_slot HR.out hx
      have p0 := (hB.out.cell (p := ⟨b, o + k * 3, none⟩) hb).trans q0
      have p1 := (hB.out.cell (p := ⟨b, o + k * 3 + 1, none⟩) hb).trans q1
      have p2 := (hB.out.cell (p := ⟨b, o + k * 3 + 2, none⟩) hb).trans q2
      have hxz := HZ.out x (List.mem_of_getElem? hx)
      have i1 : (k : Int) < (l.length : Int) := by omega
      have i0 : (0 : Int) ≤ (k : Int) := by omega
      have HX := Lib.hid hx
      have hlb : b < wr.heap.size := Nat.lt_of_lt_of_le hb hB.out.size
      clear q0 q1 q2 hx
      by_cases hs : x.k.size = 32
      case neg =>
        have hs' : ((x.k.size : Int) != 32) = true := by simp; omega
        go_wp2_with fail
        go_quiet (fail)
        go_wp2_with fail
        go_ret
        refine ⟨?_, bel hB.out (by go_grown; all_goals (refine below_drewN ?_ _; go_grown))⟩
        rw [HRR.out, fitL_not hlt (by simp [fitAt, HX.out, hs])]; rfl
      have hs' : ((x.k.size : Int) != 32) = false := by simp; omega
      have hs0 := Lib.hid hs
      clear hs
      rcases Nat.eq_zero_or_pos k with rfl | hk0
      case inl =>
        simp only [Nat.zero_mul, Nat.add_zero] at p0 p1 p2
        by_cases ca0 : x.a < 0
        case pos =>
          have HC := Lib.hid (show ¬ numP x.a by unfold numP; omega)
          have da0 : (x.a < 0) = True := eq_true ca0
          go_wp2_with fail
          go_quiet (fail)
          go_wp2_with fail
          go_ret
          refine ⟨?_, bel hB.out (by go_grown; all_goals (refine below_drewN ?_ _; go_grown))⟩
          rw [HRR.out, fitL_not hlt (by simp [fitAt, HX.out, hs0.out, HC.out])]; rfl
        have da0 : (x.a < 0) = False := eq_false ca0
        by_cases ca1 : 2147483647 < x.a
        case pos =>
          have HC := Lib.hid (show ¬ numP x.a by unfold numP; omega)
          have da1 : (2147483647 < x.a) = True := eq_true ca1
          go_wp2_with fail
          go_quiet (fail)
          go_wp2_with fail
          go_ret
          refine ⟨?_, bel hB.out (by go_grown; all_goals (refine below_drewN ?_ _; go_grown))⟩
          rw [HRR.out, fitL_not hlt (by simp [fitAt, HX.out, hs0.out, HC.out])]; rfl
        have da1 : (2147483647 < x.a) = False := eq_false ca1
        have HA := Lib.hid (show numP x.a by unfold numP; omega)
        by_cases cs0 : x.s < 0
        case pos =>
          have HC := Lib.hid (show ¬ numP x.s by unfold numP; omega)
          have ds0 : (x.s < 0) = True := eq_true cs0
          go_wp2_with fail
          go_quiet (fail)
          go_wp2_with fail
          go_ret
          refine ⟨?_, bel hB.out (by go_grown; all_goals (refine below_drewN ?_ _; go_grown))⟩
          rw [HRR.out, fitL_not hlt (by simp [fitAt, HX.out, hs0.out, HA.out, HC.out])]; rfl
        have ds0 : (x.s < 0) = False := eq_false cs0
        by_cases cs1 : 2147483647 < x.s
        case pos =>
          have HC := Lib.hid (show ¬ numP x.s by unfold numP; omega)
          have ds1 : (2147483647 < x.s) = True := eq_true cs1
          go_wp2_with fail
          go_quiet (fail)
          go_wp2_with fail
          go_ret
          refine ⟨?_, bel hB.out (by go_grown; all_goals (refine below_drewN ?_ _; go_grown))⟩
          rw [HRR.out, fitL_not hlt (by simp [fitAt, HX.out, hs0.out, HA.out, HC.out])]; rfl
        have ds1 : (2147483647 < x.s) = False := eq_false cs1
        have HS := Lib.hid (show numP x.s by unfold numP; omega)
        go_wp2_with fail
        go_quiet (fail)
        go_wp2_with fail
        go_roundw
        case rel => exact ⟨_, by go_num, by omega, Lib.hid (fit_range hE.out (by simp [fitAt, HX.out, hs0.out, HA.out, HS.out])), Lib.hid (bel hB.out (by go_grown; all_goals (refine below_drewN ?_ _; go_grown)))⟩
        case measure => first | (simp [intOf]; done) | (simp [intOf]; omega)
      case inr =>
        obtain ⟨j, hj⟩ : ∃ j, k - 1 = j := ⟨_, rfl⟩
        obtain ⟨p, hp⟩ : ∃ p, l[j]? = some p := ⟨l[j], List.getElem?_eq_getElem (by omega)⟩
        obtain ⟨b1, o1, e1, _, r0, _, _⟩ := row_slot HR.out hp
        obtain ⟨rfl, rfl⟩ : b = b1 ∧ o = o1 := by simpa using e1
        have s0 := (hB.out.cell (p := ⟨b, o + j * 3, none⟩) hb).trans r0
        have HP := Lib.hid hp
        have HSI : (k : Int) - 1 = (j : Int) := by omega
        have hj1 : (j : Int) < (l.length : Int) := by omega
        have hj0 : (0 : Int) ≤ (j : Int) := by omega
        have hk1 : (0 : Int) < (k : Int) := by omega
        have HJ := Lib.hid hj
        have HK0 := Lib.hid (Nat.ne_of_gt hk0)
        clear hp r0 e1 hj
        rcases Bool.eq_false_or_eq_true (Op.bytesLess p.k.toList x.k.toList) with hy | hy
        case inr =>
          go_wp2_with fail
          go_quiet (fail)
          go_wp2_with fail
          go_ret
          refine ⟨?_, bel hB.out (by go_grown; all_goals (refine below_drewN ?_ _; go_grown))⟩
          rw [HRR.out, fitL_not hlt (by simp [fitAt, HX.out, hs0.out, HK0.out, HJ.out, HP.out, ltB, hy])]; rfl
        by_cases ca0 : x.a < 0
        case pos =>
          have HC := Lib.hid (show ¬ numP x.a by unfold numP; omega)
          have da0 : (x.a < 0) = True := eq_true ca0
          go_wp2_with fail
          go_quiet (fail)
          go_wp2_with fail
          go_ret
          refine ⟨?_, bel hB.out (by go_grown; all_goals (refine below_drewN ?_ _; go_grown))⟩
          rw [HRR.out, fitL_not hlt (by simp [fitAt, HX.out, hs0.out, HK0.out, HJ.out, HP.out, ltB, hy, HC.out])]; rfl
        have da0 : (x.a < 0) = False := eq_false ca0
        by_cases ca1 : 2147483647 < x.a
        case pos =>
          have HC := Lib.hid (show ¬ numP x.a by unfold numP; omega)
          have da1 : (2147483647 < x.a) = True := eq_true ca1
          go_wp2_with fail
          go_quiet (fail)
          go_wp2_with fail
          go_ret
          refine ⟨?_, bel hB.out (by go_grown; all_goals (refine below_drewN ?_ _; go_grown))⟩
          rw [HRR.out, fitL_not hlt (by simp [fitAt, HX.out, hs0.out, HK0.out, HJ.out, HP.out, ltB, hy, HC.out])]; rfl
        have da1 : (2147483647 < x.a) = False := eq_false ca1
        have HA := Lib.hid (show numP x.a by unfold numP; omega)
        by_cases cs0 : x.s < 0
        case pos =>
          have HC := Lib.hid (show ¬ numP x.s by unfold numP; omega)
          have ds0 : (x.s < 0) = True := eq_true cs0
          go_wp2_with fail
          go_quiet (fail)
          go_wp2_with fail
          go_ret
          refine ⟨?_, bel hB.out (by go_grown; all_goals (refine below_drewN ?_ _; go_grown))⟩
          rw [HRR.out, fitL_not hlt (by simp [fitAt, HX.out, hs0.out, HK0.out, HJ.out, HP.out, ltB, hy, HA.out, HC.out])]; rfl
        have ds0 : (x.s < 0) = False := eq_false cs0
        by_cases cs1 : 2147483647 < x.s
        case pos =>
          have HC := Lib.hid (show ¬ numP x.s by unfold numP; omega)
          have ds1 : (2147483647 < x.s) = True := eq_true cs1
          go_wp2_with fail
          go_quiet (fail)
          go_wp2_with fail
          go_ret
          refine ⟨?_, bel hB.out (by go_grown; all_goals (refine below_drewN ?_ _; go_grown))⟩
          rw [HRR.out, fitL_not hlt (by simp [fitAt, HX.out, hs0.out, HK0.out, HJ.out, HP.out, ltB, hy, HA.out, HC.out])]; rfl
        have ds1 : (2147483647 < x.s) = False := eq_false cs1
        have HS := Lib.hid (show numP x.s by unfold numP; omega)
        go_wp2_with fail
        go_quiet (fail)
        go_wp2_with fail
        go_roundw
        case rel => exact ⟨_, by go_num, by omega, Lib.hid (fit_range hE.out (by simp [fitAt, HX.out, hs0.out, HK0.out, HJ.out, HP.out, ltB, hy, HA.out, HS.out])), Lib.hid (bel hB.out (by go_grown; all_goals (refine below_drewN ?_ _; go_grown)))⟩
        case measure => first | (simp [intOf]; done) | (simp [intOf]; omega)
    · obtain rfl : k = l.length := by omega
      go_wp2_with fail
      go_ret
      refine ⟨?_, hB.out⟩
      rw [HRR.out]
      unfold fitP fitL
      rw [hE.out, decide_eq_true H4.out]
      rfl

end Go.Proofs.Ytjjenpklcbpkmaa
