/-
  Which slots can be an index: both packages.
-/
import Derived.Test.YtjjenpklcbpkmaaISlt
import Derived.Deep.QuietTactic
import Derived.Deep.RegionWith
import Derived.BigQuiet
namespace Go.Proofs.Ytjjenpklcbpkmaa
open Go.RowKit Go.Proofs.Mem
set_option linter.unusedVariables false

def numP (n : Int) : Prop := 0 ≤ n ∧ n ≤ 2147483647
instance (n : Int) : Decidable (numP n) := by unfold numP; infer_instance

theorem fits_any (n : Int) (w : World) : Calls Try.prog 48 #[.int .i64 n] w fun e w' => e = .returned (.bool (decide (numP n))) ∧ w' = w := by
  unfold numP
  by_cases h0 : 0 ≤ n
  · by_cases h1 : n ≤ 2147483647
    · rw [decide_eq_true (show 0 ≤ n ∧ n ≤ 2147483647 from ⟨h0, h1⟩)]
      go_enter Try.func48, Try.ntmps48
      go_wp2
      go_ret
      exact ⟨rfl, rfl⟩
    · rw [decide_eq_false (show ¬ (0 ≤ n ∧ n ≤ 2147483647) from fun h => h1 h.2)]
      have hd : decide (n ≤ 2147483647) = false := decide_eq_false h1
      go_enter Try.func48, Try.ntmps48
      go_wp2
      go_ret
      exact ⟨rfl, rfl⟩
  · rw [decide_eq_false (show ¬ (0 ≤ n ∧ n ≤ 2147483647) from fun h => h0 h.1)]
    have hd : decide (0 ≤ n) = false := decide_eq_false h0
    go_enter Try.func48, Try.ntmps48
    go_wp2
    go_ret
    exact ⟨rfl, rfl⟩

/-- Below, byte by byte. -/
def ltB (a b : ByteArray) : Bool := Op.bytesLess a.toList b.toList
/-- What stands at a place fits, and is above what stands ahead. -/
def fitAt (l : List Slt) (i : Nat) : Bool :=
  match l[i]? with
  | none => false
  | some x => decide (x.k.size = 32) && (decide (i = 0) || (match l[i - 1]? with | some p => ltB p.k x.k | none => false)) && decide (numP x.a) && decide (numP x.s)
def fitL (l : List Slt) : Bool := (List.range l.length).all (fitAt l)
def fitP (l : List Slt) : Bool := decide (l.length ≤ 4096) && fitL l
theorem fitL_not {l : List Slt} {k : Nat} (hk : k < l.length) (h : fitAt l k = false) : fitP l = false := by
  unfold fitP fitL
  have : (List.range l.length).all (fitAt l) = false := by
    rw [List.all_eq_false]
    exact ⟨k, List.mem_range.2 hk, by simp [h]⟩
  rw [this, Bool.and_false]
theorem fit_range {l : List Slt} {k : Nat} (h : (List.range k).all (fitAt l) = true) (hk : fitAt l k = true) : (List.range (k + 1)).all (fitAt l) = true := by
  rw [List.range_succ, List.all_append, h]
  simp [hk]

set_option maxHeartbeats 4000000 in
theorem fit_any (v : Value) (l : List Slt) (w : World) (h : Slots w w.heap.size v l) (hz : ∀ x ∈ l, x.k.size ≤ 9223372036854775807) :
    Calls Try.prog 28 #[v] w fun e w' => e = .returned (.bool (fitP l)) ∧ Below w.heap.size w w' := by
  obtain ⟨A, c, rfl, hc1, hc2, hR⟩ := h
  have hl : l.length ≤ 9223372036854775807 := by unfold maxLen at hc2; omega
  have HR := Lib.hid hR
  have HZ := Lib.hid hz
  clear hR hz hc1 hc2
  obtain ⟨r, hr⟩ : ∃ r, r = fitP l := ⟨_, rfl⟩
  rw [← hr]
  have HRR := Lib.hid hr
  clear hr
  go_enter Try.func28, Try.ntmps28
  go_wp2_with fail
  go_loopw [3, 4, 7] (fun _ _ i wr => ∃ k : Nat, i = .int .i64 k ∧ k ≤ l.length ∧ Hid ((List.range k).all (fitAt l) = true) ∧ Hid (Below w.heap.size w wr)) (fun _ _ i _ => l.length + 1 - (intOf i).toNat)
  case atStart => exact ⟨0, rfl, Nat.zero_le _, Lib.hid rfl, Lib.hid (Below.refl _ _)⟩
  case round =>
    obtain ⟨k, rfl, hk, hE, hB⟩ := hrel
    by_cases hlt : k < l.length
    · obtain ⟨x, hx⟩ : ∃ x, l[k]? = some x := ⟨l[k], List.getElem?_eq_getElem hlt⟩
      obtain ⟨b, o, rfl, hb, q0, q1, q2⟩ := row_slot HR.out hx
      have p0 := (hB.out.cell (p := ⟨b, o + k * 3, none⟩) hb).trans q0
      have p1 := (hB.out.cell (p := ⟨b, o + k * 3 + 1, none⟩) hb).trans q1
      have p2 := (hB.out.cell (p := ⟨b, o + k * 3 + 2, none⟩) hb).trans q2
      have hxz := HZ.out x (List.mem_of_getElem? hx)
      have i1 : (k : Int) < (l.length : Int) := by omega
      have i0 : (0 : Int) ≤ (k : Int) := by omega
      have HX := Lib.hid hx
      have hlb : b < wr.heap.size := Nat.lt_of_lt_of_le hb hB.out.size
      clear q0 q1 q2 hx
      by_cases hs : x.k.size = 32
      case neg =>
        have hs' : ((x.k.size : Int) != 32) = true := by simp; omega
        go_wp2_with fail
        go_quiet (fail)
        go_wp2_with fail
        go_ret
        refine ⟨?_, bel hB.out (by go_grown; all_goals (refine below_drewN ?_ _; go_grown))⟩
        rw [HRR.out, fitL_not hlt (by simp [fitAt, HX.out, hs])]; rfl
      have hs' : ((x.k.size : Int) != 32) = false := by simp; omega
      have hs0 := Lib.hid hs
      clear hs
      rcases Nat.eq_zero_or_pos k with rfl | hk0
      case inl =>
        simp only [Nat.zero_mul, Nat.add_zero] at p0 p1 p2
        by_cases ha : numP x.a
        case neg =>
          have HA := Lib.hid ha
          clear ha
          go_wp2_with fail
          (go_quiet (first
            | (go_at_call_of 48 (Value.int .i64 x.a); refine (fits_any _ _).mono ?_; rintro e w' ⟨rfl, rfl⟩; first | exact ⟨by rw [decide_eq_true HA.out], _, rfl⟩ | exact ⟨by rw [decide_eq_false HA.out], _, rfl⟩)
            | (go_at_call_of 48 (Value.int .i64 x.s); refine (fits_any _ _).mono ?_; rintro e w' ⟨rfl, rfl⟩; first | exact ⟨by rw [decide_eq_true HS.out], _, rfl⟩ | exact ⟨by rw [decide_eq_false HS.out], _, rfl⟩)))
          go_wp2_with fail
          go_ret
          refine ⟨?_, bel hB.out (by go_grown; all_goals (refine below_drewN ?_ _; go_grown))⟩
          rw [HRR.out, fitL_not hlt (by simp [fitAt, HX.out, hs0.out, HA.out])]; rfl
        by_cases hn : numP x.s
        case neg =>
          have HA := Lib.hid ha
          have HS := Lib.hid hn
          clear ha hn
          go_wp2_with fail
          (go_quiet (first
            | (go_at_call_of 48 (Value.int .i64 x.a); refine (fits_any _ _).mono ?_; rintro e w' ⟨rfl, rfl⟩; first | exact ⟨by rw [decide_eq_true HA.out], _, rfl⟩ | exact ⟨by rw [decide_eq_false HA.out], _, rfl⟩)
            | (go_at_call_of 48 (Value.int .i64 x.s); refine (fits_any _ _).mono ?_; rintro e w' ⟨rfl, rfl⟩; first | exact ⟨by rw [decide_eq_true HS.out], _, rfl⟩ | exact ⟨by rw [decide_eq_false HS.out], _, rfl⟩)))
          go_wp2_with fail
          go_ret
          refine ⟨?_, bel hB.out (by go_grown; all_goals (refine below_drewN ?_ _; go_grown))⟩
          rw [HRR.out, fitL_not hlt (by simp [fitAt, HX.out, hs0.out, HA.out, HS.out])]; rfl
        have HA := Lib.hid ha
        have HS := Lib.hid hn
        clear ha hn
        go_wp2_with fail
        (go_quiet (first
            | (go_at_call_of 48 (Value.int .i64 x.a); refine (fits_any _ _).mono ?_; rintro e w' ⟨rfl, rfl⟩; first | exact ⟨by rw [decide_eq_true HA.out], _, rfl⟩ | exact ⟨by rw [decide_eq_false HA.out], _, rfl⟩)
            | (go_at_call_of 48 (Value.int .i64 x.s); refine (fits_any _ _).mono ?_; rintro e w' ⟨rfl, rfl⟩; first | exact ⟨by rw [decide_eq_true HS.out], _, rfl⟩ | exact ⟨by rw [decide_eq_false HS.out], _, rfl⟩)))
        go_wp2_with fail
        go_roundw
        case rel => exact ⟨_, by go_num, by omega, Lib.hid (fit_range hE.out (by simp [fitAt, HX.out, hs0.out, HA.out, HS.out])), Lib.hid (bel hB.out (by go_grown; all_goals (refine below_drewN ?_ _; go_grown)))⟩
        case measure => first | (simp [intOf]; done) | (simp [intOf]; omega)
      case inr =>
        obtain ⟨j, hj⟩ : ∃ j, k - 1 = j := ⟨_, rfl⟩
        obtain ⟨p, hp⟩ : ∃ p, l[j]? = some p := ⟨l[j], List.getElem?_eq_getElem (by omega)⟩
        obtain ⟨b1, o1, e1, _, r0, _, _⟩ := row_slot HR.out hp
        obtain ⟨rfl, rfl⟩ : b = b1 ∧ o = o1 := by simpa using e1
        have s0 := (hB.out.cell (p := ⟨b, o + j * 3, none⟩) hb).trans r0
        have HP := Lib.hid hp
        have HSI : (k : Int) - 1 = (j : Int) := by omega
        have hj1 : (j : Int) < (l.length : Int) := by omega
        have hj0 : (0 : Int) ≤ (j : Int) := by omega
        have hk1 : (0 : Int) < (k : Int) := by omega
        have HJ := Lib.hid hj
        have HK0 := Lib.hid (Nat.ne_of_gt hk0)
        clear hp r0 e1 hj
        rcases Bool.eq_false_or_eq_true (Op.bytesLess p.k.toList x.k.toList) with hy | hy
        case inr =>
          go_wp2_with fail
          go_quiet (fail)
          go_wp2_with fail
          go_ret
          refine ⟨?_, bel hB.out (by go_grown; all_goals (refine below_drewN ?_ _; go_grown))⟩
          rw [HRR.out, fitL_not hlt (by simp [fitAt, HX.out, hs0.out, HK0.out, HJ.out, HP.out, ltB, hy])]; rfl
        by_cases ha : numP x.a
        case neg =>
          have HA := Lib.hid ha
          clear ha
          go_wp2_with fail
          (go_quiet (first
            | (go_at_call_of 48 (Value.int .i64 x.a); refine (fits_any _ _).mono ?_; rintro e w' ⟨rfl, rfl⟩; first | exact ⟨by rw [decide_eq_true HA.out], _, rfl⟩ | exact ⟨by rw [decide_eq_false HA.out], _, rfl⟩)
            | (go_at_call_of 48 (Value.int .i64 x.s); refine (fits_any _ _).mono ?_; rintro e w' ⟨rfl, rfl⟩; first | exact ⟨by rw [decide_eq_true HS.out], _, rfl⟩ | exact ⟨by rw [decide_eq_false HS.out], _, rfl⟩)))
          go_wp2_with fail
          go_ret
          refine ⟨?_, bel hB.out (by go_grown; all_goals (refine below_drewN ?_ _; go_grown))⟩
          rw [HRR.out, fitL_not hlt (by simp [fitAt, HX.out, hs0.out, HK0.out, HJ.out, HP.out, ltB, hy, HA.out])]; rfl
        by_cases hn : numP x.s
        case neg =>
          have HA := Lib.hid ha
          have HS := Lib.hid hn
          clear ha hn
          go_wp2_with fail
          (go_quiet (first
            | (go_at_call_of 48 (Value.int .i64 x.a); refine (fits_any _ _).mono ?_; rintro e w' ⟨rfl, rfl⟩; first | exact ⟨by rw [decide_eq_true HA.out], _, rfl⟩ | exact ⟨by rw [decide_eq_false HA.out], _, rfl⟩)
            | (go_at_call_of 48 (Value.int .i64 x.s); refine (fits_any _ _).mono ?_; rintro e w' ⟨rfl, rfl⟩; first | exact ⟨by rw [decide_eq_true HS.out], _, rfl⟩ | exact ⟨by rw [decide_eq_false HS.out], _, rfl⟩)))
          go_wp2_with fail
          go_ret
          refine ⟨?_, bel hB.out (by go_grown; all_goals (refine below_drewN ?_ _; go_grown))⟩
          rw [HRR.out, fitL_not hlt (by simp [fitAt, HX.out, hs0.out, HK0.out, HJ.out, HP.out, ltB, hy, HA.out, HS.out])]; rfl
        have HA := Lib.hid ha
        have HS := Lib.hid hn
        clear ha hn
        go_wp2_with fail
        (go_quiet (first
            | (go_at_call_of 48 (Value.int .i64 x.a); refine (fits_any _ _).mono ?_; rintro e w' ⟨rfl, rfl⟩; first | exact ⟨by rw [decide_eq_true HA.out], _, rfl⟩ | exact ⟨by rw [decide_eq_false HA.out], _, rfl⟩)
            | (go_at_call_of 48 (Value.int .i64 x.s); refine (fits_any _ _).mono ?_; rintro e w' ⟨rfl, rfl⟩; first | exact ⟨by rw [decide_eq_true HS.out], _, rfl⟩ | exact ⟨by rw [decide_eq_false HS.out], _, rfl⟩)))
        go_wp2_with fail
        go_roundw
        case rel => exact ⟨_, by go_num, by omega, Lib.hid (fit_range hE.out (by simp [fitAt, HX.out, hs0.out, HK0.out, HJ.out, HP.out, ltB, hy, HA.out, HS.out])), Lib.hid (bel hB.out (by go_grown; all_goals (refine below_drewN ?_ _; go_grown)))⟩
        case measure => simp [intOf]; omega
    · obtain rfl : k = l.length := by omega
      go_wp2_with fail
      go_ret
      refine ⟨?_, hB.out⟩
      rw [HRR.out]
      unfold fitP fitL
      rw [hE.out, Bool.and_true]
      have : decide ((l.length : Int) ≤ 4096) = decide (l.length ≤ 4096) := by rw [decide_eq_decide]; omega
      rw [← this]
      rfl

end Go.Proofs.Ytjjenpklcbpkmaa
