/-
  The same slots; chapter 37's examples.
-/
import Derived.Test.YtjjenpklcbpkmaaIRRd
namespace Go.Proofs.Ytjjenpklcbpkmaa
open Go.RowKit Go.Proofs.Mem
set_option linter.unusedVariables false

def eqS (x y : Slt) : Bool := decide (x.k = y.k) && decide (x.a = y.a) && decide (x.s = y.s)
theorem eqS_iff {x y : Slt} : eqS x y = true ↔ x = y := by
  cases x; cases y
  unfold eqS
  simp [and_assoc]
instance : DecidableEq Slt := fun x y => decidable_of_iff (eqS x y = true) eqS_iff
theorem take_same {a b : List Slt} {k : Nat} {x : Slt} (h : a.take k = b.take k) (ha : a[k]? = some x) (hb : b[k]? = some x) : a.take (k + 1) = b.take (k + 1) := by
  rw [List.take_add_one, List.take_add_one, h, ha, hb]

set_option maxHeartbeats 1000000 in
theorem sames_any (u v : Value) (a b : List Slt) (w : World) (ha : Slots w w.heap.size u a) (hb : Slots w w.heap.size v b) :
    Calls Try.prog 36 #[u, v] w fun e w' => e = .returned (.bool (decide (a = b))) ∧ Below w.heap.size w w' := by
  obtain ⟨A1, c1, rfl, hc1, hm1, hR1⟩ := ha
  obtain ⟨A2, c2, rfl, hc2, hm2, hR2⟩ := hb
  have hl1 : a.length ≤ 9223372036854775807 := by unfold maxLen at hm1; omega
  have hl2 : b.length ≤ 9223372036854775807 := by unfold maxLen at hm2; omega
  have HR1 := Lib.hid hR1
  have HR2 := Lib.hid hR2
  clear hR1 hR2 hc1 hm1 hc2 hm2
  by_cases hl : a.length = b.length
  case neg =>
    rw [decide_eq_false (fun h => hl (congrArg List.length h))]
    have hq : ((a.length : Int) != (b.length : Int)) = true := by simp; omega
    clear hl
    go_enter Try.func36, Try.ntmps36
    go_wp2_with fail
    go_ret
    exact ⟨rfl, Below.refl _ _⟩
  have hq : ((a.length : Int) != (b.length : Int)) = false := by simp; omega
  have HL := Lib.hid hl
  obtain ⟨r, hr⟩ : ∃ r, r = decide (a = b) := ⟨_, rfl⟩
  rw [← hr]
  have HRR := Lib.hid hr
  clear hr hl
  go_enter Try.func36, Try.ntmps36
  go_wp2_with fail
  go_loopw [5] (fun q wr => ∃ k : Nat, q = .int .i64 k ∧ k ≤ a.length ∧ Hid (a.take k = b.take k) ∧ Hid (Below w.heap.size w wr)) (fun q _ => a.length + 1 - (intOf q).toNat)
  case atStart => exact ⟨0, rfl, Nat.zero_le _, Lib.hid rfl, Lib.hid (Below.refl _ _)⟩
  case round =>
    obtain ⟨k, rfl, hk, hE, hB⟩ := hrel
    by_cases hlt : k < a.length
    · obtain ⟨x, hx⟩ : ∃ x, a[k]? = some x := ⟨a[k], List.getElem?_eq_getElem hlt⟩
      obtain ⟨y, hy⟩ : ∃ y, b[k]? = some y := ⟨b[k]'(by have := HL.out; omega), List.getElem?_eq_getElem (by have := HL.out; omega)⟩
      obtain ⟨b1, o1, rfl, hb1, q0, q1, q2⟩ := row_slot HR1.out hx
      obtain ⟨b2, o2, rfl, hb2, r0, r1, r2⟩ := row_slot HR2.out hy
      have p0 := (hB.out.cell (p := ⟨b1, o1 + k * 3, none⟩) hb1).trans q0
      have p1 := (hB.out.cell (p := ⟨b1, o1 + k * 3 + 1, none⟩) hb1).trans q1
      have p2 := (hB.out.cell (p := ⟨b1, o1 + k * 3 + 2, none⟩) hb1).trans q2
      have s0 := (hB.out.cell (p := ⟨b2, o2 + k * 3, none⟩) hb2).trans r0
      have s1 := (hB.out.cell (p := ⟨b2, o2 + k * 3 + 1, none⟩) hb2).trans r1
      have s2 := (hB.out.cell (p := ⟨b2, o2 + k * 3 + 2, none⟩) hb2).trans r2
      have i1 : (k : Int) < (a.length : Int) := by omega
      have i2 : (k : Int) < (b.length : Int) := by have := HL.out; omega
      have i0 : (0 : Int) ≤ (k : Int) := by omega
      have HX := Lib.hid hx
      have HY := Lib.hid hy
      clear q0 q1 q2 r0 r1 r2 hx hy
      by_cases ek : x.k = y.k
      case neg =>
          have d0 : (x.k.toList == y.k.toList) = false := by rw [beq_list, decide_eq_false ek]
          have HNE : Hid (¬ x = y) := Lib.hid (fun e => ek (by rw [e]))
          clear ek
          go_wp2_with fail
          go_quiet (fail)
          go_wp2_with fail
          go_ret
          refine ⟨?_, bel hB.out (by go_grown; all_goals (refine below_drewN ?_ _; go_grown))⟩
          rw [HRR.out, decide_eq_false (fun e => HNE.out (by
            have h1 := HX.out
            rw [e, HY.out] at h1
            exact (Option.some.inj h1).symm))]
          rfl
      by_cases ea : x.a = y.a
      case neg =>
          have d0 : (x.k.toList == y.k.toList) = true := by rw [beq_list, decide_eq_true ek]
          have d1 : (x.a == y.a) = false := by simpa using ea
          have HNE : Hid (¬ x = y) := Lib.hid (fun e => ea (by rw [e]))
          clear ek ea
          go_wp2_with fail
          go_quiet (fail)
          go_wp2_with fail
          go_ret
          refine ⟨?_, bel hB.out (by go_grown; all_goals (refine below_drewN ?_ _; go_grown))⟩
          rw [HRR.out, decide_eq_false (fun e => HNE.out (by
            have h1 := HX.out
            rw [e, HY.out] at h1
            exact (Option.some.inj h1).symm))]
          rfl
      by_cases es : x.s = y.s
      case neg =>
          have d0 : (x.k.toList == y.k.toList) = true := by rw [beq_list, decide_eq_true ek]
          have d1 : (x.a == y.a) = true := by simpa using ea
          have d2 : (x.s == y.s) = false := by simpa using es
          have HNE : Hid (¬ x = y) := Lib.hid (fun e => es (by rw [e]))
          clear ek ea es
          go_wp2_with fail
          go_quiet (fail)
          go_wp2_with fail
          go_ret
          refine ⟨?_, bel hB.out (by go_grown; all_goals (refine below_drewN ?_ _; go_grown))⟩
          rw [HRR.out, decide_eq_false (fun e => HNE.out (by
            have h1 := HX.out
            rw [e, HY.out] at h1
            exact (Option.some.inj h1).symm))]
          rfl
      obtain rfl : x = y := by cases x; cases y; simp only at ek ea es; subst ek; subst ea; subst es; rfl
      clear ek ea es
      go_wp2_with fail
      go_quiet (fail)
      go_wp2_with fail
      go_roundw
      case rel => exact ⟨k + 1, by go_num, by omega, Lib.hid (take_same hE.out HX.out HY.out), Lib.hid (bel hB.out (by go_grown; all_goals (refine below_drewN ?_ _; go_grown)))⟩
      case measure => simp [intOf]; omega
    · obtain rfl : k = a.length := by omega
      go_wp2_with fail
      go_ret
      refine ⟨?_, hB.out⟩
      have h1 := hE.out
      rw [List.take_length, HL.out, List.take_length] at h1
      rw [HRR.out, decide_eq_true h1]
      rfl

end Go.Proofs.Ytjjenpklcbpkmaa
