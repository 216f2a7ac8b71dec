/-
  slices.Equal of keys and of objects; the program's Same.
-/
import Derived.Test.YthlajcohbpjgkaaDoorMRSm
namespace Go.Proofs.YthlajcohbpjgkaaDoor
open Go.RowKit Go.Shelf Go.Proofs.Mem
set_option linter.unusedVariables false

set_option maxHeartbeats 1000000 in
theorem eqs_any (u v : Value) (l m : List ByteArray) (w : World) (hl : Strs w w.heap.size u l) (hm : Strs w w.heap.size v m) :
    Calls Tryd.prog 37 #[u, v] w fun e w' => e = .returned (.bool (decide (l = m))) ∧ Below w.heap.size w w' := by
  obtain ⟨A1, c1, rfl, a1, b1, r1⟩ := hl
  obtain ⟨A2, c2, rfl, a2, b2, r2⟩ := hm
  have hz1 : l.length ≤ 9223372036854775807 := by unfold maxLen at b1; omega
  have hz2 : m.length ≤ 9223372036854775807 := by unfold maxLen at b2; omega
  have HR1 := Lib.hid r1
  have HR2 := Lib.hid r2
  clear r1 r2 a1 b1 a2 b2
  by_cases hne : l.length = m.length
  case neg =>
    have hd : decide (l = m) = false := decide_eq_false (fun h => hne (by rw [h]))
    have hi : ((l.length : Int) == (m.length : Int)) = false := by rw [beq_eq_false_iff_ne]; omega
    have hi2 : ((l.length : Int) != (m.length : Int)) = true := by rw [bne, hi]; rfl
    rw [hd]
    clear hd
    go_enter Tryd.func37, Tryd.ntmps37
    go_wp2_with fail
    go_ret
    exact ⟨rfl, Below.refl _ _⟩
  obtain ⟨r, hr⟩ : ∃ r, r = decide (l = m) := ⟨_, rfl⟩
  rw [← hr]
  have HRR := Lib.hid hr
  obtain ⟨n, hn⟩ : ∃ n, n = l.length := ⟨_, rfl⟩
  have hn2 : m.length = n := by omega
  have hnz : n ≤ 9223372036854775807 := by omega
  have HN1 := Lib.hid hn
  have HN2 := Lib.hid hn2
  rw [hn2, ← hn]
  clear hr hn hn2 hne
  go_enter Tryd.func37, Tryd.ntmps37
  go_wp2_with fail
  go_loopw [13] (fun iv wr => ∃ k : Nat, iv = .int .i64 k ∧ k ≤ n ∧ Hid (l.take k = m.take k) ∧ Hid (Below w.heap.size w wr)) (fun iv _ => n + 1 - (intOf iv).toNat)
  case atStart => exact ⟨0, rfl, Nat.zero_le _, Lib.hid rfl, Lib.hid (Below.refl _ _)⟩
  case round =>
    obtain ⟨k, rfl, hk, hE, hB⟩ := hrel
    by_cases hlt : k < n
    · obtain ⟨x, hx⟩ : ∃ x, l[k]? = some x := ⟨l[k]'(by have := HN1.out; omega), List.getElem?_eq_getElem (by have := HN1.out; omega)⟩
      obtain ⟨y, hy⟩ : ∃ y, m[k]? = some y := ⟨m[k]'(by have := HN2.out; omega), List.getElem?_eq_getElem (by have := HN2.out; omega)⟩
      obtain ⟨b1, o1, rfl, hb1, q0⟩ := row_key HR1.out hx
      obtain ⟨b2, o2, rfl, hb2, r0⟩ := row_key HR2.out hy
      have p0 := (hB.out.cell (p := ⟨b1, o1 + k, none⟩) hb1).trans q0
      have s0 := (hB.out.cell (p := ⟨b2, o2 + k, none⟩) hb2).trans r0
      have i1 : (k : Int) < (n : Int) := by omega
      have i0 : (0 : Int) ≤ (k : Int) := by omega
      have HX := Lib.hid hx
      have HY := Lib.hid hy
      clear q0 r0 hx hy
      by_cases ek : x = y
      case neg =>
        have d0 : (x.toList == y.toList) = false := by rw [str_beq, decide_eq_false ek]
        have HNE : Hid (¬ x = y) := Lib.hid ek
        clear ek
        go_wp2_with fail
        go_quiet (fail)
        go_wp2_with fail
        go_ret
        refine ⟨?_, bel hB.out (by go_grown; all_goals (refine below_drewN ?_ _; go_grown))⟩
        rw [HRR.out, decide_eq_false (fun e => HNE.out (by
          have h1 := HX.out
          rw [e, HY.out] at h1
          exact (Option.some.inj h1).symm))]
        rfl
      subst ek
      have d0 : (x.toList == x.toList) = true := by rw [str_beq, decide_eq_true rfl]
      go_wp2_with fail
      go_quiet (fail)
      go_wp2_with fail
      go_roundw
      case rel => exact ⟨k + 1, by go_num, by omega, Lib.hid (take_same hE.out HX.out HY.out), Lib.hid (bel hB.out (by go_grown; all_goals (refine below_drewN ?_ _; go_grown)))⟩
      case measure => simp [intOf]; omega
    · obtain rfl : k = n := by omega
      go_wp2_with fail
      go_ret
      refine ⟨?_, hB.out⟩
      have h1 := hE.out
      rw [List.take_of_length_le (by have := HN1.out; omega), List.take_of_length_le (by have := HN2.out; omega)] at h1
      rw [HRR.out, decide_eq_true h1]
      rfl

set_option maxHeartbeats 1000000 in
theorem eqo_any (u v : Value) (l m : List ObjL) (w : World) (hl : Objs w w.heap.size u l) (hm : Objs w w.heap.size v m) :
    Calls Tryd.prog 38 #[u, v] w fun e w' => e = .returned (.bool (decide (l = m))) ∧ Below w.heap.size w w' := by
  obtain ⟨A1, c1, rfl, a1, b1, r1⟩ := hl
  obtain ⟨A2, c2, rfl, a2, b2, r2⟩ := hm
  have hz1 : l.length ≤ 9223372036854775807 := by unfold maxLen at b1; omega
  have hz2 : m.length ≤ 9223372036854775807 := by unfold maxLen at b2; omega
  have HR1 := Lib.hid r1
  have HR2 := Lib.hid r2
  clear r1 r2 a1 b1 a2 b2
  by_cases hne : l.length = m.length
  case neg =>
    have hd : decide (l = m) = false := decide_eq_false (fun h => hne (by rw [h]))
    have hi : ((l.length : Int) == (m.length : Int)) = false := by rw [beq_eq_false_iff_ne]; omega
    have hi2 : ((l.length : Int) != (m.length : Int)) = true := by rw [bne, hi]; rfl
    rw [hd]
    clear hd
    go_enter Tryd.func38, Tryd.ntmps38
    go_wp2_with fail
    go_ret
    exact ⟨rfl, Below.refl _ _⟩
  obtain ⟨r, hr⟩ : ∃ r, r = decide (l = m) := ⟨_, rfl⟩
  rw [← hr]
  have HRR := Lib.hid hr
  obtain ⟨n, hn⟩ : ∃ n, n = l.length := ⟨_, rfl⟩
  have hn2 : m.length = n := by omega
  have hnz : n ≤ 9223372036854775807 := by omega
  have HN1 := Lib.hid hn
  have HN2 := Lib.hid hn2
  rw [hn2, ← hn]
  clear hr hn hn2 hne
  go_enter Tryd.func38, Tryd.ntmps38
  go_wp2_with fail
  go_loopw [13] (fun iv wr => ∃ k : Nat, iv = .int .i64 k ∧ k ≤ n ∧ Hid (l.take k = m.take k) ∧ Hid (Below w.heap.size w wr)) (fun iv _ => n + 1 - (intOf iv).toNat)
  case atStart => exact ⟨0, rfl, Nat.zero_le _, Lib.hid rfl, Lib.hid (Below.refl _ _)⟩
  case round =>
    obtain ⟨k, rfl, hk, hE, hB⟩ := hrel
    by_cases hlt : k < n
    · obtain ⟨x, hx⟩ : ∃ x, l[k]? = some x := ⟨l[k]'(by have := HN1.out; omega), List.getElem?_eq_getElem (by have := HN1.out; omega)⟩
      obtain ⟨y, hy⟩ : ∃ y, m[k]? = some y := ⟨m[k]'(by have := HN2.out; omega), List.getElem?_eq_getElem (by have := HN2.out; omega)⟩
      obtain ⟨b1, o1, rfl, hb1, q0, q1⟩ := row_obj HR1.out hx
      obtain ⟨b2, o2, rfl, hb2, r0, r1⟩ := row_obj HR2.out hy
      have p0 := (hB.out.cell (p := ⟨b1, o1 + k * 2, none⟩) hb1).trans q0
      have p1 := (hB.out.cell (p := ⟨b1, o1 + k * 2 + 1, none⟩) hb1).trans q1
      have s0 := (hB.out.cell (p := ⟨b2, o2 + k * 2, none⟩) hb2).trans r0
      have s1 := (hB.out.cell (p := ⟨b2, o2 + k * 2 + 1, none⟩) hb2).trans r1
      have i1 : (k : Int) < (n : Int) := by omega
      have i0 : (0 : Int) ≤ (k : Int) := by omega
      have HX := Lib.hid hx
      have HY := Lib.hid hy
      obtain ⟨x1, x2⟩ := x
      obtain ⟨y1, y2⟩ := y
      dsimp only at p0 p1 s0 s1
      clear q0 q1 r0 r1 hx hy
      by_cases ek : x1 = y1
      case neg =>
        have d0 : (x1.toList == y1.toList) = false := by rw [str_beq, decide_eq_false ek]
        have HNE : Hid (¬ (x1, x2) = (y1, y2)) := Lib.hid (fun e => ek (by injection e))
        clear ek
        go_wp2_with fail
        go_quiet (fail)
        go_wp2_with fail
        go_ret
        refine ⟨?_, bel hB.out (by go_grown; all_goals (refine below_drewN ?_ _; go_grown))⟩
        rw [HRR.out, decide_eq_false (fun e => HNE.out (by
          have h1 := HX.out
          rw [e, HY.out] at h1
          exact (Option.some.inj h1).symm))]
        rfl
      by_cases er : x2 = y2
      case neg =>
        have d0 : (x1.toList == y1.toList) = true := by rw [str_beq, decide_eq_true ek]
        have d1 : (x2.toList == y2.toList) = false := by rw [str_beq, decide_eq_false er]
        have HNE : Hid (¬ (x1, x2) = (y1, y2)) := Lib.hid (fun e => er (by injection e))
        clear ek er
        go_wp2_with fail
        go_quiet (fail)
        go_wp2_with fail
        go_ret
        refine ⟨?_, bel hB.out (by go_grown; all_goals (refine below_drewN ?_ _; go_grown))⟩
        rw [HRR.out, decide_eq_false (fun e => HNE.out (by
          have h1 := HX.out
          rw [e, HY.out] at h1
          exact (Option.some.inj h1).symm))]
        rfl
      subst ek
      subst er
      go_wp2_with fail
      go_quiet (fail)
      go_wp2_with fail
      go_roundw
      case rel => exact ⟨k + 1, by go_num, by omega, Lib.hid (take_same hE.out HX.out HY.out), Lib.hid (bel hB.out (by go_grown; all_goals (refine below_drewN ?_ _; go_grown)))⟩
      case measure => simp [intOf]; omega
    · obtain rfl : k = n := by omega
      go_wp2_with fail
      go_ret
      refine ⟨?_, hB.out⟩
      have h1 := hE.out
      rw [List.take_of_length_le (by have := HN1.out; omega), List.take_of_length_le (by have := HN2.out; omega)] at h1
      rw [HRR.out, decide_eq_true h1]
      rfl

end Go.Proofs.YthlajcohbpjgkaaDoor
