/-
  The law's few.
-/
import Derived.Test.YthlajcohbpjgkaaDoorMRSm
namespace Go.Proofs.YthlajcohbpjgkaaDoor
open Go.RowKit Go.Shelf Go.Proofs.Mem
set_option linter.unusedVariables false

/-- A message of few bytes. -/
def Few (m : MsgL) : Prop := m.keys.length ≤ 20 ∧ m.objs.length ≤ 20 ∧ m.name.size + m.root.size ≤ 300 ∧ (∀ k ∈ m.keys, k.size ≤ 100) ∧ ∀ x ∈ m.objs, x.1.size ≤ 100 ∧ x.2.size ≤ 41000
def FewPost (m : MsgL) (w : World) (e : Ending) (w' : World) : Prop := ∃ b : Bool, e = .returned (.bool b) ∧ (b = true → Few m) ∧ Below w.heap.size w w'

set_option maxHeartbeats 2000000 in
theorem few_any (u : Value) (m : MsgL) (w : World) (hm : MsgV w w.heap.size u m) (hn : m.name.size + m.root.size ≤ 9223372036854775807) :
    Calls Tryd.prog 7 #[u] w (FewPost m w) := by
  have hwr : wrap64 ((m.name.size : Int) + (m.root.size : Int)) = (m.name.size : Int) + (m.root.size : Int) := by unfold wrap64; omega
  obtain ⟨ks, os, rfl, hk, ho⟩ := hm
  obtain ⟨A1, c1, rfl, a1, b1, r1⟩ := hk
  obtain ⟨A2, c2, rfl, a2, b2, r2⟩ := ho
  have hz1 : m.keys.length ≤ 9223372036854775807 := by unfold maxLen at b1; omega
  have hz2 : m.objs.length ≤ 9223372036854775807 := by unfold maxLen at b2; omega
  have HR1 := Lib.hid r1
  have HR2 := Lib.hid r2
  clear r1 r2 a1 b1 a2 b2
  obtain ⟨p, hp⟩ : ∃ p, p = m.keys.length := ⟨_, rfl⟩
  obtain ⟨q, hq⟩ : ∃ q, q = m.objs.length := ⟨_, rfl⟩
  have HP := Lib.hid hp
  have HQ := Lib.hid hq
  unfold msgA
  rw [← hp, ← hq]
  rw [← hp] at hz1
  rw [← hq] at hz2
  clear hp hq
  by_cases h1 : p ≤ 20
  case neg =>
    have d1 : decide (20 < (p : Int)) = true := decide_eq_true (by omega)
    have d2 : decide (20 < p) = true := decide_eq_true (by omega)
    go_enter Tryd.func7, Tryd.ntmps7
    go_wp2_with fail
    go_ret
    exact ⟨_, rfl, (fun h => by cases h), by go_grown⟩
  have d1 : decide (20 < (p : Int)) = false := decide_eq_false (by omega)
  have d2 : decide (20 < p) = false := decide_eq_false (by omega)
  by_cases h2 : q ≤ 20
  case neg =>
    have d3 : decide (20 < (q : Int)) = true := decide_eq_true (by omega)
    have d4 : decide (20 < q) = true := decide_eq_true (by omega)
    go_enter Tryd.func7, Tryd.ntmps7
    go_wp2_with fail
    go_ret
    exact ⟨_, rfl, (fun h => by cases h), by go_grown⟩
  have d3 : decide (20 < (q : Int)) = false := decide_eq_false (by omega)
  have d4 : decide (20 < q) = false := decide_eq_false (by omega)
  by_cases h3 : m.name.size + m.root.size ≤ 300
  case neg =>
    have d5 : decide (300 < (m.name.size : Int) + (m.root.size : Int)) = true := decide_eq_true (by omega)
    have d6 : decide (300 < m.name.size + m.root.size) = true := decide_eq_true (by omega)
    go_enter Tryd.func7, Tryd.ntmps7
    go_wp2_with fail
    go_ret
    exact ⟨_, rfl, (fun h => by cases h), by go_grown⟩
  have d5 : decide (300 < (m.name.size : Int) + (m.root.size : Int)) = false := decide_eq_false (by omega)
  have d6 : decide (300 < m.name.size + m.root.size) = false := decide_eq_false (by omega)
  have H3 := Lib.hid h3
  clear h3
  go_enter Tryd.func7, Tryd.ntmps7
  go_wp2_with fail
  go_loopw [30, 4] (fun iv _ wr => ∃ k : Nat, iv = .int .i64 k ∧ k ≤ p ∧ Hid (∀ x ∈ m.keys.take k, x.size ≤ 100) ∧ wr = w.alloc (.cells #[.int .i64 m.kind, .string m.name, .string m.root, .slice A1 p c1, .slice A2 q c2, .int .i64 m.err] 26)) (fun iv _ _ => p + 1 - (intOf iv).toNat)
  case atStart => exact ⟨0, rfl, Nat.zero_le _, Lib.hid (fun x hx => by cases hx), rfl⟩
  case round =>
    obtain ⟨k, rfl, hk, hE, rfl⟩ := hrel
    by_cases hlt : k < p
    · obtain ⟨x, hx⟩ : ∃ x, m.keys[k]? = some x := ⟨m.keys[k]'(by have := HP.out; omega), List.getElem?_eq_getElem (by have := HP.out; omega)⟩
      obtain ⟨b1, o1, rfl, hb1, q0⟩ := row_key HR1.out hx
      have p0 := (((Below.refl _ _).alloc (Nat.le_refl _) _ : Below w.heap.size w (w.alloc (.cells #[.int .i64 m.kind, .string m.name, .string m.root, .slice (some ⟨b1, o1, none⟩) p c1, .slice A2 q c2, .int .i64 m.err] 26))).cell (p := ⟨b1, o1 + k, none⟩) hb1).trans q0
      have i1 : (k : Int) < (p : Int) := by omega
      have i0 : (0 : Int) ≤ (k : Int) := by omega
      have HX := Lib.hid hx
      clear q0 hx
      by_cases hs : x.size ≤ 100
      case neg =>
        have e1 : decide (100 < (x.size : Int)) = true := decide_eq_true (by omega)
        have e2 : decide (100 < x.size) = true := decide_eq_true (by omega)
        go_wp2_with fail
        go_ret
        exact ⟨_, rfl, (fun h => by cases h), by go_grown⟩
      have e1 : decide (100 < (x.size : Int)) = false := decide_eq_false (by omega)
      have e2 : decide (100 < x.size) = false := decide_eq_false (by omega)
      go_wp2_with fail
      go_roundw
      case rel => exact ⟨k + 1, by go_num, by omega, Lib.hid (fun y hy => by
          rw [List.take_add_one, HX.out] at hy
          rcases List.mem_append.1 hy with h | h
          · exact hE.out y h
          · rw [List.mem_singleton.1 h]; exact hs), trivial⟩
      case measure => simp [intOf]; omega
    · obtain rfl : k = p := by omega
      have HKA : Hid (∀ x ∈ m.keys, x.size ≤ 100) := Lib.hid (fun x hx => hE.out x (by rw [List.take_of_length_le (by rw [← HP.out]; omega)]; exact hx))
      go_wp2_with fail
      go_loopw [41, 6] (fun iv _ wr => ∃ j : Nat, iv = .int .i64 j ∧ j ≤ q ∧ Hid (∀ x ∈ m.objs.take j, x.1.size ≤ 100 ∧ x.2.size ≤ 41000) ∧ Hid (Below w.heap.size w wr)) (fun iv _ _ => q + 1 - (intOf iv).toNat)
      case atStart => exact ⟨0, rfl, Nat.zero_le _, Lib.hid (fun x hx => by cases hx), Lib.hid (by go_grown)⟩
      case round =>
        obtain ⟨j, rfl, hj, hE2, hB⟩ := hrel
        by_cases hlt2 : j < q
        · obtain ⟨x, hx⟩ : ∃ x, m.objs[j]? = some x := ⟨m.objs[j]'(by have := HQ.out; omega), List.getElem?_eq_getElem (by have := HQ.out; omega)⟩
          obtain ⟨b2, o2, rfl, hb2, q0, q1⟩ := row_obj HR2.out hx
          obtain ⟨x1, x2⟩ := x
          have p0 := (hB.out.cell (p := ⟨b2, o2 + j * 2, none⟩) hb2).trans q0
          have p1 := (hB.out.cell (p := ⟨b2, o2 + j * 2 + 1, none⟩) hb2).trans q1
          have i1 : (j : Int) < (q : Int) := by omega
          have i0 : (0 : Int) ≤ (j : Int) := by omega
          have HX := Lib.hid hx
          have HSZ := Lib.hid hB.out.size
          dsimp only at p0 p1
          clear q0 q1 hx
          by_cases hs : x1.size ≤ 100
          case neg =>
            have e1 : decide (100 < (x1.size : Int)) = true := decide_eq_true (by omega)
            have e2 : decide (100 < x1.size) = true := decide_eq_true (by omega)
            go_wp2_with fail
            go_ret
            exact ⟨_, rfl, (fun h => by cases h), bel hB.out (by go_grown)⟩
          have e1 : decide (100 < (x1.size : Int)) = false := decide_eq_false (by omega)
          have e2 : decide (100 < x1.size) = false := decide_eq_false (by omega)
          by_cases hs2 : x2.size ≤ 41000
          case neg =>
            have e3 : decide (41000 < (x2.size : Int)) = true := decide_eq_true (by omega)
            have e4 : decide (41000 < x2.size) = true := decide_eq_true (by omega)
            go_wp2_with fail
            go_ret
            exact ⟨_, rfl, (fun h => by cases h), bel hB.out (by go_grown)⟩
          have e3 : decide (41000 < (x2.size : Int)) = false := decide_eq_false (by omega)
          have e4 : decide (41000 < x2.size) = false := decide_eq_false (by omega)
          go_wp2_with fail
          go_roundw
          case rel => exact ⟨j + 1, by go_num, by omega, Lib.hid (fun y hy => by
              rw [List.take_add_one, HX.out] at hy
              rcases List.mem_append.1 hy with h | h
              · exact hE2.out y h
              · rw [List.mem_singleton.1 h]; exact ⟨hs, hs2⟩), Lib.hid (bel hB.out (by go_grown))⟩
          case measure => simp [intOf]; omega
        · obtain rfl : j = q := by omega
          go_wp2_with fail
          go_ret
          refine ⟨_, rfl, fun _ => ⟨by rw [← HP.out]; exact h1, by rw [← HQ.out]; exact h2, H3.out, HKA.out, fun x hx => hE2.out x (by rw [List.take_of_length_le (by rw [← HQ.out]; omega)]; exact hx)⟩, hB.out⟩

end Go.Proofs.YthlajcohbpjgkaaDoor
