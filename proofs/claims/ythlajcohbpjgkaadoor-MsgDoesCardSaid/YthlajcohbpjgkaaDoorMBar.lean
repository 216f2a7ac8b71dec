/-
  A message with just what its kind has. (Printed by genbar.py.)
-/
import Derived.Test.YthlajcohbpjgkaaDoorMRSm
namespace Go.Proofs.YthlajcohbpjgkaaDoor
open Go.RowKit Go.Shelf Go.Proofs.Mem
set_option linter.unusedVariables false

def GotMsg (w : World) (m : MsgL) (e : Ending) (w' : World) : Prop := ∃ v, e = .returned v ∧ MsgV w' w'.heap.size v m ∧ Below w.heap.size w w'

set_option maxHeartbeats 1000000 in
theorem rbare_any (u : Value) (m : MsgL) (w : World) (hm : MsgV w w.heap.size u m) :
    Calls Tryd.prog 17 #[u] w (GotMsg w (bareL m)) := by
  obtain ⟨ks, os, rfl, hk, ho⟩ := hm
  have HK := Lib.hid hk
  have HO := Lib.hid ho
  obtain ⟨A1, c1, rfl, a1, b1, r1⟩ := hk
  obtain ⟨A2, c2, rfl, a2, b2, r2⟩ := ho
  have hz1 : m.keys.length ≤ 9223372036854775807 := by unfold maxLen at b1; omega
  have hz2 : m.objs.length ≤ 9223372036854775807 := by unfold maxLen at b2; omega
  clear r1 r2 a1 b1 a2 b2
  unfold msgA
  by_cases h1 : m.kind = 1
  case pos =>
    have d1 : (m.kind == 1) = true := beq_iff_eq.2 h1
    have HQ : Hid (bareL m = ⟨m.kind, m.name, m.root, [], [], 0⟩) := Lib.hid (by unfold bareL; rw [if_pos h1])
    clear h1
    go_enter Tryd.func17, Tryd.ntmps17
    go_wp2_with fail
    refine bodyPost_ret (v := .agg #[.int .i64 m.kind, .string m.name, .string m.root, .slice none 0 0, .slice none 0 0, .int .i64 0]) (by simp [results, Tryd.results17, go_sem]) rfl ?_
    refine ⟨_, rfl, ?_, ?_⟩
    · rw [HQ.out]; exact ⟨_, _, rfl, Strs.none_, Objs.nil⟩
    · go_grown
  have d1 : (m.kind == 1) = false := beq_eq_false_iff_ne.2 h1
  have H1 := Lib.hid h1
  clear h1
  by_cases h2 : m.kind = 2
  case pos =>
    have d2 : (m.kind == 2) = true := beq_iff_eq.2 h2
    have HQ : Hid (bareL m = ⟨m.kind, ⟨#[]⟩, ⟨#[]⟩, m.keys, [], 0⟩) := Lib.hid (by unfold bareL; rw [if_neg H1.out, if_pos h2])
    clear h2
    go_enter Tryd.func17, Tryd.ntmps17
    go_wp2_with fail
    refine bodyPost_ret (v := .agg #[.int .i64 m.kind, .string ⟨#[]⟩, .string ⟨#[]⟩, .slice A1 m.keys.length c1, .slice none 0 0, .int .i64 0]) (by simp [results, Tryd.results17, go_sem]) rfl ?_
    refine ⟨_, rfl, ?_, ?_⟩
    · rw [HQ.out]; exact ⟨_, _, rfl, HK.out.on (by go_grown), Objs.nil⟩
    · go_grown
  have d2 : (m.kind == 2) = false := beq_eq_false_iff_ne.2 h2
  have H2 := Lib.hid h2
  clear h2
  by_cases h3 : m.kind = 3
  case pos =>
    have d3 : (m.kind == 3) = true := beq_iff_eq.2 h3
    have HQ : Hid (bareL m = ⟨m.kind, ⟨#[]⟩, ⟨#[]⟩, [], m.objs, 0⟩) := Lib.hid (by unfold bareL; rw [if_neg H1.out, if_neg H2.out, if_pos h3])
    clear h3
    go_enter Tryd.func17, Tryd.ntmps17
    go_wp2_with fail
    refine bodyPost_ret (v := .agg #[.int .i64 m.kind, .string ⟨#[]⟩, .string ⟨#[]⟩, .slice none 0 0, .slice A2 m.objs.length c2, .int .i64 0]) (by simp [results, Tryd.results17, go_sem]) rfl ?_
    refine ⟨_, rfl, ?_, ?_⟩
    · rw [HQ.out]; exact ⟨_, _, rfl, Strs.none_, HO.out.on (by go_grown)⟩
    · go_grown
  have d3 : (m.kind == 3) = false := beq_eq_false_iff_ne.2 h3
  have H3 := Lib.hid h3
  clear h3
  have HQ : Hid (bareL m = ⟨m.kind, ⟨#[]⟩, ⟨#[]⟩, [], [], m.err⟩) := Lib.hid (by unfold bareL; rw [if_neg H1.out, if_neg H2.out, if_neg H3.out])
  go_enter Tryd.func17, Tryd.ntmps17
  go_wp2_with fail
  refine bodyPost_ret (v := .agg #[.int .i64 m.kind, .string ⟨#[]⟩, .string ⟨#[]⟩, .slice none 0 0, .slice none 0 0, .int .i64 m.err]) (by simp [results, Tryd.results17, go_sem]) rfl ?_
  refine ⟨_, rfl, ?_, ?_⟩
  · rw [HQ.out]; exact ⟨_, _, rfl, Strs.none_, Objs.nil⟩
  · go_grown

end Go.Proofs.YthlajcohbpjgkaaDoor
