/-
  The document's Write, of any message; offer.
-/
import Derived.Test.YthlajcohbpjgkaaDoorMWrd
import Derived.Test.YthlajcohbpjgkaaDoorMWrp
import Derived.Test.YthlajcohbpjgkaaDoorMAwk
namespace Go.Proofs.YthlajcohbpjgkaaDoor
open Go.RowKit Go.Shelf Go.Proofs.Mem
set_option linter.unusedVariables false

set_option maxRecDepth 100000 in
theorem rwr0 (u : Value) (m : MsgL) (w : World) (hm : MsgV w w.heap.size u m) (hn : m.name.size ≤ maxLen) (hf : fitL m = false) :
    Calls Tryd.prog 16 #[u] w fun e w' => e = .returned (.string (writeL m)) ∧ Below w.heap.size w w' := by
  obtain ⟨ks, os, rfl, hk, ho⟩ := hm
  have HFI := Lib.hid (fun W (hW : Below w.heap.size w W) => rfit_any _ m W false hf ⟨ks, os, rfl, hk.on hW, ho.on hW⟩ hn)
  have HW : Hid (writeL m = ⟨#[]⟩) := Lib.hid (by unfold writeL; rw [if_pos hf])
  obtain ⟨A1, c1, rfl, a1, b1, r1⟩ := hk
  obtain ⟨A2, c2, rfl, a2, b2, r2⟩ := ho
  unfold msgA
  unfold msgA at HFI
  clear r1 r2 a1 b1 a2 b2 hf
  go_enter Tryd.func16, Tryd.ntmps16
  go_wp2_with (go_at_call 8; refine Calls.mono (HFI.out _ ?_) ?_; go_grown; rintro e w1 ⟨rfl, hb1⟩; obtain ⟨hc, hfz⟩ := bcell hb1; have hz : w.heap.size < w1.heap.size := (by have := hb1.size; simp at this; omega); have HB1 : Hid (Below w.heap.size w w1) := Lib.hid (bel (by go_grown) hb1); clear hb1)
  go_ret
  exact ⟨by rw [HW.out]; rfl, HB1.out⟩
theorem rname_size {n : ByteArray} (h : nameB n = true) : n.size ≤ 31 := by
  unfold nameB at h
  simp only [Bool.and_eq_true, decide_eq_true_eq] at h
  exact h.2.1
/-- The document's Write. -/
theorem rwrite_any (u : Value) (m : MsgL) (w : World) (hm : MsgV w w.heap.size u m) (hn : m.name.size ≤ maxLen) :
    Calls Tryd.prog 16 #[u] w fun e w' => e = .returned (.string (writeL m)) ∧ Below w.heap.size w w' := by
  cases hf : fitL m with
  | false => exact rwr0 u m w hm hn hf
  | true =>
    have hm' := hm
    obtain ⟨ks, os, rfl, hk, ho⟩ := hm
    obtain ⟨A1, c1, rfl, a1, b1, r1⟩ := hk
    obtain ⟨A2, c2, rfl, a2, b2, r2⟩ := ho
    rcases fit_cases m hf with ⟨n, r, rfl, h1, h2⟩ | ⟨l, rfl, h1, h2, h3⟩ | ⟨l, rfl, h1, h2, h3⟩ | ⟨e, rfl, h1⟩
    · exact rwr1 n r A1 A2 c1 c2 w hm' hf (rname_size h1) h2
    · exact rwr2 l A1 A2 c1 c2 w hm' hf h1 h3
    · exact rwr3 l A1 A2 c1 c2 w hm' hf h1 h3
    · exact rwr4 e A1 A2 c1 c2 w hm' hf h1

end Go.Proofs.YthlajcohbpjgkaaDoor
