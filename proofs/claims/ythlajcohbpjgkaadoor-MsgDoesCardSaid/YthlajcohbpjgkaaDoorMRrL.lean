/-
  Plain laws of the document's Read.
-/
import Derived.Test.YthlajcohbpjgkaaDoorMLst
import Derived.Test.YthlajcohbpjgkaaDoorMLaw
namespace Go.Proofs.YthlajcohbpjgkaaDoor
open Go.RowKit Go.Shelf Go.Proofs.Mem
set_option linter.unusedVariables false

/-- What the document reads off is kept just if it is fit and is written back. -/
theorem read_core (s : ByteArray) (m : MsgL) (ok : Bool) (H : ∀ m0, readM s = some m0 → ok = true ∧ m0 = m) : readM s = if ok = true ∧ fitL m = true ∧ writeL m = s then some m else none := by
  cases hr : readM s with
  | none =>
    by_cases hc : ok = true ∧ fitL m = true ∧ writeL m = s
    · have h := read_write m hc.2.1
      rw [hc.2.2, hr] at h
      cases h
    · rw [if_neg hc]
  | some m0 =>
    obtain ⟨h1, rfl⟩ := H m0 hr
    obtain ⟨h2, h3⟩ := write_readM s m0 hr
    rw [if_pos ⟨h1, h2, h3⟩]
theorem cand_1 (s : ByteArray) (h : 0 < s.size) (h1 : byteAt s 0 = 1) (m0 : MsgL) (hr : readM s = some m0) : decide ((takeT (s.extract 1 s.size)).2.2 = 0) = true ∧ m0 = offM (s.extract 1 s.size) := by
  unfold readM at hr
  rw [if_neg (by omega), if_pos h1] at hr
  split at hr
  · cases hr
  · next hc =>
    dsimp only at hr
    split at hr
    · refine ⟨decide_eq_true (by omega), ?_⟩
      unfold offM
      rw [if_neg hc]
      exact (Option.some.inj hr).symm
    · cases hr
theorem cand_l (s : ByteArray) (h : 0 < s.size) (h1 : byteAt s 0 = 2 ∨ byteAt s 0 = 3) (m0 : MsgL) (hr : readM s = some m0) : ∃ y, listL (byteAt s 0 : Nat) (s.extract 1 s.size) = some y ∧ m0 = mkL (byteAt s 0 : Nat) y.1 := by
  unfold readM at hr
  rw [if_neg (by omega), if_neg (by omega), if_neg (by omega), if_pos h1] at hr
  split at hr
  · cases hr
  · next hc =>
    unfold listL
    rw [if_neg hc]
    split at hr
    · cases hr
    · next l r hi =>
      split at hr
      · cases hr
      · split at hr
        · exact ⟨_, hi, (Option.some.inj hr).symm⟩
        · cases hr
theorem cand_4 (s : ByteArray) (h : 0 < s.size) (h1 : byteAt s 0 = 4) (m0 : MsgL) (hr : readM s = some m0) : decide ((takeB (s.extract 1 s.size)).2.2 = 0) = true ∧ m0 = M4 (min (takeB (s.extract 1 s.size)).1 100) := by
  unfold readM at hr
  rw [if_neg (by omega), if_neg (by omega), if_pos h1] at hr
  split at hr
  · cases hr
  · next hc =>
    split at hr
    · cases hr
    · refine ⟨decide_eq_true (by omega), ?_⟩
      rw [show min (takeB (s.extract 1 s.size)).1 100 = (takeB (s.extract 1 s.size)).1 by omega]
      exact (Option.some.inj hr).symm
theorem cand_o (s : ByteArray) (h1 : byteAt s 0 ≠ 1) (h2 : byteAt s 0 ≠ 2) (h3 : byteAt s 0 ≠ 3) (h4 : byteAt s 0 ≠ 4) : readM s = none := by
  unfold readM
  split
  · rfl
  · first | rw [if_neg h1, if_neg h4, if_neg (by omega)] | rw [if_neg (by omega)] | (split <;> first | rfl | omega | (split <;> first | rfl | omega))

end Go.Proofs.YthlajcohbpjgkaaDoor
