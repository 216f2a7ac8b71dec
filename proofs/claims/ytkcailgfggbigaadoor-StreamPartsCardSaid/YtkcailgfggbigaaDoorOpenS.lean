/-
  A stream that came in, opened.
-/
import Derived.Test.YtkcailgfggbigaaDoorOpenP
namespace Go.Proofs.YtkcailgfggbigaaDoor
open Go.RowKit Go.ChangeShapes Go.WideShapes Go.ChangeAt
set_option linter.unusedVariables false

theorem open_stream {H : Type} {enc : TypeId × Value → H} {W : World} {r : Reach} {b0 : Nat} {v : Value} {d : DataW H} {p : List MemPlace}
    (hv : Value.okWide Tryd.prog W r b0 32 v) (h : DataW.Trod enc Tryd.prog W 0 (fun _ => true) true 32 v d p) :
    ∃ a : ByteArray, v = .agg #[.string a] ∧ a.size ≤ maxLen := by
  obtain ⟨cs, rfl, hsz⟩ := okWide_struct Tryd.underlying32 hv
  obtain ⟨l⟩ := cs
  have hC : Tryd.prog.cellsOf 32 = 1 := by kernel_rfl
  have c3 : Tryd.prog.cellsOf 9 = 1 := by kernel_rfl
  obtain ⟨a0, rfl⟩ : ∃ a0, l = [a0] := by
    have hl : l.length = 1 := by simpa using hsz.trans hC
    match l, hl with
    | [a0], _ => exact ⟨_, rfl⟩
  obtain ⟨fuel, hf⟩ := h
  obtain ⟨xs, n, _, _, _, hlen, hg⟩ := DataW.trod_struct Tryd.underlying32 hf
  have hlen' : xs.length = 1 := hlen
  obtain ⟨x0, f0⟩ := get_some (hg 0 _ rfl) (by omega)
  simp [Value.cells, c3] at f0
  obtain ⟨s, h0, _, w0⟩ := DataW.trod_string Tryd.underlying9 f0
  simp at h0
  subst h0
  exact ⟨s, rfl, w0⟩

end Go.Proofs.YtkcailgfggbigaaDoor
