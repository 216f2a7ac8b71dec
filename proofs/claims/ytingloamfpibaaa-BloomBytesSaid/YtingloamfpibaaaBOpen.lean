/-
  A sieve that came in, opened.
-/
import Derived.Test.YtingloamfpibaaaShell
import Derived.Test.YtingloamfpibaaaOpen
namespace Go.Proofs.Ytingloamfpibaaa
open Go.RowKit Go.ChangeShapes Go.WideShapes Go.ChangeAt
set_option linter.unusedVariables false

theorem get_some {α : Type} {o : Option α} {l : List α} {i : Nat} (h : o = l[i]?) (hi : i < l.length) : ∃ x, o = some x := ⟨l[i], by rw [h, List.getElem?_eq_getElem hi]⟩
theorem open_blo {H : Type} {enc : TypeId × Value → H} {W : World} {r : Reach} {b0 : Nat} {v : Value} {d : DataW H} {p : List MemPlace}
    (hv : Value.okWide Try.prog W r b0 23 v) (h : DataW.Trod enc Try.prog W 0 (fun _ => true) true 23 v d p) :
    ∃ (bi ha : Int) (s : ByteArray), v = .agg #[.int .i64 bi, .int .i64 ha, .string s] ∧ bi ≤ 9223372036854775807 ∧ s.size ≤ maxLen := by
  obtain ⟨cs, rfl, hsz⟩ := okWide_struct Try.underlying23 hv
  obtain ⟨l⟩ := cs
  have hC : Try.prog.cellsOf 23 = 3 := by kernel_rfl
  have c3 : Try.prog.cellsOf 3 = 1 := by kernel_rfl
  have c4 : Try.prog.cellsOf 9 = 1 := by kernel_rfl
  obtain ⟨a0, a1, a2, rfl⟩ : ∃ a0 a1 a2, l = [a0, a1, a2] := by
    have hl : l.length = 3 := by simpa using hsz.trans hC
    match l, hl with
    | [a0, a1, a2], _ => exact ⟨_, _, _, rfl⟩
  obtain ⟨fuel, hf⟩ := h
  obtain ⟨xs, n, _, _, _, hlen, hg⟩ := DataW.trod_struct Try.underlying23 hf
  have hlen' : xs.length = 3 := hlen
  obtain ⟨x0, f0⟩ := get_some (hg 0 _ rfl) (by omega)
  obtain ⟨x1, f1⟩ := get_some (hg 1 _ rfl) (by omega)
  obtain ⟨x2, f2⟩ := get_some (hg 2 _ rfl) (by omega)
  simp [Value.cells, c3, c4] at f0 f1 f2
  obtain ⟨z0, h0, _, w0⟩ := DataW.trod_int Try.underlying3 f0
  obtain ⟨z1, h1, _, w1⟩ := DataW.trod_int Try.underlying3 f1
  obtain ⟨z2, h2, _, w2⟩ := DataW.trod_string Try.underlying9 f2
  simp at h0 h1 h2
  subst h0 h1 h2
  have b0 := bounds_i64 w0
  exact ⟨z0, z1, z2, rfl, by omega, w2⟩

end Go.Proofs.Ytingloamfpibaaa
