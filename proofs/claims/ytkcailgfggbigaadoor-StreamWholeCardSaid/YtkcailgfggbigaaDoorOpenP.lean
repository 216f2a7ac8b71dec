/-
  Parameters that came in, opened.
-/
import Derived.Test.YtkcailgfggbigaaDoorTab
import Derived.Test.YtkcailgfggbigaaDoorShell
namespace Go.Proofs.YtkcailgfggbigaaDoor
open Go.RowKit Go.ChangeShapes Go.WideShapes Go.ChangeAt
set_option linter.unusedVariables false

theorem get_some {α : Type} {o : Option α} {l : List α} {i : Nat} (h : o = l[i]?) (hi : i < l.length) : ∃ x, o = some x := ⟨l[i], by rw [h, List.getElem?_eq_getElem hi]⟩
theorem open_params {H : Type} {enc : TypeId × Value → H} {W : World} {r : Reach} {b0 : Nat} {v : Value} {d : DataW H} {p : List MemPlace}
    (hv : Value.okWide Tryd.prog W r b0 23 v) (h : DataW.Trod enc Tryd.prog W 0 (fun _ => true) true 23 v d p) :
    ∃ mn av mx : Int, v = .agg #[.int .i64 mn, .int .i64 av, .int .i64 mx] ∧ mn ≤ 9223372036854775807 ∧ av ≤ 9223372036854775807 := by
  obtain ⟨cs, rfl, hsz⟩ := okWide_struct Tryd.underlying23 hv
  obtain ⟨l⟩ := cs
  have hC : Tryd.prog.cellsOf 23 = 3 := by kernel_rfl
  have c3 : Tryd.prog.cellsOf 3 = 1 := by kernel_rfl
  obtain ⟨a0, a1, a2, rfl⟩ : ∃ a0 a1 a2, l = [a0, a1, a2] := by
    have hl : l.length = 3 := by simpa using hsz.trans hC
    match l, hl with
    | [a0, a1, a2], _ => exact ⟨_, _, _, rfl⟩
  obtain ⟨fuel, hf⟩ := h
  obtain ⟨xs, n, _, _, _, hlen, hg⟩ := DataW.trod_struct Tryd.underlying23 hf
  have hlen' : xs.length = 3 := hlen
  obtain ⟨x0, f0⟩ := get_some (hg 0 _ rfl) (by omega)
  obtain ⟨x1, f1⟩ := get_some (hg 1 _ rfl) (by omega)
  obtain ⟨x2, f2⟩ := get_some (hg 2 _ rfl) (by omega)
  simp [Value.cells, c3] at f0 f1 f2
  obtain ⟨z0, h0, _, w0⟩ := DataW.trod_int Tryd.underlying3 f0
  obtain ⟨z1, h1, _, w1⟩ := DataW.trod_int Tryd.underlying3 f1
  obtain ⟨z2, h2, _, w2⟩ := DataW.trod_int Tryd.underlying3 f2
  simp at h0 h1 h2
  subst h0 h1 h2
  have b0 := bounds_i64 w0
  have b1 := bounds_i64 w1
  exact ⟨z0, z1, z2, rfl, by omega, by omega⟩

end Go.Proofs.YtkcailgfggbigaaDoor
