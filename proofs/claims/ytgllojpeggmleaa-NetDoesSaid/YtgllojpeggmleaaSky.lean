/-
  A sky that came in, opened.
-/
import Derived.Test.YtgllojpeggmleaaOpen
import Derived.Test.YtgllojpeggmleaaChoose
namespace Go.Proofs.Ytgllojpeggmleaa
open Go.RowKit Go.Proofs.Mem Go.ChangeShapes Go.WideShapes Go.ChangeAt

theorem open_strs1 {P : Program} {H : Type} {enc : TypeId × Value → H} {W : World} {t e : TypeId} {D : Value} {x : DataW H × List MemPlace} {fuel : Nat} (ht : P.underlying t = some (.slice e)) (he : P.underlying e = some .string) (hC : P.cellsOf e = 1)
    (h : DataW.trod enc P W 0 (fun _ => true) true fuel t [D] = some x) : ∃ ls : List ByteArray, Strs W W.heap.size D ls ∧ ∀ s ∈ ls, s.size ≤ maxLen := by
  have hs : ∃ A n c, D = .slice A n c := by
    rcases open_strings ht he hC h with ⟨hcs, _⟩ | ⟨a, len', cap', ss, hcs, _⟩
    · simp at hcs; exact ⟨_, _, _, hcs⟩
    · simp at hcs; exact ⟨_, _, _, hcs⟩
  obtain ⟨A, n, c, rfl⟩ := hs
  obtain ⟨ls, h1, h2, h3, h4, h5⟩ := open_strs (d := x.1) (p := x.2) ht he hC ⟨fuel, h⟩
  subst h1
  exact ⟨ls, ⟨A, c, rfl, h2, h3, h4⟩, h5⟩

theorem list12 {α : Type} (l : List α) (h : l.length = 12) : ∃ a0 a1 a2 a3 a4 a5 a6 a7 a8 a9 a10 a11, l = [a0, a1, a2, a3, a4, a5, a6, a7, a8, a9, a10, a11] := by
  match l, h with
  | [a0, a1, a2, a3, a4, a5, a6, a7, a8, a9, a10, a11], _ => exact ⟨_, _, _, _, _, _, _, _, _, _, _, _, rfl⟩

theorem get_some {α : Type} {o : Option α} {l : List α} {i : Nat} (h : o = l[i]?) (hi : i < l.length) : ∃ x, o = some x := ⟨l[i], by rw [h, List.getElem?_eq_getElem hi]⟩

theorem open_sky {H : Type} {enc : TypeId × Value → H} {W : World} {r : Reach} {b0 : Nat} {v : Value} {d : DataW H} {p : List MemPlace}
    (hv : Value.okWide Try.prog W r b0 27 v) (h : DataW.Trod enc Try.prog W 0 (fun _ => true) true 27 v d p) :
    ∃ (D : Nat → Value) (S : Nat → List ByteArray) (ch : ByteArray) (L : Nat → Int) (fair : Int), v = skyV D ch L fair ∧ Strs W W.heap.size (D 0) (S 0) ∧ Strs W W.heap.size (D 1) (S 1) ∧ ch.size ≤ maxLen ∧ (∀ s ∈ S 0, s.size ≤ maxLen) ∧ (∀ s ∈ S 1, s.size ≤ maxLen) ∧
      (∀ i, i < 8 → (Lit.int .i64 (L i)).wf = true) ∧ (Lit.int .i64 fair).wf = true := by
  obtain ⟨cs, rfl, hsz⟩ := okWide_struct Try.underlying27 hv
  obtain ⟨l⟩ := cs
  have hC : Try.prog.cellsOf 27 = 12 := by kernel_rfl
  have c23 : Try.prog.cellsOf 23 = 2 := by kernel_rfl
  have c22 : Try.prog.cellsOf 22 = 1 := by kernel_rfl
  have c9 : Try.prog.cellsOf 9 = 1 := by kernel_rfl
  have c25 : Try.prog.cellsOf 25 = 8 := by kernel_rfl
  have c24 : Try.prog.cellsOf 24 = 4 := by kernel_rfl
  have c3 : Try.prog.cellsOf 3 = 1 := by kernel_rfl
  obtain ⟨a0, a1, a2, a3, a4, a5, a6, a7, a8, a9, a10, a11, rfl⟩ := list12 l (by simpa using hsz.trans hC)
  obtain ⟨fuel, hf⟩ := h
  obtain ⟨xs, n, _, _, _, hlen, hg⟩ := DataW.trod_struct Try.underlying27 hf
  have hlen' : xs.length = 4 := hlen
  obtain ⟨x0, f0⟩ := get_some (hg 0 _ rfl) (by omega)
  obtain ⟨x1, f1⟩ := get_some (hg 1 _ rfl) (by omega)
  obtain ⟨x2, f2⟩ := get_some (hg 2 _ rfl) (by omega)
  obtain ⟨x3, f3⟩ := get_some (hg 3 _ rfl) (by omega)
  simp [Value.cells, c23, c9, c25, c3] at f0 f1 f2 f3
  obtain ⟨ys, m, _, _, _, hyl, hy⟩ := DataW.trod_array Try.underlying23 f0
  obtain ⟨y0, g0⟩ := get_some (hy 0 (by omega)) (by omega)
  obtain ⟨y1, g1⟩ := get_some (hy 1 (by omega)) (by omega)
  simp [c22] at g0 g1
  obtain ⟨S0, hS0, hz0⟩ := open_strs1 Try.underlying22 Try.underlying9 c9 g0
  obtain ⟨S1, hS1, hz1⟩ := open_strs1 Try.underlying22 Try.underlying9 c9 g1
  obtain ⟨ch, hch, _, hchz⟩ := DataW.trod_string Try.underlying9 f1
  obtain ⟨fair, hfair, _, wfair⟩ := DataW.trod_int Try.underlying3 f3
  obtain ⟨zs, k, _, _, _, hzl, hzz⟩ := DataW.trod_array Try.underlying25 f2
  obtain ⟨z0, e0⟩ := get_some (hzz 0 (by omega)) (by omega)
  obtain ⟨z1, e1⟩ := get_some (hzz 1 (by omega)) (by omega)
  simp [c24] at e0 e1
  obtain ⟨us, k0, _, _, _, hul, hu⟩ := DataW.trod_array Try.underlying24 e0
  obtain ⟨vs, k1, _, _, _, hvl, hvv⟩ := DataW.trod_array Try.underlying24 e1
  obtain ⟨_, q0⟩ := get_some (hu 0 (by omega)) (by omega)
  obtain ⟨_, q1⟩ := get_some (hu 1 (by omega)) (by omega)
  obtain ⟨_, q2⟩ := get_some (hu 2 (by omega)) (by omega)
  obtain ⟨_, q3⟩ := get_some (hu 3 (by omega)) (by omega)
  obtain ⟨_, q4⟩ := get_some (hvv 0 (by omega)) (by omega)
  obtain ⟨_, q5⟩ := get_some (hvv 1 (by omega)) (by omega)
  obtain ⟨_, q6⟩ := get_some (hvv 2 (by omega)) (by omega)
  obtain ⟨_, q7⟩ := get_some (hvv 3 (by omega)) (by omega)
  simp [c3] at q0 q1 q2 q3 q4 q5 q6 q7
  obtain ⟨l0, p0, _, w0⟩ := DataW.trod_int Try.underlying3 q0
  obtain ⟨l1, p1, _, w1⟩ := DataW.trod_int Try.underlying3 q1
  obtain ⟨l2, p2, _, w2⟩ := DataW.trod_int Try.underlying3 q2
  obtain ⟨l3, p3, _, w3⟩ := DataW.trod_int Try.underlying3 q3
  obtain ⟨l4, p4, _, w4⟩ := DataW.trod_int Try.underlying3 q4
  obtain ⟨l5, p5, _, w5⟩ := DataW.trod_int Try.underlying3 q5
  obtain ⟨l6, p6, _, w6⟩ := DataW.trod_int Try.underlying3 q6
  obtain ⟨l7, p7, _, w7⟩ := DataW.trod_int Try.underlying3 q7
  simp at hch hfair p0 p1 p2 p3 p4 p5 p6 p7
  subst hch hfair p0 p1 p2 p3 p4 p5 p6 p7
  refine ⟨fun i => if i = 0 then a0 else a1, fun i => if i = 0 then S0 else S1, ch, fun i => match i with | 0 => l0 | 1 => l1 | 2 => l2 | 3 => l3 | 4 => l4 | 5 => l5 | 6 => l6 | _ => l7, fair, rfl, hS0, hS1, hchz, hz0, hz1, ?_, wfair⟩
  intro i hi
  have : i = 0 ∨ i = 1 ∨ i = 2 ∨ i = 3 ∨ i = 4 ∨ i = 5 ∨ i = 6 ∨ i = 7 := by omega
  rcases this with rfl | rfl | rfl | rfl | rfl | rfl | rfl | rfl <;> assumption

end Go.Proofs.Ytgllojpeggmleaa
