/-
  few and siloref24.Fit of a sky that is written out.
-/
import Derived.Test.YtgllojpeggmleaaFew
import Derived.Test.YtgllojpeggmleaaAwk
import Derived.Test.YtgllojpeggmleaaSky
namespace Go.Proofs.Ytgllojpeggmleaa
open Go.RowKit Go.Proofs.Mem

def two {α : Type} (a b : α) : Nat → α := fun i => if i = 0 then a else b
def mkL (l0 l1 l2 l3 l4 l5 l6 l7 : Int) : Nat → Int := fun i => match i with | 0 => l0 | 1 => l1 | 2 => l2 | 3 => l3 | 4 => l4 | 5 => l5 | 6 => l6 | _ => l7

theorem few_x (D0 D1 : Value) (S0 S1 : List ByteArray) (ch : ByteArray) (l0 l1 l2 l3 l4 l5 l6 l7 fair : Int) (w : World) (h0 : Strs w w.heap.size D0 S0) (h1 : Strs w w.heap.size D1 S1) :
    Calls Try.prog 7 #[.agg #[D0, D1, .string ch, .int .i64 l0, .int .i64 l1, .int .i64 l2, .int .i64 l3, .int .i64 l4, .int .i64 l5, .int .i64 l6, .int .i64 l7, .int .i64 fair]] w fun e w' => e = .returned (.bool (decide (S0.length ≤ 70 ∧ S1.length ≤ 70 ∧ ch.size ≤ 1000))) ∧ Below w.heap.size w w' := by
  obtain ⟨A0, c0, e0, _⟩ := h0
  obtain ⟨A1, c1, e1, _⟩ := h1
  exact few_any (two D0 D1) (two S0 S1) ch (mkL l0 l1 l2 l3 l4 l5 l6 l7) fair w ⟨A0, c0, e0⟩ ⟨A1, c1, e1⟩
theorem fit_x (D0 D1 : Value) (S0 S1 : List ByteArray) (ch : ByteArray) (l0 l1 l2 l3 l4 l5 l6 l7 fair : Int) (w : World) (h0 : Strs w w.heap.size D0 S0) (h1 : Strs w w.heap.size D1 S1) (hl0 : S0.length ≤ 1000) (hl1 : S1.length ≤ 1000) :
    Calls Try.prog 8 #[.agg #[D0, D1, .string ch, .int .i64 l0, .int .i64 l1, .int .i64 l2, .int .i64 l3, .int .i64 l4, .int .i64 l5, .int .i64 l6, .int .i64 l7, .int .i64 fair]] w (FitX w (two S0 S1) (mkL l0 l1 l2 l3 l4 l5 l6 l7) fair) :=
  rfit_any (two D0 D1) (two S0 S1) ch (mkL l0 l1 l2 l3 l4 l5 l6 l7) fair w h0 h1 hl0 hl1

/-- What a fit sky is. -/
structure Fits (S0 S1 : List ByteArray) (l0 l1 l2 l3 l4 l5 l6 l7 fair : Int) : Prop where
  f1 : 1 ≤ fair
  f8 : fair ≤ 8
  s0 : S0.length ≤ 60
  s1 : S1.length ≤ 60
  z0 : ∀ x ∈ S0, x.size ≤ 65536
  z1 : ∀ x ∈ S1, x.size ≤ 65536
  a0 : 0 ≤ l0 ∧ l0 < fair
  a1 : 0 ≤ l1 ∧ l1 < fair
  a2 : 0 ≤ l2 ∧ l2 < fair
  a3 : 0 ≤ l3 ∧ l3 < fair
  a4 : 0 ≤ l4 ∧ l4 < fair
  a5 : 0 ≤ l5 ∧ l5 < fair
  a6 : 0 ≤ l6 ∧ l6 < fair
  a7 : 0 ≤ l7 ∧ l7 < fair
theorem fits_of {S0 S1 : List ByteArray} {l0 l1 l2 l3 l4 l5 l6 l7 fair : Int} (h : FitS (two S0 S1) (mkL l0 l1 l2 l3 l4 l5 l6 l7) fair) : Fits S0 S1 l0 l1 l2 l3 l4 l5 l6 l7 fair := by
  obtain ⟨h1, h2, h3⟩ := h
  obtain ⟨p0, q0, r0⟩ := h3 0 (by omega)
  obtain ⟨p1, q1, r1⟩ := h3 1 (by omega)
  exact ⟨h1, h2, p0, p1, r0, r1, q0 0 (by omega), q0 1 (by omega), q0 2 (by omega), q0 3 (by omega), q1 0 (by omega), q1 1 (by omega), q1 2 (by omega), q1 3 (by omega)⟩

theorem way_3 : wayOf ⟨#[3, 2]⟩ = 3 := by decide
theorem rest_3 : restOf ⟨#[3, 2]⟩ = ⟨#[2]⟩ := by decide
theorem way_2 : wayOf ⟨#[2]⟩ = 2 := by decide
theorem rest_2 : restOf ⟨#[2]⟩ = ⟨#[]⟩ := by decide

theorem last60_length (l : List ByteArray) : (last60 l).length = min l.length 60 := by unfold last60; rw [List.length_drop]; omega
theorem last60_get (l : List ByteArray) (j : Nat) : (last60 l)[j]? = l[l.length - 60 + j]? := by unfold last60; rw [List.getElem?_drop]

end Go.Proofs.Ytgllojpeggmleaa
