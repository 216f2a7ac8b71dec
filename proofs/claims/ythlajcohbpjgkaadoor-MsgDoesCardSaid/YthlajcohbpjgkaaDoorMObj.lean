/-
  Objects in memory.
-/
import Derived.Test.YthlajcohbpjgkaaDoorMem
import Derived.Test.YthlajcohbpjgkaaDoorMDef
import Derived.Lib.Hide
import Derived.Handy
namespace Go.Proofs.YthlajcohbpjgkaaDoor
open Go.RowKit Go.Proofs.Mem
set_option linter.unusedVariables false

abbrev ObjL := ByteArray × ByteArray
def objCells (x : ObjL) : List Value := [.string x.1, .string x.2]
def cellsO (l : List ObjL) : List Value := l.flatMap objCells
theorem cellsO_len (l : List ObjL) : (cellsO l).length = 2 * l.length := by
  unfold cellsO
  induction l with
  | nil => rfl
  | cons x l ih => rw [List.flatMap_cons, List.length_append, ih, List.length_cons]; show 2 + _ = _; omega
theorem cellsO_get {l : List ObjL} {i : Nat} {x : ObjL} (h : l[i]? = some x) : (cellsO l)[2 * i]? = some (.string x.1) ∧ (cellsO l)[2 * i + 1]? = some (.string x.2) := by
  unfold cellsO
  induction l generalizing i with
  | nil => simp at h
  | cons y l ih =>
    rw [List.flatMap_cons]
    cases i with
    | zero =>
      simp at h
      subst h
      exact ⟨rfl, rfl⟩
    | succ i =>
      simp at h
      obtain ⟨h0, h1⟩ := ih h
      have e : ∀ j, (objCells y ++ List.flatMap objCells l)[2 * (i + 1) + j]? = (List.flatMap objCells l)[2 * i + j]? := by
        intro j
        rw [List.getElem?_append_right (by show 2 ≤ _; omega)]
        congr 1
        show _ - 2 = _
        omega
      exact ⟨(e 0).trans h0, (e 1).trans h1⟩
/-- A slice of objects. -/
def Objs (w : World) (B : Nat) (v : Value) (l : List ObjL) : Prop :=
  ∃ A c, v = .slice A l.length c ∧ l.length ≤ c ∧ c ≤ maxLen ∧ Row w B A (cellsO l)
theorem Objs.below {w w' : World} {B : Nat} {v : Value} {l : List ObjL} (h : Objs w B v l) (hb : Below B w w') : Objs w' B v l := by
  obtain ⟨A, c, e, h1, h2, h3⟩ := h
  exact ⟨A, c, e, h1, h2, h3.below hb⟩
theorem Objs.more {w : World} {B B' : Nat} {v : Value} {l : List ObjL} (h : Objs w B v l) (hB : B ≤ B') : Objs w B' v l := by
  obtain ⟨A, c, e, h1, h2, h3⟩ := h
  exact ⟨A, c, e, h1, h2, h3.more hB⟩
theorem Objs.on {w w' : World} {v : Value} {l : List ObjL} (h : Objs w w.heap.size v l) (hb : Below w.heap.size w w') : Objs w' w'.heap.size v l := (h.below hb).more hb.size
theorem Objs.nil {w : World} {B : Nat} : Objs w B (.slice none 0 0) [] := ⟨none, 0, rfl, Nat.le_refl _, by unfold maxLen; omega, Row.nil⟩
/-- The cells of an object in a row. -/
theorem row_obj {w : World} {B : Nat} {A : Option Addr} {l : List ObjL} (h : Row w B A (cellsO l)) {i : Nat} {x : ObjL} (hx : l[i]? = some x) :
    ∃ b o, A = some ⟨b, o, none⟩ ∧ b < B ∧ w.cell? ⟨b, o + i * 2, none⟩ = some (.string x.1) ∧ w.cell? ⟨b, o + i * 2 + 1, none⟩ = some (.string x.2) := by
  have hi : i < l.length := by
    rcases Nat.lt_or_ge i l.length with h | h
    · exact h
    · rw [List.getElem?_eq_none h] at hx; cases hx
  obtain ⟨b, o, e, hb, hc⟩ := h.at_ (by rw [cellsO_len]; omega)
  obtain ⟨h0, h1⟩ := cellsO_get hx
  refine ⟨b, o, e, hb, ?_, ?_⟩
  · rw [show o + i * 2 = o + 2 * i by omega]; exact hc _ _ h0
  · rw [show o + i * 2 + 1 = o + (2 * i + 1) by omega]; exact hc _ _ h1

end Go.Proofs.YthlajcohbpjgkaaDoor
