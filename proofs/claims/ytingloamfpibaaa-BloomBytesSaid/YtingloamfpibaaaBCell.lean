/-
  SIEVES THAT LIE IN CELLS.
-/
import Derived.Test.YtingloamfpibaaaBSmall
import Derived.Deep.RegionHeld3
namespace Go.Proofs.Ytingloamfpibaaa
open Go.RowKit Go.Proofs.Mem
set_option linter.unusedVariables false

theorem cell_kept {W W' : World} {p : Addr} {v : Value} (hB : Below W.heap.size W W') (h : W.cell? p = some v) : W'.cell? p = some v := by
  refine (hB.cell (p := p) ?_).trans h
  rcases Nat.lt_or_ge p.block W.heap.size with hl | hl
  · exact hl
  · exfalso
    unfold World.cell? at h
    rw [Array.getElem?_eq_none hl] at h
    cases h
theorem addr_lt {W : World} {p : Addr} {v : Value} (h : W.cell? p = some v) : p.block < W.heap.size := by
  rcases Nat.lt_or_ge p.block W.heap.size with hl | hl
  · exact hl
  · exfalso
    unfold World.cell? at h
    rw [Array.getElem?_eq_none hl] at h
    cases h
/-- A sieve lies in a block. -/
def Blo (W : World) (B : Nat) (bi h : Int) (d : ByteArray) : Prop := W.cell? ⟨B, 0, none⟩ = some (.int .i64 bi) ∧ W.cell? ⟨B, 1, none⟩ = some (.int .i64 h) ∧ W.cell? ⟨B, 2, none⟩ = some (.string d)
theorem Blo.kept {W W' : World} {B : Nat} {bi h : Int} {d : ByteArray} (hB : Below W.heap.size W W') (hb : Blo W B bi h d) : Blo W' B bi h d := ⟨cell_kept hB hb.1, cell_kept hB hb.2.1, cell_kept hB hb.2.2⟩
theorem Blo.lt {W : World} {B : Nat} {bi h : Int} {d : ByteArray} (hb : Blo W B bi h d) : B < W.heap.size := addr_lt hb.1
theorem Blo.alloc {W : World} {B : Nat} {bi h : Int} {d : ByteArray} (o : Obj) (hb : Blo W B bi h d) : Blo (W.alloc o) B bi h d := hb.kept ((Below.refl _ _).alloc (Nat.le_refl _) _)
theorem Blo.new (W : World) (bi h : Int) (d : ByteArray) (t : TypeId) : Blo (W.alloc (.cells #[.int .i64 bi, .int .i64 h, .string d] t)) W.heap.size bi h d := by
  have hh : (W.alloc (.cells #[.int .i64 bi, .int .i64 h, .string d] t)).heap[W.heap.size]? = some (.cells #[.int .i64 bi, .int .i64 h, .string d] t) := heap_alloc_new W _
  exact ⟨cell_of_row _ _ 0 _ _ (0, 0) hh, cell_of_row _ _ 1 _ _ (0, 0) hh, cell_of_row _ _ 2 _ _ (0, 0) hh⟩
end Go.Proofs.Ytingloamfpibaaa
