/-
  A slice of strings that came in, opened.
-/
import Derived.Test.YthlajcohbpjgkaaDoorMem
import Derived.Test.YthlajcohbpjgkaaDoorShell
import Derived.SliceStrings
namespace Go.Proofs.YthlajcohbpjgkaaDoor
open Go.RowKit Go.Proofs.Mem Go.ChangeShapes Go.WideShapes Go.ChangeAt

theorem cell_lt {w : World} {b o : Nat} {v : Value} (h : w.cell? ⟨b, o, none⟩ = some v) : b < w.heap.size := by
  rcases Nat.lt_or_ge b w.heap.size with hl | hl
  · exact hl
  · unfold World.cell? at h
    rw [Array.getElem?_eq_none hl] at h
    cases h

theorem add_plain (b off j : Nat) : (⟨b, off, none⟩ : Addr).add j = ⟨b, off + j, none⟩ := by unfold Addr.add; split <;> simp_all

theorem open_strs {P : Program} {H : Type} {enc : TypeId × Value → H} {W : World} {t e : TypeId} {A : Option Addr} {n c : Nat} {d : DataW H} {p : List MemPlace} (ht : P.underlying t = some (.slice e)) (he : P.underlying e = some .string) (hC : P.cellsOf e = 1)
    (h : DataW.Trod enc P W 0 (fun _ => true) true t (.slice A n c) d p) :
    ∃ ls : List ByteArray, n = ls.length ∧ n ≤ c ∧ c ≤ maxLen ∧ Row W W.heap.size A (ls.map .string) ∧ ∀ s ∈ ls, s.size ≤ maxLen := by
  obtain ⟨fuel, hf⟩ := h
  rcases open_strings ht he hC hf with ⟨hcs, hx⟩ | ⟨a, len', cap', ss, hcs, _, hl, hm, hz, hx, hcell, hws⟩
  · simp [Value.cells] at hcs
    obtain ⟨rfl, rfl, rfl⟩ := hcs
    exact ⟨[], rfl, Nat.le_refl _, by unfold maxLen; omega, Row.nil, by simp⟩
  · simp [Value.cells] at hcs
    obtain ⟨rfl, rfl, rfl⟩ := hcs
    have hss : ss.length = c := by simpa using hz
    refine ⟨ss.take n, by rw [List.length_take]; omega, hl, hm, ?_, fun s hs => hws s (List.mem_of_mem_take hs)⟩
    by_cases h0 : n = 0
    · subst h0; exact .inl (by simp)
    · have hc0 := hcell 0 (by omega)
      obtain ⟨b, off, spot⟩ := a
      have hsp : spot = none := by simpa [Addr.add] using World.cell?_spot hc0
      subst hsp
      rw [add_plain] at hc0
      refine .inr ⟨b, off, rfl, cell_lt hc0, fun j v hj => ?_⟩
      rw [List.getElem?_map, List.getElem?_take] at hj
      split at hj
      · rename_i hjn
        have hjs : j < ss.length := by omega
        rw [List.getElem?_eq_getElem hjs] at hj
        have := hcell j hjs
        rw [add_plain] at this
        rw [this]
        simp at hj
        rw [← hj, List.getD_eq_getElem?_getD, List.getElem?_eq_getElem hjs]
        rfl
      · cases hj

end Go.Proofs.YthlajcohbpjgkaaDoor
