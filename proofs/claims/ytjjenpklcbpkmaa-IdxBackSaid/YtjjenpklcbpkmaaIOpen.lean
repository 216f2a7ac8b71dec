/-
  A slice of slots that came in, opened.
-/
import Derived.Test.YtjjenpklcbpkmaaISlt
import Derived.Test.YtjjenpklcbpkmaaShell
import Derived.Test.YtjjenpklcbpkmaaOpen
import Derived.Deep.Slices
import Derived.Deep.Fields
namespace Go.Proofs.Ytjjenpklcbpkmaa
open Go.RowKit Go.Proofs.Mem Go.ChangeShapes Go.WideShapes Go.ChangeAt
set_option linter.unusedVariables false

theorem cellsL_at (l : List Slt) (j : Nat) : (cellsL l)[j]? = (l[j / 3]?).bind fun x => x.cells[j % 3]? := by
  unfold cellsL
  induction l generalizing j with
  | nil => simp
  | cons x l ih =>
    rw [List.flatMap_cons]
    have hx : x.cells.length = 3 := rfl
    rcases Nat.lt_or_ge j 3 with h | h
    · rw [List.getElem?_append_left (by omega), Nat.div_eq_of_lt h, Nat.mod_eq_of_lt h]
      rfl
    · obtain ⟨i, rfl⟩ : ∃ i, j = i + 3 := ⟨j - 3, by omega⟩
      rw [List.getElem?_append_right (by omega), hx, Nat.add_sub_cancel, ih i, Nat.add_div_right _ (by decide), Nat.add_mod_right, List.getElem?_cons_succ]

theorem get_some {α : Type} {o : Option α} {l : List α} {i : Nat} (h : o = l[i]?) (hi : i < l.length) : ∃ x, o = some x := ⟨l[i], by rw [h, List.getElem?_eq_getElem hi]⟩

theorem open_slots {H : Type} {enc : TypeId × Value → H} {W : World} {A : Option Addr} {n c : Nat} {d : DataW H} {p : List MemPlace}
    (h : DataW.Trod enc Try.prog W 0 (fun _ => true) true 22 (.slice A n c) d p) :
    ∃ l : List Slt, Slots W W.heap.size (.slice A n c) l ∧ ∀ x ∈ l, x.k.size ≤ maxLen := by
  obtain ⟨fuel, hf⟩ := h
  have hC : Try.prog.cellsOf 34 = 3 := by kernel_rfl
  have c3 : Try.prog.cellsOf 3 = 1 := by kernel_rfl
  have c4 : Try.prog.cellsOf 9 = 1 := by kernel_rfl
  rcases Go.Deep.open_slice Try.underlying22 hf with ⟨hcs, _⟩ | ⟨a, len, cap, m, n', D, Pl, hcs, _, hl, hm, hmm, _, hi⟩
  · simp [Value.cells] at hcs
    obtain ⟨rfl, rfl, rfl⟩ := hcs
    exact ⟨[], Slots.nil, fun x hx => by cases hx⟩
  · simp [Value.cells] at hcs
    obtain ⟨rfl, rfl, rfl⟩ := hcs
    have hone : ∀ i, ∃ x : Slt, i < n → x.k.size ≤ maxLen ∧ ∀ j, j < 3 → W.cell? (a.add (i * 3 + j)) = x.cells[j]? := by
      intro i
      by_cases hin : i < n
      · have him : i < m := by
          rw [hmm]
          split <;> omega
        obtain ⟨cs', hcc, ht⟩ := hi i him
        rw [hC] at hcc
        obtain ⟨_, hcl, hat⟩ := World.cells?_some hcc
        obtain ⟨xs, q, _, _, _, hlen, hg⟩ := DataW.trod_struct Try.underlying34 ht
        have hlen' : xs.length = 3 := hlen
        obtain ⟨a0, a1, a2, rfl⟩ : ∃ a0 a1 a2, cs' = [a0, a1, a2] := by
          match cs', hcl with
          | [a0, a1, a2], _ => exact ⟨_, _, _, rfl⟩
        obtain ⟨x0, f0⟩ := get_some (hg 0 _ rfl) (by omega)
        obtain ⟨x1, f1⟩ := get_some (hg 1 _ rfl) (by omega)
        obtain ⟨x2, f2⟩ := get_some (hg 2 _ rfl) (by omega)
        simp [c3, c4] at f0 f1 f2
        obtain ⟨z0, h0, _, w0⟩ := DataW.trod_string Try.underlying9 f0
        obtain ⟨z1, h1, _, w1⟩ := DataW.trod_int Try.underlying3 f1
        obtain ⟨z2, h2, _, w2⟩ := DataW.trod_int Try.underlying3 f2
        simp at h0 h1 h2
        subst h0 h1 h2
        refine ⟨⟨z0, z1, z2⟩, fun _ => ⟨w0, fun j hj => ?_⟩⟩
        rw [← Go.Deep.add_add]
        exact hat j hj
      · exact ⟨⟨⟨#[]⟩, 0, 0⟩, fun h => absurd h hin⟩
    obtain ⟨f, hf'⟩ := Classical.axiomOfChoice hone
    have hll : ((List.range n).map f).length = n := by rw [List.length_map, List.length_range]
    refine ⟨(List.range n).map f, ⟨some a, c, by rw [hll], by rw [hll]; exact hl, hm, ?_⟩, fun x hx => ?_⟩
    · by_cases h0 : n = 0
      · subst h0
        exact .inl rfl
      · have hc0 := (hf' 0 (by omega)).2 0 (by omega)
        obtain ⟨b, off, spot⟩ := a
        have h1 : (⟨b, off, spot⟩ : Addr).add (0 * 3 + 0) = ⟨b, off, spot⟩ := by simp [Addr.add]
        rw [h1] at hc0
        have hsp : spot = none := World.cell?_spot (v := .string (f 0).k) hc0
        subst hsp
        have hcell : ∀ i j, i < n → j < 3 → W.cell? ⟨b, off + (i * 3 + j), none⟩ = (f i).cells[j]? := by
          intro i j hi' hj
          have := (hf' i hi').2 j hj
          rw [add_plain] at this
          exact this
        refine .inr ⟨b, off, rfl, cell_lt (hcell 0 0 (by omega) (by omega)), fun j v hj => ?_⟩
        rw [cellsL_at] at hj
        have hjn : j / 3 < n := by
          rcases Nat.lt_or_ge (j / 3) n with h | h
          · exact h
          · rw [List.getElem?_eq_none (by rw [hll]; exact h)] at hj
            cases hj
        rw [List.getElem?_map, List.getElem?_range hjn] at hj
        have := hcell (j / 3) (j % 3) hjn (Nat.mod_lt _ (by decide))
        rw [show j / 3 * 3 + j % 3 = j by omega] at this
        exact this.trans hj
    · obtain ⟨i, hi', rfl⟩ := List.mem_map.1 hx
      exact (hf' i (List.mem_range.1 hi')).1

end Go.Proofs.Ytjjenpklcbpkmaa
