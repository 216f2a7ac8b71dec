/-
  siloref24.side.
-/
import Derived.Test.YtgllojpeggmleaaNSame
import Derived.Test.YtgllojpeggmleaaChoose
namespace Go.Proofs.Ytgllojpeggmleaa
open Go.RowKit Go.Proofs.Mem
set_option linter.unusedVariables false

theorem side_any (to : Int) (w : World) : Calls Try.prog 24 #[.int .i64 to] w fun e w' => e = .returned (.bool (decide (to = 0 ∨ to = 1))) ∧ w' = w := by
  by_cases h0 : to = 0
  · subst h0
    go_enter Try.func24, Try.ntmps24
    go_wp2
    go_ret
    exact ⟨rfl, rfl⟩
  · have hd : (to == 0) = false := by simpa using h0
    by_cases h1 : to = 1
    · subst h1
      go_enter Try.func24, Try.ntmps24
      go_wp2
      go_ret
      exact ⟨rfl, rfl⟩
    · have hd1 : (to == 1) = false := by simpa using h1
      rw [decide_eq_false (show ¬ (to = 0 ∨ to = 1) from fun h => h.elim h0 h1)]
      clear h0 h1
      go_enter Try.func24, Try.ntmps24
      go_wp2
      go_ret
      exact ⟨rfl, rfl⟩

theorem way_mod (ch : ByteArray) (h0 : 0 < ch.size) : (ch[0].toNat : Int) % 4 = (wayOf ch : Nat) := by
  unfold wayOf
  rw [dif_pos h0]
  omega
theorem rest_cut (ch : ByteArray) (h0 : 0 < ch.size) : ch.extract 1 ch.size = restOf ch := by unfold restOf; rw [if_pos h0]

theorem own_slice {w : World} {b n : Nat} {e : TypeId} {size : Nat} {v : Value} {xs : List Value} (h : w.ownsRow b e size v n xs) : ∃ A m c, v = .slice A m c := by
  rcases h.2 with ⟨h1, _⟩ | ⟨g, cap, cur, h1, _⟩
  · exact ⟨_, _, _, h1⟩
  · exact ⟨_, _, _, h1⟩
theorem own_block {w : World} {b n : Nat} {e : TypeId} {v : Value} {ss : List ByteArray} (h : w.ownsRow b e 1 v n (ss.map .string)) (hx : ss ≠ []) : ∃ g cap, v = .slice (some ⟨g, 0, none⟩) n cap ∧ n = ss.length ∧ n ≤ cap ∧ cap ≤ maxLen ∧ b ≤ g ∧ g < w.heap.size ∧ Row w w.heap.size (some ⟨g, 0, none⟩) (ss.map .string) := by
  have hn : n = ss.length := by have := h.1; simp at this; omega
  rcases h.2 with ⟨_, h0⟩ | ⟨g, cap, cur, rfl, hb, hh, hle, hm, hsz, hxx⟩
  · exact absurd (List.eq_nil_of_length_eq_zero (by omega)) hx
  · refine ⟨g, cap, rfl, hn, hle, hm, hb, ?_, row_of_own h⟩
    rcases Nat.lt_or_ge g w.heap.size with hl | hl
    · exact hl
    · rw [Array.getElem?_eq_none hl] at hh; cases hh

theorem heap_new' {w : World} {o : Obj} {k : Nat} (h : k = w.heap.size) : (w.alloc o).heap[k]? = some o := by subst h; exact heap_alloc_new w o

def Box12 (W : World) (B : Nat) (c0 c1 c2 c3 c4 c5 c6 c7 c8 c9 c10 c11 : Value) : Prop := W.cell? ⟨B, 0, none⟩ = some c0 ∧ W.cell? ⟨B, 1, none⟩ = some c1 ∧ W.cell? ⟨B, 2, none⟩ = some c2 ∧ W.cell? ⟨B, 3, none⟩ = some c3 ∧ W.cell? ⟨B, 4, none⟩ = some c4 ∧ W.cell? ⟨B, 5, none⟩ = some c5 ∧ W.cell? ⟨B, 6, none⟩ = some c6 ∧ W.cell? ⟨B, 7, none⟩ = some c7 ∧ W.cell? ⟨B, 8, none⟩ = some c8 ∧ W.cell? ⟨B, 9, none⟩ = some c9 ∧ W.cell? ⟨B, 10, none⟩ = some c10 ∧ W.cell? ⟨B, 11, none⟩ = some c11 ∧ ∀ o, W.frozen? ⟨B, o, none⟩ = false
theorem Box12.kept {W W' : World} {B N : Nat} {c0 c1 c2 c3 c4 c5 c6 c7 c8 c9 c10 c11 : Value} (h : Box12 W B c0 c1 c2 c3 c4 c5 c6 c7 c8 c9 c10 c11) (hb : Below N W W') (hN : B < N) : Box12 W' B c0 c1 c2 c3 c4 c5 c6 c7 c8 c9 c10 c11 := by
  obtain ⟨h0, h1, h2, h3, h4, h5, h6, h7, h8, h9, h10, h11, hf⟩ := h
  exact ⟨(hb.cell (p := ⟨B, 0, none⟩) hN).trans h0, (hb.cell (p := ⟨B, 1, none⟩) hN).trans h1, (hb.cell (p := ⟨B, 2, none⟩) hN).trans h2, (hb.cell (p := ⟨B, 3, none⟩) hN).trans h3, (hb.cell (p := ⟨B, 4, none⟩) hN).trans h4, (hb.cell (p := ⟨B, 5, none⟩) hN).trans h5, (hb.cell (p := ⟨B, 6, none⟩) hN).trans h6, (hb.cell (p := ⟨B, 7, none⟩) hN).trans h7, (hb.cell (p := ⟨B, 8, none⟩) hN).trans h8, (hb.cell (p := ⟨B, 9, none⟩) hN).trans h9, (hb.cell (p := ⟨B, 10, none⟩) hN).trans h10, (hb.cell (p := ⟨B, 11, none⟩) hN).trans h11, fun o => (hb.frozen (p := ⟨B, o, none⟩) hN).trans (hf o)⟩

end Go.Proofs.Ytgllojpeggmleaa
