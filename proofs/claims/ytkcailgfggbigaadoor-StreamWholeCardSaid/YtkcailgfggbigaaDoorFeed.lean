/-
  stream.Feed, stream.End: what they answer.
-/
import Derived.Test.YtkcailgfggbigaaDoorCol
namespace Go.Proofs.YtkcailgfggbigaaDoor
open Go.RowKit Go.Shelf Go.Proofs.Gear Go.Proofs.Mem
attribute [local go_sem] Oper.semAt_some
set_option linter.unusedVariables false

theorem pieces_fn (C : Nat) (th : Int) (w : World) :
    Calls Tryd.prog 33 #[.pointer (some ⟨C, 0, none⟩), .int .i64 th] w fun e w' =>
      e = .returned (.func (.func 41) #[] #[.pointer (some ⟨w.heap.size, 0, none⟩), .pointer (some ⟨w.heap.size + 1, 0, none⟩)]) ∧ w' = (w.alloc (.cells #[.pointer (some ⟨C, 0, none⟩)] 51)).alloc (.cells #[.int .i64 th] 3) := by
  go_enter Tryd.func33, Tryd.ntmps33
  go_wp2
  go_ret
  exact ⟨rfl, rfl⟩

set_option maxHeartbeats 600000 in
theorem feed_any {mn av mx b : Nat} (hf : FitN mn av mx b) (t s : ByteArray) (hs : t.size + s.size ≤ 100000) (w : World) (hL : Laid w) :
    Calls Tryd.prog 20 #[.agg #[.int .i64 mn, .int .i64 av, .int .i64 mx], .agg #[.string t], .string s] w fun e w' =>
      ∃ v, e = .returned (.tuple #[.agg #[.string (fed mn av mx b mx (t ++ s)).2], v]) ∧ w'.ownsRow w.heap.size 9 1 v (fed mn av mx b mx (t ++ s)).1.length ((fed mn av mx b mx (t ++ s)).1.map .string) ∧ Below w.heap.size w w' := by
  have hmm : mn ≤ mx := Nat.le_trans hf.min hf.max
  have hm1 := hf.one
  have hbg := hf.big
  have HF := Lib.hid hf
  clear hf
  have HL := Lib.hid hL
  clear hL
  have hac : ¬9223372036854775807 < t.size + s.size := by omega
  go_enter Tryd.func20, Tryd.ntmps20
  go_wp2_with (go_at_call 33; refine Calls.mono (pieces_fn _ _ _) ?_; rintro e w' ⟨rfl, rfl⟩)
  obtain ⟨W0, hW0⟩ : ∃ W0, ((((((w.alloc (.cells #[.int .i64 mn, .int .i64 av, .int .i64 mx] 23)).alloc (.cells #[.string t] 32)).alloc (.cells #[.string ⟨#[]⟩] 32)).alloc (.cells #[.string (t ++ s), .int .i64 mn, .int .i64 av, .int .i64 mx] 53)).alloc (.cells #[.pointer (some ⟨w.heap.size + 1 + 1 + 1, 0, none⟩)] 51)).alloc (.cells #[.int .i64 mx] 3)) = W0 := ⟨_, rfl⟩
  have hsz : W0.heap.size = w.heap.size + 6 := by rw [← hW0]; simp only [World.size_alloc]
  have hK : Cutter W0 (w.heap.size + 1 + 1 + 1) (w.heap.size + 1 + 1 + 1 + 1) (w.heap.size + 1 + 1 + 1 + 1 + 1) (t ++ s) mn av mx mx := by
    rw [← hW0]; clear hW0 hsz
    refine ⟨?_, ?_, ?_, ?_, ?_, ?_, ?_⟩
    all_goals go_simp
  have r0 : W0.cell? ⟨w.heap.size + 1 + 1, 0, none⟩ = some (.string ⟨#[]⟩) := by rw [← hW0]; clear hsz hW0; go_simp
  have r1 : W0.frozen? ⟨w.heap.size + 1 + 1, 0, none⟩ = false := by rw [← hW0]; clear hsz hW0; go_simp
  have hB0 : Below w.heap.size w W0 := by rw [← hW0]; clear hsz hW0; go_grown
  rw [hW0]
  clear hW0
  have hLV : ∀ V : World, Below (w.heap.size + 1 + 1 + 1) W0 V → Laid V := fun V hV => HL.out.on (hB0.trans (hV.mono (by omega)))
  have hts : (t ++ s).size ≤ 100000 := by rw [ByteArray.size_append]; exact hs
  refine Calls.mono (collect_any HF.out (w.heap.size + 1 + 1 + 1) (w.heap.size + 1 + 1 + 1 + 1) (w.heap.size + 1 + 1 + 1 + 1 + 1) mx W0 (by omega) (by omega) (by omega) (by omega) (by omega) (by omega) (by omega) (t ++ s) hts hLV hK) ?_
  rintro e w' ⟨v, rfl, hr, hK', hB'⟩
  have q0 := (hB'.cell (p := ⟨w.heap.size + 1 + 1, 0, none⟩) (Nat.lt_succ_self _)).trans r0
  have q1 := (World.frozen?_of_block (a := ⟨w.heap.size + 1 + 1, 0, none⟩) (hB'.block _ (Nat.lt_succ_self _))).trans r1
  have c0 := hK'.c0
  dsimp only
  go_wp2
  have e0 : (w'.setCell ⟨w.heap.size + 1 + 1, 0, none⟩ (.string (fed mn av mx b mx (t ++ s)).2)).cell? ⟨w.heap.size + 1 + 1, 0, none⟩ = some (.string (fed mn av mx b mx (t ++ s)).2) := World.cell?_setCell_same' _ _ _ (by rw [q0]; rfl)
  have hB6 : Below w.heap.size w (w'.setCell ⟨w.heap.size + 1 + 1, 0, none⟩ (.string (fed mn av mx b mx (t ++ s)).2)) := (hB0.trans (hB'.mono (by omega))).setCell (p := ⟨w.heap.size + 1 + 1, 0, none⟩) (by simp; omega) _
  have hr6 := hr.kept (grownBy_setCell' w' (w.heap.size + 1 + 1) (.string (fed mn av mx b mx (t ++ s)).2)) (by
    rcases hr.2 with ⟨e, _⟩ | ⟨g, cap, cur, e, hg, _⟩
    · exact .inl (by rw [e]; rfl)
    · refine .inr fun h => ?_
      rw [e] at h
      have : g = w.heap.size + 1 + 1 := by simpa [Value.ownBlock] using h
      omega)
  clear q0 q1 c0 hr hB'
  generalize w'.setCell ⟨w.heap.size + 1 + 1, 0, none⟩ (.string (fed mn av mx b mx (t ++ s)).2) = w7 at *
  refine bodyPost_ret (v := .tuple #[.agg #[.string (fed mn av mx b mx (t ++ s)).2], v]) ?_ rfl ?_
  · simp only [results, Tryd.f20]
    go_simp
  · exact ⟨v, rfl, ⟨hr6.1, hr6.2.imp id (by rintro ⟨g, cap, cur, h1, h2, h3⟩; exact ⟨g, cap, cur, h1, by omega, h3⟩)⟩, hB6⟩

end Go.Proofs.YtkcailgfggbigaaDoor
