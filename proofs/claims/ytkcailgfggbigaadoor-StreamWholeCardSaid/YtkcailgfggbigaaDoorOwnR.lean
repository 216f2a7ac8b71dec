/-
  A RANGE OVER AN ITERATOR THAT WRITES A CELL OF ITS OWN (block C) between two rounds, where the body never leaves early.
-/
import Derived.Test.YtkcailgfggbigaaDoorCut
import Derived.RangeFuncBox
namespace Go.Proofs.YtkcailgfggbigaaDoor
open Go.RowKit Go.Shelf Go.Proofs.Gear
set_option linter.unusedVariables false

/-- What is said between two rounds stays so where whatever lay there lies on, and where block C's cell is written. -/
structure Stays {α : Type} (C : Nat) (J : List α → World → Prop) : Prop where
  below : ∀ s W W', J s W → Below W.heap.size W W' → J s W'
  cell : ∀ s W v, J s W → J s (W.setCell ⟨C, 0, none⟩ v)

theorem lt_of_heap {W : World} {k : Nat} {o : Obj} (h : W.heap[k]? = some o) : k < W.heap.size := (Array.getElem?_eq_some_iff.1 h).1

theorem range_own {α : Type} {P : Program} {n : Nat} {g : Operand} {ps : Array Tmp} {assign body : Code} {Q : Exit → Act → World → Prop} {a : Act} {w : World} (C n₀ : Nat) (hC : C < n₀) (hn₀ : n₀ ≤ w.heap.size)
    (h1 : 1 ≤ n) {gf : Nat} {lb : Array Value} (hg : a.eval g = .func (.func gf) #[] lb) (eg : ∀ args w, (callFunc gf args).run P w = .ok (.enter gf args) w)
    {enc : α → Array Value} (hps : ∀ x, (enc x).size = ps.size) (S : List α → World → Prop) (hS : ∀ xs W W', S xs W → Below w.heap.size W W' → S xs W') (N : Nat)
    (hseq : ∀ (l : Nat) (J : List α → World → Prop) (W : World), Below w.heap.size w W → Stays C J →
      (∀ pre x W1, J pre W1 → pre.length < N → YieldAt Fence.wide (n - 1 - 1) P l (enc x) W1 fun e W' => e = .returned (.bool true) ∧ J (pre ++ [x]) W' ∧ Below n₀ W1 W') →
      J [] W → CallsIn Fence.wide (n - 1) P gf (#[.func (.yield l) #[] #[]] ++ lb) W fun e W' => (∃ v, e = .returned v) ∧ ∃ xs, S xs W' ∧ J xs W')
    (I : List α → World → Prop) (hI : OwnFrom w.heap.size I) (hIs : Stays C I) (h0 : I [] w) (a₁ : α → Act)
    (hassign : ∀ (l : Nat) (x : α) (W : World) (K : Act → World → Prop), K (a₁ x) W →
      assign.wpIn (Fence.wide.inRound l) (n - 1 - 1) P (Exit.then K (fun _ _ _ => False)) { tmps := (ps.zip (enc x)).foldl (fun t (p, v) => t.setIfInBounds p v) a.tmps, defers := [] } W)
    (hbody : ∀ (l : Nat) (pre : List α) (x : α) (W : World), I pre W → pre.length < N → body.wpIn (Fence.wide.inRound l) (n - 1 - 1) P (ownPostK (Below n₀) I (fun _ _ _ => False) (pre ++ [x]) W) (a₁ x) W)
    (hdone : ∀ (D : Nat) (xs : List α) (W : World), w.heap.size ≤ D → S xs W → I xs W → W.heap[D]? = some (.deferred (some [])) → Q .normal { a with defers := { target := .collected D, args := #[] } :: a.defers } W) :
    (Code.rangeFunc g ps assign body).wpIn Fence.wide n P Q a w := by
  refine wpIn_rangeFunc fun fn hfn => ?_
  obtain ⟨r, hr⟩ : ∃ r : LoopState → Loop, r = fun st => { state := st, pending := none, fn, tmps := a.tmps, params := ps, assign, body, defers := w.heap.size } := ⟨_, rfl⟩
  obtain ⟨V, hV⟩ : ∃ V, (w.alloc (.deferred (some []))).alloc (.loop (r .ready)) = V := ⟨_, rfl⟩
  have vl : V.heap[w.heap.size + 1]? = some (.loop (r .ready)) := by
    have h := World.alloc_heap_new (w.alloc (.deferred (some []))) (.loop (r .ready))
    rw [World.size_alloc] at h
    rw [← hV]; exact h
  have vd : V.heap[w.heap.size]? = some (.deferred (some [])) := by rw [← hV]; exact (Below.heap_alloc _ _ _ (by simp)).trans (World.alloc_heap_new w _)
  have vb : Below w.heap.size w V := by rw [← hV]; exact ((Below.refl _ w).alloc (Nat.le_refl _) _).alloc (by simp) _
  have vi : I [] V := by rw [← hV]; exact hI.alloc _ (hI.alloc _ h0)
  refine ⟨w.heap.size + 1, [{ target := .collected w.heap.size, args := #[] }], V, { target := .fn (.func gf) lb, args := #[.func (.yield (w.heap.size + 1)) #[] #[]] }, V, gf, #[.func (.yield (w.heap.size + 1)) #[] #[]] ++ lb, V,
    by rw [← hV, hr]; exact run_enterLoop_outer _ _ _ _ _, by simp only [resolve, hg]; simp [go_sem], fun f' _ => trivial, by simp [invoke, go_sem, eg], fun _ => h1, ?_⟩
  let J : List α → World → Prop := fun pre W => I pre W ∧ W.heap[w.heap.size + 1]? = some (.loop (r .ready)) ∧ W.heap[w.heap.size]? = some (.deferred (some []))
  have hJ : Stays C J := by
    refine ⟨fun s W W' h hb => ⟨hIs.below _ _ _ h.1 hb, (hb.block _ (lt_of_heap h.2.1)).trans h.2.1, (hb.block _ (lt_of_heap h.2.2)).trans h.2.2⟩, fun s W v h => ⟨hIs.cell _ _ _ h.1, (Below.heap_setCell _ _ _ _ ?_).trans h.2.1, (Below.heap_setCell _ _ _ _ ?_).trans h.2.2⟩⟩
    · show w.heap.size + 1 ≠ C; omega
    · show w.heap.size ≠ C; omega
  refine (hseq (w.heap.size + 1) J V vb hJ ?_ ⟨vi, vl, vd⟩).mono ?_
  · rintro pre x W ⟨wi, wl, wd⟩ hlen
    have hy := run_yield (P := P) (args := enc x) wl (by rw [hr]; exact hps x)
    rw [hr] at hy
    refine ⟨fn, _, assign, body, hy, roundIn_of_wpIn hfn (hassign _ x W _ ⟨_, run_beginRound wl (by rw [hr]), ?_⟩)⟩
    obtain ⟨W2, hW2⟩ : ∃ W2, W.putObj (w.heap.size + 1) (.loop { r .ready with state := .busy }) = W2 := ⟨_, rfl⟩
    have l2 : W2.heap[w.heap.size + 1]? = some (.loop { r .ready with state := .busy }) := by rw [← hW2]; exact World.putObj_heap_same (lt_of_heap wl)
    have d2 : W2.heap[w.heap.size]? = some (.deferred (some [])) := by rw [← hW2]; exact (World.putObj_heap_other (by omega)).trans wd
    have i2 : I pre W2 := by rw [← hW2]; exact hI.putObj _ wi (by omega) wl rfl
    have b2 : Below n₀ W W2 := by rw [← hW2]; exact belowK_b (w := w) hn₀ W _ _ _ (by omega) wl rfl rfl
    rw [hW2]
    refine wpIn_mono (hbody _ pre x _ i2 hlen) ?_
    rintro e a3 W3 hp
    cases e with
    | normal =>
      obtain ⟨k3, b3, i3⟩ := hp
      have l3 := k3.same _ _ l2 rfl
      have d3 := k3.same _ _ d2 rfl
      have he := run_endRound (P := P) none l3
      rw [hr] at he l3
      refine ⟨_, _, he, rfl, ⟨hI.putObj _ i3 (by omega) l3 rfl, ?_, (World.putObj_heap_other (by omega)).trans d3⟩, (b2.trans b3).trans (belowK_b (w := w) hn₀ W3 _ _ _ (by omega) l3 rfl rfl)⟩
      rw [hr]
      exact World.putObj_heap_same (lt_of_heap l3)
    | ret => exact hp.2.elim
    | exit id => exact hp.2.elim
    | goto t => exact hp.2.elim
    | panic ch => exact hp.elim
    | outgrown => exact hp.elim
  · rintro e W2 ⟨⟨v, rfl⟩, xs, hs, hi, hl, hd⟩
    have he := run_endLoop (P := P) hl (by rw [hr]; simp)
    rw [hr] at he hl
    exact ⟨none, _, he, hdone _ xs _ (Nat.le_refl _) (hS _ _ _ hs (belowK_b (w := w) (Nat.le_refl _) W2 _ _ _ (by omega) hl rfl rfl)) (hI.putObj _ hi (by omega) hl rfl) ((World.putObj_heap_other (by omega)).trans hd)⟩

end Go.Proofs.YtkcailgfggbigaaDoor
