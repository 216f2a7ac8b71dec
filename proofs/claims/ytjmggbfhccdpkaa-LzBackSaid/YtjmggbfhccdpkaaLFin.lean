/-
  The finder: in memory; a place noted.
-/
import Derived.Test.YtjmggbfhccdpkaaLMap
namespace Go.Proofs.Ytjmggbfhccdpkaa
open Go.RowKit Go.Shelf Go.Proofs.Mem Go.Maps
set_option linter.unusedVariables false

theorem info_int : (Try.prog.info? 3).map (fun i => (i.zero, i.size, i.bytes)) = some (some (.int .i64 0), 1, 8) := by kernel_rfl

/-- The finder of s behind n places. -/
structure Fndr (w : World) (B F M : Nat) (bv : Value) (s : ByteArray) (n : Nat) : Prop where
  bF : B ≤ F
  bM : B ≤ M
  blk : w.heap[F]? = some (.cells #[.string s, .map (some M), bv] 36 (0, 0))
  hds : Heads w M n (fun k => (chainL s k n).head?)
  bck : w.ownsRow B 3 1 bv n (backL s n)
theorem Fndr.lt {w : World} {B F M : Nat} {bv : Value} {s : ByteArray} {n : Nat} (h : Fndr w B F M bv s n) : F < w.heap.size := by
  rcases Nat.lt_or_ge F w.heap.size with h' | h'
  · exact h'
  · have := h.blk
    rw [Array.getElem?_eq_none h'] at this
    cases this
theorem Fndr.ne {w : World} {B F M : Nat} {bv : Value} {s : ByteArray} {n : Nat} (h : Fndr w B F M bv s n) : F ≠ M := by
  intro e
  obtain ⟨D, ⟨es, clock, hb, _⟩, _⟩ := h.hds
  have := h.blk
  rw [e, hb] at this
  cases this
theorem Fndr.cells {w : World} {B F M : Nat} {bv : Value} {s : ByteArray} {n : Nat} (h : Fndr w B F M bv s n) :
    w.cell? ⟨F, 0, none⟩ = some (.string s) ∧ w.cell? ⟨F, 1, none⟩ = some (.map (some M)) ∧ w.cell? ⟨F, 2, none⟩ = some bv ∧ (∀ o, w.frozen? ⟨F, o, none⟩ = false) := by
  refine ⟨?_, ?_, ?_, fun o => Lib.frozen_of_heap h.blk o⟩
  all_goals (rw [Lib.cell_of_heap h.blk]; rfl)
theorem Fndr.below {w w' : World} {B F M : Nat} {bv : Value} {s : ByteArray} {n : Nat} (h : Fndr w B F M bv s n) (hb : Below w.heap.size w w') : Fndr w' B F M bv s n :=
  ⟨h.bF, h.bM, (hb.block F h.lt).trans h.blk, h.hds.at_ (hb.block M h.hds.lt), World.ownsRow.kept (row := none) h.bck ⟨hb.os, hb.tape, hb.output, hb.size, fun k hk _ => hb.block k hk⟩ (Classical.em _)⟩
/-- What the packer does leaves the finder alone. -/
theorem Fndr.oth {w w' : World} {B F M P : Nat} {bv : Value} {s : ByteArray} {n : Nat} (h : Fndr w B F M bv s n) (ho : Oth 5 (fun q => q = P) w w') (hP : ∃ cs fr, w.heap[P]? = some (.cells cs 42 fr)) (hb : Below B w w') : Fndr w' B F M bv s n := by
  obtain ⟨cs, fr, hP⟩ := hP
  have hF : w'.heap[F]? = w.heap[F]? := ho.2 F h.lt (fun e => by subst e; rw [h.blk] at hP; cases hP) (fun c f e => by rw [h.blk] at e; cases e)
  have hM : w'.heap[M]? = w.heap[M]? := by
    obtain ⟨D, ⟨es, clock, hm, _⟩, _⟩ := h.hds
    exact ho.2 M h.hds.lt (fun e => by subst e; rw [hm] at hP; cases hP) (fun c f e => by rw [hm] at e; cases e)
  refine ⟨h.bF, h.bM, hF.trans h.blk, h.hds.at_ hM, h.bck.1, ?_⟩
  rcases h.bck.2 with h0 | ⟨g, cap, cur, h1, h2, h3, h4⟩
  · exact .inl h0
  · refine .inr ⟨g, cap, cur, h1, h2, ?_, h4⟩
    have hg : g < w.heap.size := by
      rcases Nat.lt_or_ge g w.heap.size with h' | h'
      · exact h'
      · rw [Array.getElem?_eq_none h'] at h3; cases h3
    exact (ho.2 g hg (fun e => by subst e; rw [h3] at hP; cases hP) (fun c f e => by rw [h3] at e; cases e)).trans h3

/-- The head of a chain, and what is noted of a place. -/
theorem back_of {s : ByteArray} {n : Nat} (h : n + 4 ≤ s.size) : backV s n = match (chainL s (fourAt s n) n).head? with | some q => (q : Int) | none => -1 := by
  unfold backV
  rw [if_pos h]
  rfl
theorem back_none {s : ByteArray} {n : Nat} (h : ¬ n + 4 ≤ s.size) : backV s n = -1 := by
  unfold backV
  rw [if_neg h]

/-- Behind the append: the finder's block has not turned yet. -/
structure Noted (w0 w : World) (B F M g cap : Nat) (bv : Value) (s : ByteArray) (n : Nat) : Prop where
  bF : B ≤ F
  bM : B ≤ M
  blk : w.heap[F]? = some (.cells #[.string s, .map (some M), bv] 36 (0, 0))
  hds : Heads w M n (fun k => (chainL s k n).head?)
  bck : w.ownsRow B 3 1 (.slice (some ⟨g, 0, none⟩) (n + 1) cap) (n + 1) (backL s n ++ [.int .i64 (-1)])
  low : Below B w0 w
  oth : Oth 3 (fun q => q = F ∨ q = M) w0 w
theorem noted {w w1 : World} {B F M g cap : Nat} {bv : Value} {s : ByteArray} {n : Nat} (h : Fndr w B F M bv s n)
    (hown : w1.ownsRow B 3 1 (.slice (some ⟨g, 0, none⟩) (n + 1) cap) (n + 1) (backL s n ++ [.int .i64 (-1)])) (hgrow : (w.alloc (.cells #[.int .i64 (-1)] 3)).grownBy w1 bv.ownBlock) (hB : B ≤ w.heap.size) : Noted w w1 B F M g cap bv s n := by
  have hal : Below w.heap.size w (w.alloc (.cells #[.int .i64 (-1)] 3)) := (Below.refl _ _).alloc (Nat.le_refl _) _
  have hF1 := h.below hal
  have hneF : some F ≠ bv.ownBlock := fun e => by
    obtain ⟨cs, fr, hc⟩ := own_cells h.bck e.symm
    rw [h.blk] at hc
    cases hc
  have hneM : some M ≠ bv.ownBlock := fun e => by
    obtain ⟨cs, fr, hc⟩ := own_cells h.bck e.symm
    obtain ⟨D, ⟨es, clock, hm, _⟩, _⟩ := h.hds
    rw [hm] at hc
    cases hc
  exact ⟨h.bF, h.bM, (hgrow.block F hF1.lt hneF).trans hF1.blk, hF1.hds.kept hgrow hneM, hown, ((Below.refl B w).alloc hB _).grown hgrow (by simp; omega) (fun k hk => (h.bck.lt k hk).1), (Oth.alloc _ _ w _).trans (Oth.grownRow _ hF1.bck hgrow)⟩
theorem noted_cells {w0 w : World} {B F M g cap : Nat} {bv : Value} {s : ByteArray} {n : Nat} (h : Noted w0 w B F M g cap bv s n) :
    w.cell? ⟨F, 0, none⟩ = some (.string s) ∧ w.cell? ⟨F, 1, none⟩ = some (.map (some M)) ∧ w.cell? ⟨F, 2, none⟩ = some bv ∧ (∀ o, w.frozen? ⟨F, o, none⟩ = false) := by
  refine ⟨?_, ?_, ?_, fun o => Lib.frozen_of_heap h.blk o⟩
  all_goals (rw [Lib.cell_of_heap h.blk]; rfl)
/-- The new row is in its place. -/
theorem noted_store {w0 w : World} {B F M g cap : Nat} {bv : Value} {s : ByteArray} {n : Nat} (h : Noted w0 w B F M g cap bv s n) :
    (w.setCell ⟨F, 2, none⟩ (.slice (some ⟨g, 0, none⟩) (n + 1) cap)).heap[F]? = some (.cells #[.string s, .map (some M), .slice (some ⟨g, 0, none⟩) (n + 1) cap] 36 (0, 0)) ∧
      Heads (w.setCell ⟨F, 2, none⟩ (.slice (some ⟨g, 0, none⟩) (n + 1) cap)) M n (fun k => (chainL s k n).head?) ∧
      (w.setCell ⟨F, 2, none⟩ (.slice (some ⟨g, 0, none⟩) (n + 1) cap)).ownsRow B 3 1 (.slice (some ⟨g, 0, none⟩) (n + 1) cap) (n + 1) (backL s n ++ [.int .i64 (-1)]) ∧
      Below B w0 (w.setCell ⟨F, 2, none⟩ (.slice (some ⟨g, 0, none⟩) (n + 1) cap)) ∧ Oth 3 (fun q => q = F ∨ q = M) w0 (w.setCell ⟨F, 2, none⟩ (.slice (some ⟨g, 0, none⟩) (n + 1) cap)) := by
  have hFM : M ≠ F := by
    intro e
    obtain ⟨D, ⟨es, clock, hm, _⟩, _⟩ := h.hds
    have := h.blk
    rw [← e, hm] at this
    cases this
  have hgF : g ≠ F := by
    intro e
    obtain ⟨cs, fr, hc⟩ := own_cells h.bck (g := g) rfl
    rw [e, h.blk] at hc
    cases hc
  refine ⟨heap_setCell_same w F 2 _ _ _ h.blk, h.hds.at_ (Below.heap_setCell w _ _ M hFM), ⟨h.bck.1, ?_⟩, h.low.setCell (p := ⟨F, 2, none⟩) h.bF _, h.oth.trans (Oth.setCell _ _ w _ _ (.inl rfl))⟩
  rcases h.bck.2 with h0 | ⟨g', cap', cur, h1, h2, h3, h4⟩
  · exact .inl h0
  · have : g = g' := by
      simp only [Value.slice.injEq, Option.some.injEq, Addr.mk.injEq] at h1
      exact h1.1.1
    subst this
    exact .inr ⟨g, cap', cur, h1, h2, (Below.heap_setCell w _ _ g hgF).trans h3, h4⟩

theorem heads_map {w : World} {M n : Nat} {f : ByteArray → Option Nat} (h : Heads w M n f) : ∃ es clock, w.heap[M]? = some (.map es clock) := by
  obtain ⟨D, ⟨es, clock, hm, _⟩, _⟩ := h
  exact ⟨es, clock, hm⟩
theorem ne_own {w : World} {B n size g q : Nat} {E : TypeId} {v : Value} {xs : List Value} {o : Obj} (h : w.ownsRow B E size v n xs) (hv : v.ownBlock = some g) (hq : w.heap[q]? = some o) (ho : ∀ cs fr, o ≠ .cells cs E fr) : some q ≠ some g := by
  intro e
  injection e with e
  subst e
  obtain ⟨cs, fr, hc⟩ := own_cells h hv
  rw [hq] at hc
  injection hc with hc
  exact ho _ _ hc
def NoteQ (w : World) (B F M : Nat) (s : ByteArray) (n : Nat) (e : Ending) (w' : World) : Prop :=
  e = .returned (.tuple #[]) ∧ ∃ bv', Fndr w' B F M bv' s (n + 1) ∧ Below B w w' ∧ Oth 3 (fun q => q = F ∨ q = M) w w'

theorem noted_done {w w4 w5 : World} {B F M n g cap : Nat} {s k : ByteArray} (e1 : w4.heap[F]? = some (.cells #[.string s, .map (some M), .slice (some ⟨g, 0, none⟩) (n + 1) cap] 36 (0, 0)))
    (h4 : n + 4 ≤ s.size) (hk : k = fourAt s n)
    (e3 : w4.ownsRow B 3 1 (.slice (some ⟨g, 0, none⟩) (n + 1) cap) (n + 1) (backL s n ++ [.int .i64 (backV s n)])) (e4 : Below B w w4) (e5 : Oth 3 (fun q => q = F ∨ q = M) w w4)
    (hH5 : Heads w5 M (n + 1) (fun j => if j = k then some n else (chainL s j n).head?)) (hg5 : w4.grownBy w5 (some M)) (hbF : B ≤ F) (hbM : B ≤ M) (hm4 : ∃ es clock, w4.heap[M]? = some (.map es clock)) (hBw : B ≤ w.heap.size) : NoteQ w B F M s n (.returned (.tuple #[])) w5 := by
  obtain ⟨es, clock, hm4⟩ := hm4
  have hlt4 : F < w4.heap.size := by
    rcases Nat.lt_or_ge F w4.heap.size with h' | h'
    · exact h'
    · rw [Array.getElem?_eq_none h'] at e1; cases e1
  have hneM : some F ≠ some M := fun e => by
    injection e with e
    rw [e, hm4] at e1
    cases e1
  refine ⟨rfl, .slice (some ⟨g, 0, none⟩) (n + 1) cap, ⟨hbF, hbM, (hg5.block F hlt4 hneM).trans e1, ?_, ?_⟩, e4.grown hg5 (Nat.le_trans hBw e4.size) (fun r hr => by injection hr with hr; subst hr; exact hbM), e5.trans (Oth.grownBad _ _ hg5 (fun r hr => by injection hr with hr; exact .inr hr.symm))⟩
  · rw [heads_step s n h4, ← hk]
    exact hH5
  · rw [backL_succ]
    refine e3.kept hg5 (.inr fun e => ?_)
    obtain ⟨cs, fr, hc⟩ := own_cells e3 e
    rw [hm4] at hc
    cases hc

set_option maxRecDepth 100000 in
set_option maxHeartbeats 2000000 in
theorem note_any (w : World) (B F M n : Nat) (bv : Value) (s : ByteArray) (h : Fndr w B F M bv s n) (hs : s.size ≤ 100000) (hn : n < s.size) (hBw : B ≤ w.heap.size) :
    Calls Try.prog 16 #[.pointer (some ⟨F, 0, none⟩), .int .i64 n] w (NoteQ w B F M s n) := by
  obtain ⟨i0, hi, hz0, hz1, hz2⟩ := info_parts info_int
  have hF := Lib.hid h
  obtain ⟨g0, g1, g2, gf⟩ := h.cells
  have hlF := h.lt
  clear h
  by_cases h4 : n + 4 ≤ s.size
  case neg =>
    have q1 : (s.size : Int) < (n : Int) + 4 := by omega
    go_enter Try.func16, Try.ntmps16
    go_wp2_with (at_builtin
                 refine wpList_append_lies _ rfl _ _ _ rfl B 3 i0 (.int .i64 0) 1 8 Try.underlying34 hi hz0 hz1 hz2 rfl (by omega) _ n (backL s n) rfl (hF.out.bck.alloc _) ⟨w.heap.size, 0, none⟩ 1 1 [.int .i64 (-1)] rfl rfl (World.news_of_block (cs := #[.int .i64 (-1)]) (t := 3) (fr := (0, 0)) (heap_alloc_new w _)) (by simp [Value.oneCell']) (by omega) (by unfold maxLen; omega) (by omega) (by simp; omega) (w.heap.size + 1) (by simp) ?_
                 intro g cap w1 hown hgrow hat hlt
                 have HN := Lib.hid (noted hF.out hown hgrow hBw)
                 obtain ⟨c0, c1, c2, cf⟩ := noted_cells HN.out
                 clear hown hgrow hat hlt)
    obtain ⟨e1, e2, e3, e4, e5⟩ := noted_store HN.out
    go_end0
    refine ⟨rfl, _, ⟨hF.out.bF, hF.out.bM, e1, ?_, ?_⟩, e4, e5⟩
    · rw [heads_stay s n h4]
      obtain ⟨D, hD, hf⟩ := e2
      exact ⟨D, hD.mono (Nat.le_succ _), hf⟩
    · rw [backL_succ, back_none h4]
      exact e3
  have q1 : ((s.size : Int) < (n : Int) + 4) = False := by simp; omega
  have hk4 : (n : Int) + 4 ≤ (s.size : Int) := by omega
  have hks : (fourAt s n).size ≤ maxLen := by unfold fourAt maxLen; rw [ByteArray.size_extract]; omega
  obtain ⟨k, hk⟩ : ∃ k, k = fourAt s n := ⟨_, rfl⟩
  have hk' : s.extract n (n + 4) = k := by rw [hk]; rfl
  rw [← hk] at hks
  have HKS := Lib.hid hks
  have HK := Lib.hid hk
  have HBK : Hid (∀ q, (chainL s k n).head? = some q → backV s n = (q : Int) ∧ q < n) := Lib.hid (fun q hq => by
    rw [back_of h4, ← hk, hq]
    exact ⟨rfl, (chain_lt q (List.mem_of_mem_head? hq)).1⟩)
  have HBN : Hid ((chainL s k n).head? = none → backV s n = -1) := Lib.hid (fun hq => by rw [back_of h4, ← hk, hq])
  have H4 := Lib.hid h4
  clear hk hks h4
  cases ho : (chainL s k n).head? with
  | none =>
    have HO := Lib.hid ho
    clear ho
    go_enter Try.func16, Try.ntmps16
    go_wp2_with (at_builtin
                 refine wpList_append_lies _ rfl _ _ _ rfl B 3 i0 (.int .i64 0) 1 8 Try.underlying34 hi hz0 hz1 hz2 rfl (by omega) _ n (backL s n) rfl (hF.out.bck.alloc _) ⟨w.heap.size, 0, none⟩ 1 1 [.int .i64 (-1)] rfl rfl (World.news_of_block (cs := #[.int .i64 (-1)]) (t := 3) (fr := (0, 0)) (heap_alloc_new w _)) (by simp [Value.oneCell']) (by omega) (by unfold maxLen; omega) (by omega) (by simp; omega) (w.heap.size + 1) (by simp) ?_
                 intro g cap w1 hown hgrow hat hlt
                 have HN := Lib.hid (noted hF.out hown hgrow hBw)
                 obtain ⟨c0, c1, c2, cf⟩ := noted_cells HN.out
                 obtain ⟨e1, e2, e3, e4, e5⟩ := noted_store HN.out
                 obtain ⟨c, hlook, _⟩ := e2.look k HKS.out
                 simp only [HO.out, Option.isSome_none] at hlook
                 obtain ⟨w5, hput, hH5, hg5⟩ := e2.put k HKS.out n (by omega) (by omega)
                 have HE := Lib.hid (show _ ∧ _ ∧ _ ∧ _ ∧ _ from ⟨e1, e2, e3, e4, e5⟩)
                 have HH5 := Lib.hid hH5
                 have HG5 := Lib.hid hg5
                 clear hown hgrow hat hlt e1 e2 e3 e4 e5 hH5 hg5)
    go_end0
    obtain ⟨e1, e2, e3, e4, e5⟩ := HE.out
    rw [← HBN.out HO.out] at e3
    exact noted_done e1 H4.out HK.out e3 e4 e5 HH5.out HG5.out hF.out.bF hF.out.bM (heads_map e2) hBw
  | some q =>
    have HO := Lib.hid ho
    obtain ⟨hbq, hqn⟩ := HBK.out q ho
    have HBQ := Lib.hid hbq
    clear ho hbq
    go_enter Try.func16, Try.ntmps16
    go_wp2_with (at_builtin
                 refine wpList_append_lies _ rfl _ _ _ rfl B 3 i0 (.int .i64 0) 1 8 Try.underlying34 hi hz0 hz1 hz2 rfl (by omega) _ n (backL s n) rfl (hF.out.bck.alloc _) ⟨w.heap.size, 0, none⟩ 1 1 [.int .i64 (-1)] rfl rfl (World.news_of_block (cs := #[.int .i64 (-1)]) (t := 3) (fr := (0, 0)) (heap_alloc_new w _)) (by simp [Value.oneCell']) (by omega) (by unfold maxLen; omega) (by omega) (by simp; omega) (w.heap.size + 1) (by simp) ?_
                 intro g cap w1 hown hgrow hat hlt
                 have HN := Lib.hid (noted hF.out hown hgrow hBw)
                 obtain ⟨c0, c1, c2, cf⟩ := noted_cells HN.out
                 obtain ⟨e1, e2, e3, e4, e5⟩ := noted_store HN.out
                 obtain ⟨c, hlook, hcq⟩ := e2.look k HKS.out
                 simp only [HO.out, Option.isSome_some] at hlook
                 rw [hcq q HO.out] at hlook
                 obtain ⟨s1, s2⟩ := e3.stored n (.int .i64 (q : Int))
                 have hlast : (backL s n ++ [Value.int .i64 (-1)])[n]? = some (.int .i64 (-1)) := by
                   rw [List.getElem?_append_right (by rw [backL_len]; exact Nat.le_refl _), backL_len, Nat.sub_self]
                   rfl
                 have hcl := (e3.cellAt n (by omega)).trans hlast
                 have hfr := e3.frozenAt n
                 have hcl1 := (HN.out.bck.cellAt n (by omega)).trans hlast
                 have hfr1 := HN.out.bck.frozenAt n
                 have hnk : n < n + 1 := Nat.lt_succ_self n
                 have hneM : some M ≠ some g := ne_own e3 rfl (heads_map e2).choose_spec.choose_spec (fun _ _ e => by cases e)
                 have hneF : some F ≠ some g := ne_own e3 rfl e1 (fun _ _ e => by cases e)
                 have ngF : ¬ F = g := fun e => hneF (congrArg some e)
                 have nFg : ¬ g = F := fun e => hneF (congrArg some e.symm)
                 have e2' := e2.kept s2 hneM
                 have e1' := (s2.block F (by rw [World.size_setCell]; exact Nat.lt_of_lt_of_le hlF HN.out.low.size) hneF).trans e1
                 have e4' := e4.grown s2 (by have := e4.size; omega) (fun r hr => by injection hr with hr; subst hr; exact (e3.lt _ rfl).1)
                 have e5' := e5.trans (Oth.grownRow (fun q => q = F ∨ q = M) e3 s2)
                 obtain ⟨w5, hput, hH5, hg5⟩ := e2'.put k HKS.out n (by omega) (by omega)
                 have HE := Lib.hid (show _ ∧ _ ∧ _ ∧ _ ∧ _ from ⟨e1', e2', s1, e4', e5'⟩)
                 have HH5 := Lib.hid hH5
                 have HG5 := Lib.hid hg5
                 clear hown hgrow hat hlt e1 e2 e3 e4 e5 hH5 hg5 e1' e2' e4' e5' s1 s2 hneM hneF hcq hlast)
    go_end0
    obtain ⟨e1, e2, e3, e4, e5⟩ := HE.out
    have hset : (backL s n ++ [Value.int .i64 (-1)]).set n (.int .i64 (q : Int)) = backL s n ++ [.int .i64 (backV s n)] := by
      rw [HBQ.out, List.set_append_right _ _ (by rw [backL_len]; exact Nat.le_refl _), backL_len, Nat.sub_self]
      rfl
    rw [hset] at e3
    exact noted_done e1 H4.out HK.out e3 e4 e5 HH5.out HG5.out hF.out.bF hF.out.bM (heads_map e2) hBw

end Go.Proofs.Ytjmggbfhccdpkaa
