/-
  THE ITERATOR OVER A STREAM'S PIECES: it cuts the rest, writes it back, hands the piece out.
-/
import Derived.Test.YtkcailgfggbigaaDoorFed
import Derived.Test.YtkcailgfggbigaaDoorOwnR
import Derived.StillTailTactics
namespace Go.Proofs.YtkcailgfggbigaaDoor
open Go.RowKit Go.Shelf Go.Proofs.Gear Go.Proofs.Mem
attribute [local go_sem] Oper.semAt_some
set_option linter.unusedVariables false

/-- The cutter's cells, and the two boxes that the iterator has caught. -/
structure Cutter (W : World) (C Bc Bn : Nat) (s : ByteArray) (mn av mx th : Nat) : Prop where
  c0 : W.cell? ⟨C, 0, none⟩ = some (.string s)
  f0 : W.frozen? ⟨C, 0, none⟩ = false
  c1 : W.cell? ⟨C, 1, none⟩ = some (.int .i64 mn)
  c2 : W.cell? ⟨C, 2, none⟩ = some (.int .i64 av)
  c3 : W.cell? ⟨C, 3, none⟩ = some (.int .i64 mx)
  bc : W.cell? ⟨Bc, 0, none⟩ = some (.pointer (some ⟨C, 0, none⟩))
  bn : W.cell? ⟨Bn, 0, none⟩ = some (.int .i64 th)
theorem Cutter.on {W W' : World} {C Bc Bn B : Nat} {s : ByteArray} {mn av mx th : Nat} (h : Cutter W C Bc Bn s mn av mx th) (hb : Below B W W') (h1 : C < B) (h2 : Bc < B) (h3 : Bn < B) : Cutter W' C Bc Bn s mn av mx th :=
  ⟨(hb.cell (p := ⟨C, 0, none⟩) h1).trans h.c0, (World.frozen?_of_block (a := ⟨C, 0, none⟩) (hb.block C h1)).trans h.f0, (hb.cell (p := ⟨C, 1, none⟩) h1).trans h.c1, (hb.cell (p := ⟨C, 2, none⟩) h1).trans h.c2, (hb.cell (p := ⟨C, 3, none⟩) h1).trans h.c3, (hb.cell (p := ⟨Bc, 0, none⟩) h2).trans h.bc, (hb.cell (p := ⟨Bn, 0, none⟩) h3).trans h.bn⟩

theorem Cutter.wrote {W : World} {C Bc Bn : Nat} {s : ByteArray} {mn av mx th : Nat} (h : Cutter W C Bc Bn s mn av mx th) (h1 : C ≠ Bc) (h2 : C ≠ Bn) (t : ByteArray) : Cutter (W.setCell ⟨C, 0, none⟩ (.string t)) C Bc Bn t mn av mx th := by
  have o1 : (W.setCell ⟨C, 0, none⟩ (.string t)).heap[Bc]? = W.heap[Bc]? := Below.heap_setCell _ _ _ _ (fun e => h1 e.symm)
  have o2 : (W.setCell ⟨C, 0, none⟩ (.string t)).heap[Bn]? = W.heap[Bn]? := Below.heap_setCell _ _ _ _ (fun e => h2 e.symm)
  obtain ⟨a0, af, a1, a2, a3, ac, an⟩ := h
  refine ⟨World.cell?_setCell_same' _ _ _ (by rw [a0]; rfl), ?_, ?_, ?_, ?_, (World.cell?_of_block (a := ⟨Bc, 0, none⟩) o1).trans ac, (World.cell?_of_block (a := ⟨Bn, 0, none⟩) o2).trans an⟩
  all_goals go_simp
/-- How much is left. -/
def leftAt (C : Nat) (W : World) : Nat := match W.cell? ⟨C, 0, none⟩ with | some (.string s) => s.size | _ => 0

theorem itr_keep {wr w2 : World} {C Bc Bn : Nat} {s : ByteArray} {mn av mx th : Nat} (hK : Hid (Cutter wr C Bc Bn s mn av mx th)) (hB : Hid (Below wr.heap.size wr w2)) (h1 : C < wr.heap.size) (h2 : Bc < wr.heap.size) (h3 : Bn < wr.heap.size) :
    w2.cell? ⟨C, 0, none⟩ = some (.string s) ∧ w2.cell? ⟨C, 1, none⟩ = some (.int .i64 mn) ∧ w2.cell? ⟨C, 2, none⟩ = some (.int .i64 av) ∧ w2.cell? ⟨C, 3, none⟩ = some (.int .i64 mx) ∧ w2.cell? ⟨Bc, 0, none⟩ = some (.pointer (some ⟨C, 0, none⟩)) ∧ Hid (Below wr.heap.size wr w2) := by
  obtain ⟨a0, af, a1, a2, a3, ac, an⟩ := hK.out.on hB.out h1 h2 h3
  exact ⟨a0, a1, a2, a3, ac, hB⟩

set_option maxHeartbeats 600000 in
theorem pieces1_in {mn av mx b : Nat} (hf : FitN mn av mx b) (l C Bc Bn n₀ N th : Nat) (J : List ByteArray → World → Prop) (hJ : Stays C J) (hC : C < n₀) (hBc : Bc < n₀) (hBn : Bn < n₀) (hCc : C ≠ Bc) (hCn : C ≠ Bn) (ht : 1 ≤ th) (ht2 : th ≤ 100000)
    (hY : ∀ pre x W, J pre W → pre.length < N → YieldAt Fence.wide 7 Tryd.prog l #[.string x] W fun e W' => e = .returned (.bool true) ∧ J (pre ++ [x]) W' ∧ Below n₀ W W')
    (s : ByteArray) (hs : s.size ≤ 100000) (hN : s.size ≤ N) (W : World) (hn : n₀ ≤ W.heap.size) (hL : ∀ V : World, Below C W V → Laid V) (hK : Cutter W C Bc Bn s mn av mx th) (h0 : J [] W) :
    CallsIn Fence.wide 8 Tryd.prog 41 #[.func (.yield l) #[] #[], .pointer (some ⟨Bc, 0, none⟩), .pointer (some ⟨Bn, 0, none⟩)] W fun e W' => (∃ v, e = .returned v) ∧
      J (fed mn av mx b th s).1 W' ∧ Cutter W' C Bc Bn (fed mn av mx b th s).2 mn av mx th ∧ Below C W W' := by
  have hmm : mn ≤ mx := Nat.le_trans hf.min hf.max
  have hm1 := hf.one
  have HF := Lib.hid hf
  clear hf
  have HL := Lib.hid hL
  clear hL
  refine callsIn_of_wp Tryd.func41 rfl trivial ?_ rfl
  simp only [Tryd.ntmps41, List.size_toArray, List.length_cons, List.length_nil, Nat.reduceAdd, Nat.reduceSub, Array.replicate_succ, Array.replicate_zero, List.push_toArray, List.append_toArray, List.nil_append, List.cons_append]
  refine wpIn_wide.2 ?_
  go_wp2
  go_loopw [] (fun wr => ∃ (rest : ByteArray) (done : List ByteArray), Hid (fed mn av mx b th s = (done ++ (fed mn av mx b th rest).1, (fed mn av mx b th rest).2)) ∧ done.length + rest.size ≤ s.size ∧ Hid (J done wr) ∧ Hid (Cutter wr C Bc Bn rest mn av mx th) ∧ Hid (Below C W wr) ∧ n₀ ≤ wr.heap.size) (fun wr => leftAt C wr)
  case atStart => exact ⟨s, [], Lib.hid (by simp), by simp, Lib.hid h0, Lib.hid hK, Lib.hid (Below.refl _ _), hn⟩
  case round =>
    obtain ⟨rest, done, hp, hlen, hJd, hKr, hB, hsz⟩ := hrel
    have hq : ∀ n, Hid (Below wr.heap.size wr (wr.drewN n)) := fun n => Lib.hid (below_drewN (Below.refl _ _) n)
    obtain ⟨a0, af, a1, a2, a3, ac, an⟩ := hKr.out
    by_cases hlt : rest.size < th
    · have hd1 : decide ((th : Int) ≤ (rest.size : Int)) = false := decide_eq_false (by omega)
      have hd2 : decide (th ≤ rest.size) = false := decide_eq_false (by omega)
      have Hlt := Lib.hid hlt
      clear hlt
      go_wp2
      go_quiet (fail)
      go_wp2
      go_end0
      refine ⟨⟨_, rfl⟩, ?_⟩
      rw [hp.out, fed_stop _ _ _ _ _ rest Hlt.out, List.append_nil]
      exact ⟨hJ.below _ _ _ hJd.out (hq _).out, hKr.out.on (hq _).out (by omega) (by omega) (by omega), hB.out.trans ((hq _).out.mono (by omega))⟩
    · have hd1 : decide ((th : Int) ≤ (rest.size : Int)) = true := decide_eq_true (by omega)
      have hd2 : decide (th ≤ rest.size) = true := decide_eq_true (by omega)
      obtain ⟨n, hn'⟩ : ∃ n, n = cutN mn av mx b rest := ⟨_, rfl⟩
      have hn1 : 0 < n := by rw [hn']; exact cutN_pos _ _ _ _ _ hmm hm1 (by omega)
      have hn2 : n ≤ rest.size := by rw [hn']; have := cutN_le mn av mx b rest; omega
      have HN := Lib.hid hn'
      clear hn'
      have hi1 : (0 : Int) ≤ (n : Int) := Int.natCast_nonneg _
      have hi2 : (n : Int) ≤ (rest.size : Int) := by omega
      go_wp2
      go_quiet (fail)
      go_wp2
      have hBq := hq nq
      clear hq
      generalize wr.drewN nq = wq at *
      have hBd : Hid (Below wr.heap.size wr wq.drew) := Lib.hid (hBq.out.trans ((Below.refl _ _).drew))
      have hS0 := itr_keep hKr hBd (by omega) (by omega) (by omega)
      clear a0 a1 a2 a3 ac an af
      go_region_held3 (fun w' => w'.cell? ⟨C, 0, none⟩ = some (.string rest) ∧ w'.cell? ⟨C, 1, none⟩ = some (.int .i64 mn) ∧ w'.cell? ⟨C, 2, none⟩ = some (.int .i64 av) ∧ w'.cell? ⟨C, 3, none⟩ = some (.int .i64 mx) ∧ w'.cell? ⟨Bc, 0, none⟩ = some (.pointer (some ⟨C, 0, none⟩)) ∧ Hid (Below wr.heap.size wr w'))
        (first
          | exact hS0
          | (go_split_ands; exact itr_keep hKr (Lib.hid ((Hid.out ‹Hid (Below wr.heap.size wr _)›).trans (Below.mono ‹_› (Hid.out ‹Hid (Below wr.heap.size wr _)›).size))) (by omega) (by omega) (by omega)))
        ((go_at_call 16; refine Calls.mono (cut_fit HF.out rest (by omega) _ (by first | exact HL.out _ (hB.out.trans (Below.mono (Hid.out ‹Hid (Below wr.heap.size wr _)›) (by omega))) | (go_split_ands; exact HL.out _ (hB.out.trans (Below.mono (Hid.out ‹Hid (Below wr.heap.size wr _)›) (by omega)))))) ?_; rintro e wC ⟨rfl, hBC⟩; rw [← HN.out]))
      clear hS0
      go_split_ands
      have hBC' : Hid (Below wr.heap.size wr wC) := by assumption
      go_wp2
      have hBe : Hid (Below wr.heap.size wr wC.drew) := Lib.hid (hBC'.out.trans ((Below.refl _ _).drew))
      refine wp_region_still_tail 11 (by kernel_rfl) (by kernel_rfl) ?_
      change wpStill _ _ wC.drew (fun a' => wpList _ _ _ _ a' wC.drew) _ _
      generalize hT : (fun a' => wpList _ _ _ _ a' wC.drew) = T
      have HT := Lib.hid hT
      clear hT
      generalize wC.drew = wd at *
      obtain ⟨d0, df, d1, d2, d3, dc, dn⟩ := hKr.out.on hBe.out (by omega) (by omega) (by omega)
      simp only [List.take_succ_cons, List.take_zero]
      iterate 11 still_step
      refine wpStill_nil ?_
      rw [← HT.out]
      clear HT
      simp only [List.drop_succ_cons, List.drop_zero]
      have hg1 := hY done (rest.extract 0 n) (wd.setCell ⟨C, 0, none⟩ (.string (rest.extract n rest.size))) (hJ.cell _ _ _ (hJ.below _ _ _ hJd.out hBe.out)) (by omega)
      obtain ⟨fn, tmps, assign, body, hy, hR⟩ := hg1
      have hKd := Lib.hid (hKr.out.on hBe.out (by omega) (by omega) (by omega))
      rename_i hNext
      have HNext := Lib.hid hNext
      clear hNext
      have HR := Lib.hid hR
      clear hR
      go_wp2
      refine HNext.out _ _ ?_
      clear HNext
      refine (wpIn_wide (n := 8)).1 ?_
      have hB5 : Below C wr wd := hBe.out.mono (by omega)
      have hB4 : Below C wr (wd.setCell ⟨C, 0, none⟩ (.string (rest.extract n rest.size))) := hB5.setCell (p := ⟨C, 0, none⟩) (Nat.le_refl _) _
      clear hB5
      have hsz4 : (wd.setCell ⟨C, 0, none⟩ (.string (rest.extract n rest.size))).heap.size = wd.heap.size := by simp
      have hKw := Lib.hid (hKd.out.wrote hCc hCn (rest.extract n rest.size))
      clear hKd d0 df d1 d2 d3 dc dn
      generalize wd.setCell ⟨C, 0, none⟩ (.string (rest.extract n rest.size)) = ws at *
      gi_wp2
      refine HR.out.mono ?_
      rintro e W3 ⟨rfl, hJ3, hk3⟩
      gi_wp2
      go_roundw
      case rel => exact ⟨rest.extract n rest.size, done ++ [rest.extract 0 n], Lib.hid (by
          rw [hp.out, fed_step _ _ _ _ _ hmm hm1 ht rest hlt, ← HN.out, List.append_assoc]; rfl), by rw [List.length_append, List.length_singleton, ByteArray.size_extract]; omega, Lib.hid hJ3, Lib.hid (hKw.out.on hk3 hC hBc hBn), Lib.hid ((hB.out.trans hB4).trans (hk3.mono (by omega))), by have := hB4.size; have := hk3.size; omega⟩
      case measure =>
        have e1 := (hKw.out.on hk3 hC hBc hBn).c0
        have e2 := hKr.out.c0
        simp only [leftAt, e1, e2, ByteArray.size_extract]
        omega

end Go.Proofs.YtkcailgfggbigaaDoor
