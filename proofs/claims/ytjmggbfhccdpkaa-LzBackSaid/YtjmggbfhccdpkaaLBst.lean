/-
  The longest match: the finder's.
-/
import Derived.Test.YtjmggbfhccdpkaaLBpl
import Derived.Test.YtjmggbfhccdpkaaVTake
import Derived.Sort.QuietIn
namespace Go.Proofs.Ytjmggbfhccdpkaa
open Go.RowKit Go.Shelf Go.Proofs.Mem Go.Maps
attribute [local go_sem] Oper.semAt_some
set_option linter.unusedVariables false

theorem cands_stops (Ba Bf n0 : Nat) (B F M at_ : Nat) (bv : Value) (s : ByteArray) (w : World) (hs : s.size ≤ 100000) (hat : at_ ≤ s.size)
    (hfa : Ba < w.heap.size) (hff : Bf < w.heap.size) (hBa : w.cell? ⟨Ba, 0, none⟩ = some (.int .i64 at_)) (hBf : w.cell? ⟨Bf, 0, none⟩ = some (.pointer (some ⟨F, 0, none⟩))) (hF : Fndr w B F M bv s at_) (hn0F : F < n0) (hn0M : M < n0) (hn0g : ∀ g, bv.ownBlock = some g → g < n0) :
    SeqStopsK Fence.wide 8 Try.prog 32 #[.pointer (some ⟨Ba, 0, none⟩), .pointer (some ⟨Bf, 0, none⟩)] (encC (s := s) (at_ := at_)) (KeepC n0 Ba Bf) (fun ys => ys = (candL s at_).attach) (fun pre => pre <+: (candL s at_).attach) (candL s at_).length w :=
  fun l J Jx W hB hJ _ hY h0 => cands_in l Ba Bf n0 B F M at_ bv s hs hat J Jx hY W hJ ((hB.cell (p := ⟨Ba, 0, none⟩) hfa).trans hBa) ((hB.cell (p := ⟨Bf, 0, none⟩) hff).trans hBf) (hF.below hB) hn0F hn0M hn0g h0

theorem own_lt {w : World} {B n size : Nat} {E : TypeId} {v : Value} {xs : List Value} (h : w.ownsRow B E size v n xs) {g : Nat} (hg : v.ownBlock = some g) : g < w.heap.size := by
  obtain ⟨cs, fr, hc⟩ := own_cells h hg
  rcases Nat.lt_or_ge g w.heap.size with h' | h'
  · exact h'
  · rw [Array.getElem?_eq_none h'] at hc; cases hc
/-- What lies there between two rounds. -/
structure BestS (X F a : Nat) (p : Nat × Nat) (W : World) : Prop where
  c0 : W.cell? ⟨X, 0, none⟩ = some (.pointer (some ⟨F, 0, none⟩))
  c1 : W.cell? ⟨X + 1, 0, none⟩ = some (.int .i64 (a : Nat))
  c2 : W.cell? ⟨X + 1 + 1, 0, none⟩ = some (.int .i64 (p.1 : Nat))
  c3 : W.cell? ⟨X + 1 + 1 + 1, 0, none⟩ = some (.int .i64 (p.2 : Nat))
  f2 : W.frozen? ⟨X + 1 + 1, 0, none⟩ = false
  f3 : W.frozen? ⟨X + 1 + 1 + 1, 0, none⟩ = false
theorem BestS.kept {X F a : Nat} {p : Nat × Nat} {A B : World} {row : Option Nat} (hs : BestS X F a p A) (hg : A.grownBy B row) (hr : ∀ r, row = some r → ∃ o : Obj, A.heap[r]? = some o ∧ o.isCells = false) : BestS X F a p B :=
  ⟨Go.cell_kept hs.c0 hg hr, Go.cell_kept hs.c1 hg hr, Go.cell_kept hs.c2 hg hr, Go.cell_kept hs.c3 hg hr, (Go.frozen_kept hs.c2 hg hr).trans hs.f2, (Go.frozen_kept hs.c3 hg hr).trans hs.f3⟩
def cvals {s : ByteArray} {a : Nat} (l : List (Cnd s a)) : List Nat := l.map (·.1)
theorem cvals_snoc {s : ByteArray} {a : Nat} (l : List (Cnd s a)) (x : Cnd s a) : cvals (l ++ [x]) = cvals l ++ [x.1] := by unfold cvals; rw [List.map_append]; rfl
theorem cvals_all (s : ByteArray) (a : Nat) : cvals (candL s a).attach = candL s a := List.attach_map_subtype_val _

theorem ko_drewN {A B : World} (m : Nat) (h : KeepsOthers A B) : KeepsOthers A (B.drewN m) := by
  induction m with
  | zero => exact h
  | succ m ih => exact ko_drew ih
def bestV (p : Nat × Nat) : Value := .tuple #[.int .i64 (p.1 : Nat), .int .i64 (p.2 : Nat)]

set_option maxRecDepth 100000 in
set_option maxHeartbeats 4000000 in
theorem best_in (s : ByteArray) (B F M a : Nat) (bv : Value) (w : World) (hs : s.size ≤ 100000) (ha : a ≤ s.size) (hF : Fndr w B F M bv s a) :
    CallsIn Fence.wide 10 Try.prog 13 #[.pointer (some ⟨F, 0, none⟩), .int .i64 a] w fun e' w' => e' = .returned (bestV (bestP s a)) ∧ Below w.heap.size w w' := by
  refine callsIn_of_wp_marks Try.func13 rfl trivial ?_ rfl
  simp only [Try.ntmps13, List.size_toArray, List.length_cons, List.length_nil, Nat.reduceAdd, Nat.reduceSub, Array.replicate_succ, Array.replicate_zero, List.push_toArray, List.append_toArray, List.nil_append, List.cons_append]
  refine wpIn_wide.2 ?_
  go_wp2_with (go_at_call 23; refine Calls.mono (candidates_any _ _ _) ?_; rintro e w' ⟨rfl, rfl⟩)
  obtain ⟨W2, hW2⟩ : ∃ W2, ((((((w.alloc (.cells #[.pointer (some ⟨F, 0, none⟩)] 32)).alloc (.cells #[.int .i64 a] 3)).alloc (.cells #[.int .i64 0] 3)).alloc (.cells #[.int .i64 0] 3)).alloc (.cells #[.pointer (some ⟨F, 0, none⟩)] 32)).alloc (.cells #[.int .i64 a] 3)) = W2 := ⟨_, rfl⟩
  have hsz : W2.heap.size = w.heap.size + 6 := by rw [← hW2]; simp only [World.size_alloc]
  have hT0 : BestS w.heap.size F a (0, 0) W2 := by
    rw [← hW2]; clear hW2 hsz
    exact ⟨by go_simp, by go_simp, by go_simp, by go_simp, by go_simp, by go_simp⟩
  have u4 : W2.cell? ⟨w.heap.size + 1 + 1 + 1 + 1, 0, none⟩ = some (.pointer (some ⟨F, 0, none⟩)) := by rw [← hW2]; clear hW2 hsz; go_simp
  have u5 : W2.cell? ⟨w.heap.size + 1 + 1 + 1 + 1 + 1, 0, none⟩ = some (.int .i64 a) := by rw [← hW2]; clear hW2 hsz; go_simp
  have hB2 : Below w.heap.size w W2 := by rw [← hW2]; clear hW2 hsz; go_grown
  rw [hW2]
  clear hW2
  refine (wpIn_wide (n := 9)).1 ?_
  refine wpIn_rangeFunc_ownF rfl (by omega) (gf := 32) (lb := #[.pointer (some ⟨w.heap.size + 1 + 1 + 1 + 1 + 1, 0, none⟩), .pointer (some ⟨w.heap.size + 1 + 1 + 1 + 1, 0, none⟩)]) rfl trivial (enters_of Try.func32 (by kernel_rfl) rfl)
    (cands_stops (w.heap.size + 1 + 1 + 1 + 1 + 1) (w.heap.size + 1 + 1 + 1 + 1) w.heap.size B F M a bv s W2 hs ha (by omega) (by omega) u5 u4 (hF.below hB2) hF.lt hF.hds.lt (fun g hg => (own_lt hF.bck hg))) (fun h k => keepC_t h k) (keepC_b (by omega) (by omega) (by omega)) (Below.refl _ _) (fun _ => rfl)
    (fun pre W => BestS w.heap.size F a (bestF s a (cvals pre)) W ∧ (Below w.heap.size w W ∧ (bestF s a (cvals pre)).1 ≠ 131))
    (fun c pre W => BestS w.heap.size F a (bestF s a (cvals pre)) W ∧ (Below w.heap.size w W ∧ ((bestF s a (cvals pre)).1 = 131 ∧ c = .exit 0)))
    (OwnFrom.and (show OwnFrom W2.heap.size (fun (pre : List (Cnd s a)) W => BestS w.heap.size F a (bestF s a (cvals pre)) W) from Own.from (fun p A B row (hs : BestS w.heap.size F a (bestF s a (cvals p)) A) hg hr => (BestS.kept hs hg hr : BestS w.heap.size F a (bestF s a (cvals p)) B)) _) (OwnFrom.and (ownFrom_below (Nat.le_refl _) (by omega)) (ownFrom_pure _ _)))
    (fun c => OwnFrom.and (show OwnFrom W2.heap.size (fun (pre : List (Cnd s a)) W => BestS w.heap.size F a (bestF s a (cvals pre)) W) from Own.from (fun p A B row (hs : BestS w.heap.size F a (bestF s a (cvals p)) A) hg hr => (BestS.kept hs hg hr : BestS w.heap.size F a (bestF s a (cvals p)) B)) _) (OwnFrom.and (ownFrom_below (Nat.le_refl _) (by omega)) (ownFrom_pure _ _)))
    ⟨hT0, hB2, (by show (0 : Nat) ≠ 131; decide)⟩
    (fun x => { tmps := #[.pointer (some ⟨F, 0, none⟩), .int .i64 a, .pointer (some ⟨w.heap.size, 0, none⟩), .pointer (some ⟨w.heap.size + 1, 0, none⟩), .pointer (some ⟨w.heap.size + 1 + 1, 0, none⟩), .pointer (some ⟨w.heap.size + 1 + 1 + 1, 0, none⟩), .int .i64 (x.1 : Nat), undef, .pointer (some ⟨F, 0, none⟩), .int .i64 a,
      .func (.func 32) #[] #[.pointer (some ⟨w.heap.size + 1 + 1 + 1 + 1 + 1, 0, none⟩), .pointer (some ⟨w.heap.size + 1 + 1 + 1 + 1, 0, none⟩)], .int .i64 (x.1 : Nat), undef, undef, undef, undef, undef, undef, undef, undef, undef, undef, undef, undef, undef, undef, undef, undef, undef, undef], defers := [] }) ?assign ?body ?done ?stop
  case assign =>
    intro l x W K hK
    simp only [encC]
    gi_wp2
    exact hK
  case body =>
    rintro l pre x W ⟨hS, hB, hrun⟩ hlen
    obtain ⟨hq1, hq2, hq3, hq4, hq5⟩ := cand_lt x.1 x.2
    have HSN := Lib.hid (bestF_snoc s a (cvals pre) x.1)
    have HVS := Lib.hid (cvals_snoc pre x)
    have hle := bestF_le s a (cvals pre)
    have HCM := Lib.hid (fun W => common_any s x.1 a W hs hq1 ha)
    have hnl := same_le s x.1 a
    generalize x.1 = q at *
    obtain ⟨p, hp⟩ : ∃ p, p = bestF s a (cvals pre) := ⟨_, rfl⟩
    rw [← hp] at hS hrun HSN hle
    obtain ⟨n, hn⟩ : ∃ n, n = sameN s q a := ⟨_, rfl⟩
    have hst : stepB s a p q = if p.1 < n then (n, a - q) else p := by unfold stepB; rw [hn]
    have HST := Lib.hid hst
    rw [← hn] at HCM hnl
    obtain ⟨g0, g1, g2, gf⟩ := hF.cells
    have b0 := (hB.cell (p := ⟨F, 0, none⟩) hF.lt).trans g0
    have hFl := hF.lt
    obtain ⟨c0, c1, c2, c3, f2, f3⟩ := hS
    have HB := Lib.hid hB
    have HR := Lib.hid hrun
    have hp1 : p.1 ≤ 131 := hle.1
    have hp2 : p.2 ≤ 100000 := by omega
    have haz : a ≤ 100000 := by omega
    have HF := Lib.hid hF
    clear hp hn hst hB hrun hle hlen hT0 u4 u5 g0 g1 g2 gf hF hq2 hq3 hq4 hB2
    gi_wp2
    refine wpIn_mono (Q := fun e a1 w1 => e = .normal ∧ (∃ v12 v13 v14 v15 v16 v17 v18 v19 v20 v21 v22 v23 v24 v25 v26 v27 v28 v29, a1 = ({ tmps := #[.pointer (some ⟨F, 0, none⟩), .int .i64 a, .pointer (some ⟨w.heap.size, 0, none⟩), .pointer (some ⟨w.heap.size + 1, 0, none⟩), .pointer (some ⟨w.heap.size + 1 + 1, 0, none⟩), .pointer (some ⟨w.heap.size + 1 + 1 + 1, 0, none⟩), .int .i64 (q : Nat), .int .i64 (n : Nat), .pointer (some ⟨F, 0, none⟩), .int .i64 a, .func (.func 32) #[] #[.pointer (some ⟨w.heap.size + 1 + 1 + 1 + 1 + 1, 0, none⟩), .pointer (some ⟨w.heap.size + 1 + 1 + 1 + 1, 0, none⟩)], .int .i64 (q : Nat), v12, v13, v14, v15, v16, v17, v18, v19, v20, v21, v22, v23, v24, v25, v26, v27, v28, v29], defers := [] } : Act)) ∧ ∃ m, w1 = W.drewN m) ?_ ?_
    · refine wpIn_region_any (by kernel_rfl) ?_
      refine wpAnyIn_ready (rs := [0, 4, 5]) (by kernel_rfl) (by simp) ?_
      refine AllReadyIn.cons rfl (fun K hK => ?_) ?_
      · rw [if_pos (by kernel_rfl)]
        go_simp
        refine hK _ _ ?_
        clear hK K
        refine wpAnyIn_ready (rs := [1, 4, 5]) (by kernel_rfl) (by simp) ?_
        refine AllReadyIn.cons rfl (fun K hK => ?_) ?_
        · rw [if_pos (by kernel_rfl)]
          go_simp
          refine hK _ _ ?_
          clear hK K
          refine wpAnyIn_ready (rs := [2, 4, 5]) (by kernel_rfl) (by simp) ?_
          refine AllReadyIn.cons rfl (fun K hK => ?_) ?_
          · rw [if_pos (by kernel_rfl)]
            go_simp
            refine hK _ _ ?_
            clear hK K
            refine wpAnyIn_ready (rs := [3, 4, 5]) (by kernel_rfl) (by simp) ?_
            refine AllReadyIn.cons rfl (fun K hK => ?_) ?_
            · rw [if_pos (by kernel_rfl)]
              go_simp
              refine hK _ _ ?_
              clear hK K
              refine wpAnyIn_ready (rs := [4, 5]) (by kernel_rfl) (by simp) ?_
              refine AllReadyIn.cons rfl (fun K hK => ?_) ?_
              · rw [if_pos (by kernel_rfl)]
                go_simp
                refine hK _ _ ?_
                clear hK K
                refine wpAnyIn_ready (rs := [5]) (by kernel_rfl) (by simp) ?_
                refine AllReadyIn.cons rfl (fun K hK => ?_) AllReadyIn.nil
                · rw [if_pos (by kernel_rfl)]
                  go_simp
                  refine hK _ _ ?_
                  clear hK K
                  refine wpAnyIn_ready (rs := [6]) (by kernel_rfl) (by simp) ?_
                  refine AllReadyIn.cons rfl (fun K hK => ?_) AllReadyIn.nil
                  · rw [if_pos (by kernel_rfl)]
                    go_simp
                    refine ⟨trivial, ?_⟩
                    refine CallsIn.mono (CallsIn.inRound l (callsIn_wide.2 (HCM.out _))) ?_
                    rintro e w1 ⟨rfl, m1, rfl⟩
                    refine hK _ _ ?_
                    clear hK K
                    refine wpAnyIn_ready (rs := [7]) (by kernel_rfl) (by simp) ?_
                    refine AllReadyIn.cons rfl (fun K hK => ?_) AllReadyIn.nil
                    · rw [if_pos (by kernel_rfl)]
                      go_simp
                      refine hK _ _ ?_
                      clear hK K
                      refine wpAnyIn_done (by kernel_rfl) ?_ _
                      exact ⟨rfl, ⟨_, _, _, _, _, _, _, _, _, _, _, _, _, _, _, _, _, _, rfl⟩, _, rfl⟩
              refine AllReadyIn.cons rfl (fun K hK => ?_) AllReadyIn.nil
              · rw [if_pos (by kernel_rfl)]
                go_simp
                refine hK _ _ ?_
                clear hK K
                refine wpAnyIn_ready (rs := [4]) (by kernel_rfl) (by simp) ?_
                refine AllReadyIn.cons rfl (fun K hK => ?_) AllReadyIn.nil
                · rw [if_pos (by kernel_rfl)]
                  go_simp
                  refine hK _ _ ?_
                  clear hK K
                  refine wpAnyIn_ready (rs := [6]) (by kernel_rfl) (by simp) ?_
                  refine AllReadyIn.cons rfl (fun K hK => ?_) AllReadyIn.nil
                  · rw [if_pos (by kernel_rfl)]
                    go_simp
                    refine ⟨trivial, ?_⟩
                    refine CallsIn.mono (CallsIn.inRound l (callsIn_wide.2 (HCM.out _))) ?_
                    rintro e w1 ⟨rfl, m1, rfl⟩
                    refine hK _ _ ?_
                    clear hK K
                    refine wpAnyIn_ready (rs := [7]) (by kernel_rfl) (by simp) ?_
                    refine AllReadyIn.cons rfl (fun K hK => ?_) AllReadyIn.nil
                    · rw [if_pos (by kernel_rfl)]
                      go_simp
                      refine hK _ _ ?_
                      clear hK K
                      refine wpAnyIn_done (by kernel_rfl) ?_ _
                      exact ⟨rfl, ⟨_, _, _, _, _, _, _, _, _, _, _, _, _, _, _, _, _, _, rfl⟩, _, rfl⟩
            refine AllReadyIn.cons rfl (fun K hK => ?_) ?_
            · rw [if_pos (by kernel_rfl)]
              go_simp
              refine hK _ _ ?_
              clear hK K
              refine wpAnyIn_ready (rs := [3, 5]) (by kernel_rfl) (by simp) ?_
              refine AllReadyIn.cons rfl (fun K hK => ?_) ?_
              · rw [if_pos (by kernel_rfl)]
                go_simp
                refine hK _ _ ?_
                clear hK K
                refine wpAnyIn_ready (rs := [5]) (by kernel_rfl) (by simp) ?_
                refine AllReadyIn.cons rfl (fun K hK => ?_) AllReadyIn.nil
                · rw [if_pos (by kernel_rfl)]
                  go_simp
                  refine hK _ _ ?_
                  clear hK K
                  refine wpAnyIn_ready (rs := [6]) (by kernel_rfl) (by simp) ?_
                  refine AllReadyIn.cons rfl (fun K hK => ?_) AllReadyIn.nil
                  · rw [if_pos (by kernel_rfl)]
                    go_simp
                    refine ⟨trivial, ?_⟩
                    refine CallsIn.mono (CallsIn.inRound l (callsIn_wide.2 (HCM.out _))) ?_
                    rintro e w1 ⟨rfl, m1, rfl⟩
                    refine hK _ _ ?_
                    clear hK K
                    refine wpAnyIn_ready (rs := [7]) (by kernel_rfl) (by simp) ?_
                    refine AllReadyIn.cons rfl (fun K hK => ?_) AllReadyIn.nil
                    · rw [if_pos (by kernel_rfl)]
                      go_simp
                      refine hK _ _ ?_
                      clear hK K
                      refine wpAnyIn_done (by kernel_rfl) ?_ _
                      exact ⟨rfl, ⟨_, _, _, _, _, _, _, _, _, _, _, _, _, _, _, _, _, _, rfl⟩, _, rfl⟩
              refine AllReadyIn.cons rfl (fun K hK => ?_) AllReadyIn.nil
              · rw [if_pos (by kernel_rfl)]
                go_simp
                refine hK _ _ ?_
                clear hK K
                refine wpAnyIn_ready (rs := [3]) (by kernel_rfl) (by simp) ?_
                refine AllReadyIn.cons rfl (fun K hK => ?_) AllReadyIn.nil
                · rw [if_pos (by kernel_rfl)]
                  go_simp
                  refine hK _ _ ?_
                  clear hK K
                  refine wpAnyIn_ready (rs := [6]) (by kernel_rfl) (by simp) ?_
                  refine AllReadyIn.cons rfl (fun K hK => ?_) AllReadyIn.nil
                  · rw [if_pos (by kernel_rfl)]
                    go_simp
                    refine ⟨trivial, ?_⟩
                    refine CallsIn.mono (CallsIn.inRound l (callsIn_wide.2 (HCM.out _))) ?_
                    rintro e w1 ⟨rfl, m1, rfl⟩
                    refine hK _ _ ?_
                    clear hK K
                    refine wpAnyIn_ready (rs := [7]) (by kernel_rfl) (by simp) ?_
                    refine AllReadyIn.cons rfl (fun K hK => ?_) AllReadyIn.nil
                    · rw [if_pos (by kernel_rfl)]
                      go_simp
                      refine hK _ _ ?_
                      clear hK K
                      refine wpAnyIn_done (by kernel_rfl) ?_ _
                      exact ⟨rfl, ⟨_, _, _, _, _, _, _, _, _, _, _, _, _, _, _, _, _, _, rfl⟩, _, rfl⟩
            refine AllReadyIn.cons rfl (fun K hK => ?_) AllReadyIn.nil
            · rw [if_pos (by kernel_rfl)]
              go_simp
              refine hK _ _ ?_
              clear hK K
              refine wpAnyIn_ready (rs := [3, 4]) (by kernel_rfl) (by simp) ?_
              refine AllReadyIn.cons rfl (fun K hK => ?_) ?_
              · rw [if_pos (by kernel_rfl)]
                go_simp
                refine hK _ _ ?_
                clear hK K
                refine wpAnyIn_ready (rs := [4]) (by kernel_rfl) (by simp) ?_
                refine AllReadyIn.cons rfl (fun K hK => ?_) AllReadyIn.nil
                · rw [if_pos (by kernel_rfl)]
                  go_simp
                  refine hK _ _ ?_
                  clear hK K
                  refine wpAnyIn_ready (rs := [6]) (by kernel_rfl) (by simp) ?_
                  refine AllReadyIn.cons rfl (fun K hK => ?_) AllReadyIn.nil
                  · rw [if_pos (by kernel_rfl)]
                    go_simp
                    refine ⟨trivial, ?_⟩
                    refine CallsIn.mono (CallsIn.inRound l (callsIn_wide.2 (HCM.out _))) ?_
                    rintro e w1 ⟨rfl, m1, rfl⟩
                    refine hK _ _ ?_
                    clear hK K
                    refine wpAnyIn_ready (rs := [7]) (by kernel_rfl) (by simp) ?_
                    refine AllReadyIn.cons rfl (fun K hK => ?_) AllReadyIn.nil
                    · rw [if_pos (by kernel_rfl)]
                      go_simp
                      refine hK _ _ ?_
                      clear hK K
                      refine wpAnyIn_done (by kernel_rfl) ?_ _
                      exact ⟨rfl, ⟨_, _, _, _, _, _, _, _, _, _, _, _, _, _, _, _, _, _, rfl⟩, _, rfl⟩
              refine AllReadyIn.cons rfl (fun K hK => ?_) AllReadyIn.nil
              · rw [if_pos (by kernel_rfl)]
                go_simp
                refine hK _ _ ?_
                clear hK K
                refine wpAnyIn_ready (rs := [3]) (by kernel_rfl) (by simp) ?_
                refine AllReadyIn.cons rfl (fun K hK => ?_) AllReadyIn.nil
                · rw [if_pos (by kernel_rfl)]
                  go_simp
                  refine hK _ _ ?_
                  clear hK K
                  refine wpAnyIn_ready (rs := [6]) (by kernel_rfl) (by simp) ?_
                  refine AllReadyIn.cons rfl (fun K hK => ?_) AllReadyIn.nil
                  · rw [if_pos (by kernel_rfl)]
                    go_simp
                    refine ⟨trivial, ?_⟩
                    refine CallsIn.mono (CallsIn.inRound l (callsIn_wide.2 (HCM.out _))) ?_
                    rintro e w1 ⟨rfl, m1, rfl⟩
                    refine hK _ _ ?_
                    clear hK K
                    refine wpAnyIn_ready (rs := [7]) (by kernel_rfl) (by simp) ?_
                    refine AllReadyIn.cons rfl (fun K hK => ?_) AllReadyIn.nil
                    · rw [if_pos (by kernel_rfl)]
                      go_simp
                      refine hK _ _ ?_
                      clear hK K
                      refine wpAnyIn_done (by kernel_rfl) ?_ _
                      exact ⟨rfl, ⟨_, _, _, _, _, _, _, _, _, _, _, _, _, _, _, _, _, _, rfl⟩, _, rfl⟩
          refine AllReadyIn.cons rfl (fun K hK => ?_) ?_
          · rw [if_pos (by kernel_rfl)]
            go_simp
            refine hK _ _ ?_
            clear hK K
            refine wpAnyIn_ready (rs := [2, 5]) (by kernel_rfl) (by simp) ?_
            refine AllReadyIn.cons rfl (fun K hK => ?_) ?_
            · rw [if_pos (by kernel_rfl)]
              go_simp
              refine hK _ _ ?_
              clear hK K
              refine wpAnyIn_ready (rs := [3, 5]) (by kernel_rfl) (by simp) ?_
              refine AllReadyIn.cons rfl (fun K hK => ?_) ?_
              · rw [if_pos (by kernel_rfl)]
                go_simp
                refine hK _ _ ?_
                clear hK K
                refine wpAnyIn_ready (rs := [5]) (by kernel_rfl) (by simp) ?_
                refine AllReadyIn.cons rfl (fun K hK => ?_) AllReadyIn.nil
                · rw [if_pos (by kernel_rfl)]
                  go_simp
                  refine hK _ _ ?_
                  clear hK K
                  refine wpAnyIn_ready (rs := [6]) (by kernel_rfl) (by simp) ?_
                  refine AllReadyIn.cons rfl (fun K hK => ?_) AllReadyIn.nil
                  · rw [if_pos (by kernel_rfl)]
                    go_simp
                    refine ⟨trivial, ?_⟩
                    refine CallsIn.mono (CallsIn.inRound l (callsIn_wide.2 (HCM.out _))) ?_
                    rintro e w1 ⟨rfl, m1, rfl⟩
                    refine hK _ _ ?_
                    clear hK K
                    refine wpAnyIn_ready (rs := [7]) (by kernel_rfl) (by simp) ?_
                    refine AllReadyIn.cons rfl (fun K hK => ?_) AllReadyIn.nil
                    · rw [if_pos (by kernel_rfl)]
                      go_simp
                      refine hK _ _ ?_
                      clear hK K
                      refine wpAnyIn_done (by kernel_rfl) ?_ _
                      exact ⟨rfl, ⟨_, _, _, _, _, _, _, _, _, _, _, _, _, _, _, _, _, _, rfl⟩, _, rfl⟩
              refine AllReadyIn.cons rfl (fun K hK => ?_) AllReadyIn.nil
              · rw [if_pos (by kernel_rfl)]
                go_simp
                refine hK _ _ ?_
                clear hK K
                refine wpAnyIn_ready (rs := [3]) (by kernel_rfl) (by simp) ?_
                refine AllReadyIn.cons rfl (fun K hK => ?_) AllReadyIn.nil
                · rw [if_pos (by kernel_rfl)]
                  go_simp
                  refine hK _ _ ?_
                  clear hK K
                  refine wpAnyIn_ready (rs := [6]) (by kernel_rfl) (by simp) ?_
                  refine AllReadyIn.cons rfl (fun K hK => ?_) AllReadyIn.nil
                  · rw [if_pos (by kernel_rfl)]
                    go_simp
                    refine ⟨trivial, ?_⟩
                    refine CallsIn.mono (CallsIn.inRound l (callsIn_wide.2 (HCM.out _))) ?_
                    rintro e w1 ⟨rfl, m1, rfl⟩
                    refine hK _ _ ?_
                    clear hK K
                    refine wpAnyIn_ready (rs := [7]) (by kernel_rfl) (by simp) ?_
                    refine AllReadyIn.cons rfl (fun K hK => ?_) AllReadyIn.nil
                    · rw [if_pos (by kernel_rfl)]
                      go_simp
                      refine hK _ _ ?_
                      clear hK K
                      refine wpAnyIn_done (by kernel_rfl) ?_ _
                      exact ⟨rfl, ⟨_, _, _, _, _, _, _, _, _, _, _, _, _, _, _, _, _, _, rfl⟩, _, rfl⟩
            refine AllReadyIn.cons rfl (fun K hK => ?_) AllReadyIn.nil
            · rw [if_pos (by kernel_rfl)]
              go_simp
              refine hK _ _ ?_
              clear hK K
              refine wpAnyIn_ready (rs := [2]) (by kernel_rfl) (by simp) ?_
              refine AllReadyIn.cons rfl (fun K hK => ?_) AllReadyIn.nil
              · rw [if_pos (by kernel_rfl)]
                go_simp
                refine hK _ _ ?_
                clear hK K
                refine wpAnyIn_ready (rs := [3]) (by kernel_rfl) (by simp) ?_
                refine AllReadyIn.cons rfl (fun K hK => ?_) AllReadyIn.nil
                · rw [if_pos (by kernel_rfl)]
                  go_simp
                  refine hK _ _ ?_
                  clear hK K
                  refine wpAnyIn_ready (rs := [6]) (by kernel_rfl) (by simp) ?_
                  refine AllReadyIn.cons rfl (fun K hK => ?_) AllReadyIn.nil
                  · rw [if_pos (by kernel_rfl)]
                    go_simp
                    refine ⟨trivial, ?_⟩
                    refine CallsIn.mono (CallsIn.inRound l (callsIn_wide.2 (HCM.out _))) ?_
                    rintro e w1 ⟨rfl, m1, rfl⟩
                    refine hK _ _ ?_
                    clear hK K
                    refine wpAnyIn_ready (rs := [7]) (by kernel_rfl) (by simp) ?_
                    refine AllReadyIn.cons rfl (fun K hK => ?_) AllReadyIn.nil
                    · rw [if_pos (by kernel_rfl)]
                      go_simp
                      refine hK _ _ ?_
                      clear hK K
                      refine wpAnyIn_done (by kernel_rfl) ?_ _
                      exact ⟨rfl, ⟨_, _, _, _, _, _, _, _, _, _, _, _, _, _, _, _, _, _, rfl⟩, _, rfl⟩
          refine AllReadyIn.cons rfl (fun K hK => ?_) AllReadyIn.nil
          · rw [if_pos (by kernel_rfl)]
            go_simp
            refine hK _ _ ?_
            clear hK K
            refine wpAnyIn_ready (rs := [2, 4]) (by kernel_rfl) (by simp) ?_
            refine AllReadyIn.cons rfl (fun K hK => ?_) ?_
            · rw [if_pos (by kernel_rfl)]
              go_simp
              refine hK _ _ ?_
              clear hK K
              refine wpAnyIn_ready (rs := [3, 4]) (by kernel_rfl) (by simp) ?_
              refine AllReadyIn.cons rfl (fun K hK => ?_) ?_
              · rw [if_pos (by kernel_rfl)]
                go_simp
                refine hK _ _ ?_
                clear hK K
                refine wpAnyIn_ready (rs := [4]) (by kernel_rfl) (by simp) ?_
                refine AllReadyIn.cons rfl (fun K hK => ?_) AllReadyIn.nil
                · rw [if_pos (by kernel_rfl)]
                  go_simp
                  refine hK _ _ ?_
                  clear hK K
                  refine wpAnyIn_ready (rs := [6]) (by kernel_rfl) (by simp) ?_
                  refine AllReadyIn.cons rfl (fun K hK => ?_) AllReadyIn.nil
                  · rw [if_pos (by kernel_rfl)]
                    go_simp
                    refine ⟨trivial, ?_⟩
                    refine CallsIn.mono (CallsIn.inRound l (callsIn_wide.2 (HCM.out _))) ?_
                    rintro e w1 ⟨rfl, m1, rfl⟩
                    refine hK _ _ ?_
                    clear hK K
                    refine wpAnyIn_ready (rs := [7]) (by kernel_rfl) (by simp) ?_
                    refine AllReadyIn.cons rfl (fun K hK => ?_) AllReadyIn.nil
                    · rw [if_pos (by kernel_rfl)]
                      go_simp
                      refine hK _ _ ?_
                      clear hK K
                      refine wpAnyIn_done (by kernel_rfl) ?_ _
                      exact ⟨rfl, ⟨_, _, _, _, _, _, _, _, _, _, _, _, _, _, _, _, _, _, rfl⟩, _, rfl⟩
              refine AllReadyIn.cons rfl (fun K hK => ?_) AllReadyIn.nil
              · rw [if_pos (by kernel_rfl)]
                go_simp
                refine hK _ _ ?_
                clear hK K
                refine wpAnyIn_ready (rs := [3]) (by kernel_rfl) (by simp) ?_
                refine AllReadyIn.cons rfl (fun K hK => ?_) AllReadyIn.nil
                · rw [if_pos (by kernel_rfl)]
                  go_simp
                  refine hK _ _ ?_
                  clear hK K
                  refine wpAnyIn_ready (rs := [6]) (by kernel_rfl) (by simp) ?_
                  refine AllReadyIn.cons rfl (fun K hK => ?_) AllReadyIn.nil
                  · rw [if_pos (by kernel_rfl)]
                    go_simp
                    refine ⟨trivial, ?_⟩
                    refine CallsIn.mono (CallsIn.inRound l (callsIn_wide.2 (HCM.out _))) ?_
                    rintro e w1 ⟨rfl, m1, rfl⟩
                    refine hK _ _ ?_
                    clear hK K
                    refine wpAnyIn_ready (rs := [7]) (by kernel_rfl) (by simp) ?_
                    refine AllReadyIn.cons rfl (fun K hK => ?_) AllReadyIn.nil
                    · rw [if_pos (by kernel_rfl)]
                      go_simp
                      refine hK _ _ ?_
                      clear hK K
                      refine wpAnyIn_done (by kernel_rfl) ?_ _
                      exact ⟨rfl, ⟨_, _, _, _, _, _, _, _, _, _, _, _, _, _, _, _, _, _, rfl⟩, _, rfl⟩
            refine AllReadyIn.cons rfl (fun K hK => ?_) AllReadyIn.nil
            · rw [if_pos (by kernel_rfl)]
              go_simp
              refine hK _ _ ?_
              clear hK K
              refine wpAnyIn_ready (rs := [2]) (by kernel_rfl) (by simp) ?_
              refine AllReadyIn.cons rfl (fun K hK => ?_) AllReadyIn.nil
              · rw [if_pos (by kernel_rfl)]
                go_simp
                refine hK _ _ ?_
                clear hK K
                refine wpAnyIn_ready (rs := [3]) (by kernel_rfl) (by simp) ?_
                refine AllReadyIn.cons rfl (fun K hK => ?_) AllReadyIn.nil
                · rw [if_pos (by kernel_rfl)]
                  go_simp
                  refine hK _ _ ?_
                  clear hK K
                  refine wpAnyIn_ready (rs := [6]) (by kernel_rfl) (by simp) ?_
                  refine AllReadyIn.cons rfl (fun K hK => ?_) AllReadyIn.nil
                  · rw [if_pos (by kernel_rfl)]
                    go_simp
                    refine ⟨trivial, ?_⟩
                    refine CallsIn.mono (CallsIn.inRound l (callsIn_wide.2 (HCM.out _))) ?_
                    rintro e w1 ⟨rfl, m1, rfl⟩
                    refine hK _ _ ?_
                    clear hK K
                    refine wpAnyIn_ready (rs := [7]) (by kernel_rfl) (by simp) ?_
                    refine AllReadyIn.cons rfl (fun K hK => ?_) AllReadyIn.nil
                    · rw [if_pos (by kernel_rfl)]
                      go_simp
                      refine hK _ _ ?_
                      clear hK K
                      refine wpAnyIn_done (by kernel_rfl) ?_ _
                      exact ⟨rfl, ⟨_, _, _, _, _, _, _, _, _, _, _, _, _, _, _, _, _, _, rfl⟩, _, rfl⟩
        refine AllReadyIn.cons rfl (fun K hK => ?_) ?_
        · rw [if_pos (by kernel_rfl)]
          go_simp
          refine hK _ _ ?_
          clear hK K
          refine wpAnyIn_ready (rs := [1, 5]) (by kernel_rfl) (by simp) ?_
          refine AllReadyIn.cons rfl (fun K hK => ?_) ?_
          · rw [if_pos (by kernel_rfl)]
            go_simp
            refine hK _ _ ?_
            clear hK K
            refine wpAnyIn_ready (rs := [2, 5]) (by kernel_rfl) (by simp) ?_
            refine AllReadyIn.cons rfl (fun K hK => ?_) ?_
            · rw [if_pos (by kernel_rfl)]
              go_simp
              refine hK _ _ ?_
              clear hK K
              refine wpAnyIn_ready (rs := [3, 5]) (by kernel_rfl) (by simp) ?_
              refine AllReadyIn.cons rfl (fun K hK => ?_) ?_
              · rw [if_pos (by kernel_rfl)]
                go_simp
                refine hK _ _ ?_
                clear hK K
                refine wpAnyIn_ready (rs := [5]) (by kernel_rfl) (by simp) ?_
                refine AllReadyIn.cons rfl (fun K hK => ?_) AllReadyIn.nil
                · rw [if_pos (by kernel_rfl)]
                  go_simp
                  refine hK _ _ ?_
                  clear hK K
                  refine wpAnyIn_ready (rs := [6]) (by kernel_rfl) (by simp) ?_
                  refine AllReadyIn.cons rfl (fun K hK => ?_) AllReadyIn.nil
                  · rw [if_pos (by kernel_rfl)]
                    go_simp
                    refine ⟨trivial, ?_⟩
                    refine CallsIn.mono (CallsIn.inRound l (callsIn_wide.2 (HCM.out _))) ?_
                    rintro e w1 ⟨rfl, m1, rfl⟩
                    refine hK _ _ ?_
                    clear hK K
                    refine wpAnyIn_ready (rs := [7]) (by kernel_rfl) (by simp) ?_
                    refine AllReadyIn.cons rfl (fun K hK => ?_) AllReadyIn.nil
                    · rw [if_pos (by kernel_rfl)]
                      go_simp
                      refine hK _ _ ?_
                      clear hK K
                      refine wpAnyIn_done (by kernel_rfl) ?_ _
                      exact ⟨rfl, ⟨_, _, _, _, _, _, _, _, _, _, _, _, _, _, _, _, _, _, rfl⟩, _, rfl⟩
              refine AllReadyIn.cons rfl (fun K hK => ?_) AllReadyIn.nil
              · rw [if_pos (by kernel_rfl)]
                go_simp
                refine hK _ _ ?_
                clear hK K
                refine wpAnyIn_ready (rs := [3]) (by kernel_rfl) (by simp) ?_
                refine AllReadyIn.cons rfl (fun K hK => ?_) AllReadyIn.nil
                · rw [if_pos (by kernel_rfl)]
                  go_simp
                  refine hK _ _ ?_
                  clear hK K
                  refine wpAnyIn_ready (rs := [6]) (by kernel_rfl) (by simp) ?_
                  refine AllReadyIn.cons rfl (fun K hK => ?_) AllReadyIn.nil
                  · rw [if_pos (by kernel_rfl)]
                    go_simp
                    refine ⟨trivial, ?_⟩
                    refine CallsIn.mono (CallsIn.inRound l (callsIn_wide.2 (HCM.out _))) ?_
                    rintro e w1 ⟨rfl, m1, rfl⟩
                    refine hK _ _ ?_
                    clear hK K
                    refine wpAnyIn_ready (rs := [7]) (by kernel_rfl) (by simp) ?_
                    refine AllReadyIn.cons rfl (fun K hK => ?_) AllReadyIn.nil
                    · rw [if_pos (by kernel_rfl)]
                      go_simp
                      refine hK _ _ ?_
                      clear hK K
                      refine wpAnyIn_done (by kernel_rfl) ?_ _
                      exact ⟨rfl, ⟨_, _, _, _, _, _, _, _, _, _, _, _, _, _, _, _, _, _, rfl⟩, _, rfl⟩
            refine AllReadyIn.cons rfl (fun K hK => ?_) AllReadyIn.nil
            · rw [if_pos (by kernel_rfl)]
              go_simp
              refine hK _ _ ?_
              clear hK K
              refine wpAnyIn_ready (rs := [2]) (by kernel_rfl) (by simp) ?_
              refine AllReadyIn.cons rfl (fun K hK => ?_) AllReadyIn.nil
              · rw [if_pos (by kernel_rfl)]
                go_simp
                refine hK _ _ ?_
                clear hK K
                refine wpAnyIn_ready (rs := [3]) (by kernel_rfl) (by simp) ?_
                refine AllReadyIn.cons rfl (fun K hK => ?_) AllReadyIn.nil
                · rw [if_pos (by kernel_rfl)]
                  go_simp
                  refine hK _ _ ?_
                  clear hK K
                  refine wpAnyIn_ready (rs := [6]) (by kernel_rfl) (by simp) ?_
                  refine AllReadyIn.cons rfl (fun K hK => ?_) AllReadyIn.nil
                  · rw [if_pos (by kernel_rfl)]
                    go_simp
                    refine ⟨trivial, ?_⟩
                    refine CallsIn.mono (CallsIn.inRound l (callsIn_wide.2 (HCM.out _))) ?_
                    rintro e w1 ⟨rfl, m1, rfl⟩
                    refine hK _ _ ?_
                    clear hK K
                    refine wpAnyIn_ready (rs := [7]) (by kernel_rfl) (by simp) ?_
                    refine AllReadyIn.cons rfl (fun K hK => ?_) AllReadyIn.nil
                    · rw [if_pos (by kernel_rfl)]
                      go_simp
                      refine hK _ _ ?_
                      clear hK K
                      refine wpAnyIn_done (by kernel_rfl) ?_ _
                      exact ⟨rfl, ⟨_, _, _, _, _, _, _, _, _, _, _, _, _, _, _, _, _, _, rfl⟩, _, rfl⟩
          refine AllReadyIn.cons rfl (fun K hK => ?_) AllReadyIn.nil
          · rw [if_pos (by kernel_rfl)]
            go_simp
            refine hK _ _ ?_
            clear hK K
            refine wpAnyIn_ready (rs := [1]) (by kernel_rfl) (by simp) ?_
            refine AllReadyIn.cons rfl (fun K hK => ?_) AllReadyIn.nil
            · rw [if_pos (by kernel_rfl)]
              go_simp
              refine hK _ _ ?_
              clear hK K
              refine wpAnyIn_ready (rs := [2]) (by kernel_rfl) (by simp) ?_
              refine AllReadyIn.cons rfl (fun K hK => ?_) AllReadyIn.nil
              · rw [if_pos (by kernel_rfl)]
                go_simp
                refine hK _ _ ?_
                clear hK K
                refine wpAnyIn_ready (rs := [3]) (by kernel_rfl) (by simp) ?_
                refine AllReadyIn.cons rfl (fun K hK => ?_) AllReadyIn.nil
                · rw [if_pos (by kernel_rfl)]
                  go_simp
                  refine hK _ _ ?_
                  clear hK K
                  refine wpAnyIn_ready (rs := [6]) (by kernel_rfl) (by simp) ?_
                  refine AllReadyIn.cons rfl (fun K hK => ?_) AllReadyIn.nil
                  · rw [if_pos (by kernel_rfl)]
                    go_simp
                    refine ⟨trivial, ?_⟩
                    refine CallsIn.mono (CallsIn.inRound l (callsIn_wide.2 (HCM.out _))) ?_
                    rintro e w1 ⟨rfl, m1, rfl⟩
                    refine hK _ _ ?_
                    clear hK K
                    refine wpAnyIn_ready (rs := [7]) (by kernel_rfl) (by simp) ?_
                    refine AllReadyIn.cons rfl (fun K hK => ?_) AllReadyIn.nil
                    · rw [if_pos (by kernel_rfl)]
                      go_simp
                      refine hK _ _ ?_
                      clear hK K
                      refine wpAnyIn_done (by kernel_rfl) ?_ _
                      exact ⟨rfl, ⟨_, _, _, _, _, _, _, _, _, _, _, _, _, _, _, _, _, _, rfl⟩, _, rfl⟩
        refine AllReadyIn.cons rfl (fun K hK => ?_) AllReadyIn.nil
        · rw [if_pos (by kernel_rfl)]
          go_simp
          refine hK _ _ ?_
          clear hK K
          refine wpAnyIn_ready (rs := [1, 4]) (by kernel_rfl) (by simp) ?_
          refine AllReadyIn.cons rfl (fun K hK => ?_) ?_
          · rw [if_pos (by kernel_rfl)]
            go_simp
            refine hK _ _ ?_
            clear hK K
            refine wpAnyIn_ready (rs := [2, 4]) (by kernel_rfl) (by simp) ?_
            refine AllReadyIn.cons rfl (fun K hK => ?_) ?_
            · rw [if_pos (by kernel_rfl)]
              go_simp
              refine hK _ _ ?_
              clear hK K
              refine wpAnyIn_ready (rs := [3, 4]) (by kernel_rfl) (by simp) ?_
              refine AllReadyIn.cons rfl (fun K hK => ?_) ?_
              · rw [if_pos (by kernel_rfl)]
                go_simp
                refine hK _ _ ?_
                clear hK K
                refine wpAnyIn_ready (rs := [4]) (by kernel_rfl) (by simp) ?_
                refine AllReadyIn.cons rfl (fun K hK => ?_) AllReadyIn.nil
                · rw [if_pos (by kernel_rfl)]
                  go_simp
                  refine hK _ _ ?_
                  clear hK K
                  refine wpAnyIn_ready (rs := [6]) (by kernel_rfl) (by simp) ?_
                  refine AllReadyIn.cons rfl (fun K hK => ?_) AllReadyIn.nil
                  · rw [if_pos (by kernel_rfl)]
                    go_simp
                    refine ⟨trivial, ?_⟩
                    refine CallsIn.mono (CallsIn.inRound l (callsIn_wide.2 (HCM.out _))) ?_
                    rintro e w1 ⟨rfl, m1, rfl⟩
                    refine hK _ _ ?_
                    clear hK K
                    refine wpAnyIn_ready (rs := [7]) (by kernel_rfl) (by simp) ?_
                    refine AllReadyIn.cons rfl (fun K hK => ?_) AllReadyIn.nil
                    · rw [if_pos (by kernel_rfl)]
                      go_simp
                      refine hK _ _ ?_
                      clear hK K
                      refine wpAnyIn_done (by kernel_rfl) ?_ _
                      exact ⟨rfl, ⟨_, _, _, _, _, _, _, _, _, _, _, _, _, _, _, _, _, _, rfl⟩, _, rfl⟩
              refine AllReadyIn.cons rfl (fun K hK => ?_) AllReadyIn.nil
              · rw [if_pos (by kernel_rfl)]
                go_simp
                refine hK _ _ ?_
                clear hK K
                refine wpAnyIn_ready (rs := [3]) (by kernel_rfl) (by simp) ?_
                refine AllReadyIn.cons rfl (fun K hK => ?_) AllReadyIn.nil
                · rw [if_pos (by kernel_rfl)]
                  go_simp
                  refine hK _ _ ?_
                  clear hK K
                  refine wpAnyIn_ready (rs := [6]) (by kernel_rfl) (by simp) ?_
                  refine AllReadyIn.cons rfl (fun K hK => ?_) AllReadyIn.nil
                  · rw [if_pos (by kernel_rfl)]
                    go_simp
                    refine ⟨trivial, ?_⟩
                    refine CallsIn.mono (CallsIn.inRound l (callsIn_wide.2 (HCM.out _))) ?_
                    rintro e w1 ⟨rfl, m1, rfl⟩
                    refine hK _ _ ?_
                    clear hK K
                    refine wpAnyIn_ready (rs := [7]) (by kernel_rfl) (by simp) ?_
                    refine AllReadyIn.cons rfl (fun K hK => ?_) AllReadyIn.nil
                    · rw [if_pos (by kernel_rfl)]
                      go_simp
                      refine hK _ _ ?_
                      clear hK K
                      refine wpAnyIn_done (by kernel_rfl) ?_ _
                      exact ⟨rfl, ⟨_, _, _, _, _, _, _, _, _, _, _, _, _, _, _, _, _, _, rfl⟩, _, rfl⟩
            refine AllReadyIn.cons rfl (fun K hK => ?_) AllReadyIn.nil
            · rw [if_pos (by kernel_rfl)]
              go_simp
              refine hK _ _ ?_
              clear hK K
              refine wpAnyIn_ready (rs := [2]) (by kernel_rfl) (by simp) ?_
              refine AllReadyIn.cons rfl (fun K hK => ?_) AllReadyIn.nil
              · rw [if_pos (by kernel_rfl)]
                go_simp
                refine hK _ _ ?_
                clear hK K
                refine wpAnyIn_ready (rs := [3]) (by kernel_rfl) (by simp) ?_
                refine AllReadyIn.cons rfl (fun K hK => ?_) AllReadyIn.nil
                · rw [if_pos (by kernel_rfl)]
                  go_simp
                  refine hK _ _ ?_
                  clear hK K
                  refine wpAnyIn_ready (rs := [6]) (by kernel_rfl) (by simp) ?_
                  refine AllReadyIn.cons rfl (fun K hK => ?_) AllReadyIn.nil
                  · rw [if_pos (by kernel_rfl)]
                    go_simp
                    refine ⟨trivial, ?_⟩
                    refine CallsIn.mono (CallsIn.inRound l (callsIn_wide.2 (HCM.out _))) ?_
                    rintro e w1 ⟨rfl, m1, rfl⟩
                    refine hK _ _ ?_
                    clear hK K
                    refine wpAnyIn_ready (rs := [7]) (by kernel_rfl) (by simp) ?_
                    refine AllReadyIn.cons rfl (fun K hK => ?_) AllReadyIn.nil
                    · rw [if_pos (by kernel_rfl)]
                      go_simp
                      refine hK _ _ ?_
                      clear hK K
                      refine wpAnyIn_done (by kernel_rfl) ?_ _
                      exact ⟨rfl, ⟨_, _, _, _, _, _, _, _, _, _, _, _, _, _, _, _, _, _, rfl⟩, _, rfl⟩
          refine AllReadyIn.cons rfl (fun K hK => ?_) AllReadyIn.nil
          · rw [if_pos (by kernel_rfl)]
            go_simp
            refine hK _ _ ?_
            clear hK K
            refine wpAnyIn_ready (rs := [1]) (by kernel_rfl) (by simp) ?_
            refine AllReadyIn.cons rfl (fun K hK => ?_) AllReadyIn.nil
            · rw [if_pos (by kernel_rfl)]
              go_simp
              refine hK _ _ ?_
              clear hK K
              refine wpAnyIn_ready (rs := [2]) (by kernel_rfl) (by simp) ?_
              refine AllReadyIn.cons rfl (fun K hK => ?_) AllReadyIn.nil
              · rw [if_pos (by kernel_rfl)]
                go_simp
                refine hK _ _ ?_
                clear hK K
                refine wpAnyIn_ready (rs := [3]) (by kernel_rfl) (by simp) ?_
                refine AllReadyIn.cons rfl (fun K hK => ?_) AllReadyIn.nil
                · rw [if_pos (by kernel_rfl)]
                  go_simp
                  refine hK _ _ ?_
                  clear hK K
                  refine wpAnyIn_ready (rs := [6]) (by kernel_rfl) (by simp) ?_
                  refine AllReadyIn.cons rfl (fun K hK => ?_) AllReadyIn.nil
                  · rw [if_pos (by kernel_rfl)]
                    go_simp
                    refine ⟨trivial, ?_⟩
                    refine CallsIn.mono (CallsIn.inRound l (callsIn_wide.2 (HCM.out _))) ?_
                    rintro e w1 ⟨rfl, m1, rfl⟩
                    refine hK _ _ ?_
                    clear hK K
                    refine wpAnyIn_ready (rs := [7]) (by kernel_rfl) (by simp) ?_
                    refine AllReadyIn.cons rfl (fun K hK => ?_) AllReadyIn.nil
                    · rw [if_pos (by kernel_rfl)]
                      go_simp
                      refine hK _ _ ?_
                      clear hK K
                      refine wpAnyIn_done (by kernel_rfl) ?_ _
                      exact ⟨rfl, ⟨_, _, _, _, _, _, _, _, _, _, _, _, _, _, _, _, _, _, rfl⟩, _, rfl⟩
      refine AllReadyIn.cons rfl (fun K hK => ?_) ?_
      · rw [if_pos (by kernel_rfl)]
        go_simp
        refine hK _ _ ?_
        clear hK K
        refine wpAnyIn_ready (rs := [0, 5]) (by kernel_rfl) (by simp) ?_
        refine AllReadyIn.cons rfl (fun K hK => ?_) ?_
        · rw [if_pos (by kernel_rfl)]
          go_simp
          refine hK _ _ ?_
          clear hK K
          refine wpAnyIn_ready (rs := [1, 5]) (by kernel_rfl) (by simp) ?_
          refine AllReadyIn.cons rfl (fun K hK => ?_) ?_
          · rw [if_pos (by kernel_rfl)]
            go_simp
            refine hK _ _ ?_
            clear hK K
            refine wpAnyIn_ready (rs := [2, 5]) (by kernel_rfl) (by simp) ?_
            refine AllReadyIn.cons rfl (fun K hK => ?_) ?_
            · rw [if_pos (by kernel_rfl)]
              go_simp
              refine hK _ _ ?_
              clear hK K
              refine wpAnyIn_ready (rs := [3, 5]) (by kernel_rfl) (by simp) ?_
              refine AllReadyIn.cons rfl (fun K hK => ?_) ?_
              · rw [if_pos (by kernel_rfl)]
                go_simp
                refine hK _ _ ?_
                clear hK K
                refine wpAnyIn_ready (rs := [5]) (by kernel_rfl) (by simp) ?_
                refine AllReadyIn.cons rfl (fun K hK => ?_) AllReadyIn.nil
                · rw [if_pos (by kernel_rfl)]
                  go_simp
                  refine hK _ _ ?_
                  clear hK K
                  refine wpAnyIn_ready (rs := [6]) (by kernel_rfl) (by simp) ?_
                  refine AllReadyIn.cons rfl (fun K hK => ?_) AllReadyIn.nil
                  · rw [if_pos (by kernel_rfl)]
                    go_simp
                    refine ⟨trivial, ?_⟩
                    refine CallsIn.mono (CallsIn.inRound l (callsIn_wide.2 (HCM.out _))) ?_
                    rintro e w1 ⟨rfl, m1, rfl⟩
                    refine hK _ _ ?_
                    clear hK K
                    refine wpAnyIn_ready (rs := [7]) (by kernel_rfl) (by simp) ?_
                    refine AllReadyIn.cons rfl (fun K hK => ?_) AllReadyIn.nil
                    · rw [if_pos (by kernel_rfl)]
                      go_simp
                      refine hK _ _ ?_
                      clear hK K
                      refine wpAnyIn_done (by kernel_rfl) ?_ _
                      exact ⟨rfl, ⟨_, _, _, _, _, _, _, _, _, _, _, _, _, _, _, _, _, _, rfl⟩, _, rfl⟩
              refine AllReadyIn.cons rfl (fun K hK => ?_) AllReadyIn.nil
              · rw [if_pos (by kernel_rfl)]
                go_simp
                refine hK _ _ ?_
                clear hK K
                refine wpAnyIn_ready (rs := [3]) (by kernel_rfl) (by simp) ?_
                refine AllReadyIn.cons rfl (fun K hK => ?_) AllReadyIn.nil
                · rw [if_pos (by kernel_rfl)]
                  go_simp
                  refine hK _ _ ?_
                  clear hK K
                  refine wpAnyIn_ready (rs := [6]) (by kernel_rfl) (by simp) ?_
                  refine AllReadyIn.cons rfl (fun K hK => ?_) AllReadyIn.nil
                  · rw [if_pos (by kernel_rfl)]
                    go_simp
                    refine ⟨trivial, ?_⟩
                    refine CallsIn.mono (CallsIn.inRound l (callsIn_wide.2 (HCM.out _))) ?_
                    rintro e w1 ⟨rfl, m1, rfl⟩
                    refine hK _ _ ?_
                    clear hK K
                    refine wpAnyIn_ready (rs := [7]) (by kernel_rfl) (by simp) ?_
                    refine AllReadyIn.cons rfl (fun K hK => ?_) AllReadyIn.nil
                    · rw [if_pos (by kernel_rfl)]
                      go_simp
                      refine hK _ _ ?_
                      clear hK K
                      refine wpAnyIn_done (by kernel_rfl) ?_ _
                      exact ⟨rfl, ⟨_, _, _, _, _, _, _, _, _, _, _, _, _, _, _, _, _, _, rfl⟩, _, rfl⟩
            refine AllReadyIn.cons rfl (fun K hK => ?_) AllReadyIn.nil
            · rw [if_pos (by kernel_rfl)]
              go_simp
              refine hK _ _ ?_
              clear hK K
              refine wpAnyIn_ready (rs := [2]) (by kernel_rfl) (by simp) ?_
              refine AllReadyIn.cons rfl (fun K hK => ?_) AllReadyIn.nil
              · rw [if_pos (by kernel_rfl)]
                go_simp
                refine hK _ _ ?_
                clear hK K
                refine wpAnyIn_ready (rs := [3]) (by kernel_rfl) (by simp) ?_
                refine AllReadyIn.cons rfl (fun K hK => ?_) AllReadyIn.nil
                · rw [if_pos (by kernel_rfl)]
                  go_simp
                  refine hK _ _ ?_
                  clear hK K
                  refine wpAnyIn_ready (rs := [6]) (by kernel_rfl) (by simp) ?_
                  refine AllReadyIn.cons rfl (fun K hK => ?_) AllReadyIn.nil
                  · rw [if_pos (by kernel_rfl)]
                    go_simp
                    refine ⟨trivial, ?_⟩
                    refine CallsIn.mono (CallsIn.inRound l (callsIn_wide.2 (HCM.out _))) ?_
                    rintro e w1 ⟨rfl, m1, rfl⟩
                    refine hK _ _ ?_
                    clear hK K
                    refine wpAnyIn_ready (rs := [7]) (by kernel_rfl) (by simp) ?_
                    refine AllReadyIn.cons rfl (fun K hK => ?_) AllReadyIn.nil
                    · rw [if_pos (by kernel_rfl)]
                      go_simp
                      refine hK _ _ ?_
                      clear hK K
                      refine wpAnyIn_done (by kernel_rfl) ?_ _
                      exact ⟨rfl, ⟨_, _, _, _, _, _, _, _, _, _, _, _, _, _, _, _, _, _, rfl⟩, _, rfl⟩
          refine AllReadyIn.cons rfl (fun K hK => ?_) AllReadyIn.nil
          · rw [if_pos (by kernel_rfl)]
            go_simp
            refine hK _ _ ?_
            clear hK K
            refine wpAnyIn_ready (rs := [1]) (by kernel_rfl) (by simp) ?_
            refine AllReadyIn.cons rfl (fun K hK => ?_) AllReadyIn.nil
            · rw [if_pos (by kernel_rfl)]
              go_simp
              refine hK _ _ ?_
              clear hK K
              refine wpAnyIn_ready (rs := [2]) (by kernel_rfl) (by simp) ?_
              refine AllReadyIn.cons rfl (fun K hK => ?_) AllReadyIn.nil
              · rw [if_pos (by kernel_rfl)]
                go_simp
                refine hK _ _ ?_
                clear hK K
                refine wpAnyIn_ready (rs := [3]) (by kernel_rfl) (by simp) ?_
                refine AllReadyIn.cons rfl (fun K hK => ?_) AllReadyIn.nil
                · rw [if_pos (by kernel_rfl)]
                  go_simp
                  refine hK _ _ ?_
                  clear hK K
                  refine wpAnyIn_ready (rs := [6]) (by kernel_rfl) (by simp) ?_
                  refine AllReadyIn.cons rfl (fun K hK => ?_) AllReadyIn.nil
                  · rw [if_pos (by kernel_rfl)]
                    go_simp
                    refine ⟨trivial, ?_⟩
                    refine CallsIn.mono (CallsIn.inRound l (callsIn_wide.2 (HCM.out _))) ?_
                    rintro e w1 ⟨rfl, m1, rfl⟩
                    refine hK _ _ ?_
                    clear hK K
                    refine wpAnyIn_ready (rs := [7]) (by kernel_rfl) (by simp) ?_
                    refine AllReadyIn.cons rfl (fun K hK => ?_) AllReadyIn.nil
                    · rw [if_pos (by kernel_rfl)]
                      go_simp
                      refine hK _ _ ?_
                      clear hK K
                      refine wpAnyIn_done (by kernel_rfl) ?_ _
                      exact ⟨rfl, ⟨_, _, _, _, _, _, _, _, _, _, _, _, _, _, _, _, _, _, rfl⟩, _, rfl⟩
        refine AllReadyIn.cons rfl (fun K hK => ?_) AllReadyIn.nil
        · rw [if_pos (by kernel_rfl)]
          go_simp
          refine hK _ _ ?_
          clear hK K
          refine wpAnyIn_ready (rs := [0]) (by kernel_rfl) (by simp) ?_
          refine AllReadyIn.cons rfl (fun K hK => ?_) AllReadyIn.nil
          · rw [if_pos (by kernel_rfl)]
            go_simp
            refine hK _ _ ?_
            clear hK K
            refine wpAnyIn_ready (rs := [1]) (by kernel_rfl) (by simp) ?_
            refine AllReadyIn.cons rfl (fun K hK => ?_) AllReadyIn.nil
            · rw [if_pos (by kernel_rfl)]
              go_simp
              refine hK _ _ ?_
              clear hK K
              refine wpAnyIn_ready (rs := [2]) (by kernel_rfl) (by simp) ?_
              refine AllReadyIn.cons rfl (fun K hK => ?_) AllReadyIn.nil
              · rw [if_pos (by kernel_rfl)]
                go_simp
                refine hK _ _ ?_
                clear hK K
                refine wpAnyIn_ready (rs := [3]) (by kernel_rfl) (by simp) ?_
                refine AllReadyIn.cons rfl (fun K hK => ?_) AllReadyIn.nil
                · rw [if_pos (by kernel_rfl)]
                  go_simp
                  refine hK _ _ ?_
                  clear hK K
                  refine wpAnyIn_ready (rs := [6]) (by kernel_rfl) (by simp) ?_
                  refine AllReadyIn.cons rfl (fun K hK => ?_) AllReadyIn.nil
                  · rw [if_pos (by kernel_rfl)]
                    go_simp
                    refine ⟨trivial, ?_⟩
                    refine CallsIn.mono (CallsIn.inRound l (callsIn_wide.2 (HCM.out _))) ?_
                    rintro e w1 ⟨rfl, m1, rfl⟩
                    refine hK _ _ ?_
                    clear hK K
                    refine wpAnyIn_ready (rs := [7]) (by kernel_rfl) (by simp) ?_
                    refine AllReadyIn.cons rfl (fun K hK => ?_) AllReadyIn.nil
                    · rw [if_pos (by kernel_rfl)]
                      go_simp
                      refine hK _ _ ?_
                      clear hK K
                      refine wpAnyIn_done (by kernel_rfl) ?_ _
                      exact ⟨rfl, ⟨_, _, _, _, _, _, _, _, _, _, _, _, _, _, _, _, _, _, rfl⟩, _, rfl⟩
      refine AllReadyIn.cons rfl (fun K hK => ?_) AllReadyIn.nil
      · rw [if_pos (by kernel_rfl)]
        go_simp
        refine hK _ _ ?_
        clear hK K
        refine wpAnyIn_ready (rs := [0, 4]) (by kernel_rfl) (by simp) ?_
        refine AllReadyIn.cons rfl (fun K hK => ?_) ?_
        · rw [if_pos (by kernel_rfl)]
          go_simp
          refine hK _ _ ?_
          clear hK K
          refine wpAnyIn_ready (rs := [1, 4]) (by kernel_rfl) (by simp) ?_
          refine AllReadyIn.cons rfl (fun K hK => ?_) ?_
          · rw [if_pos (by kernel_rfl)]
            go_simp
            refine hK _ _ ?_
            clear hK K
            refine wpAnyIn_ready (rs := [2, 4]) (by kernel_rfl) (by simp) ?_
            refine AllReadyIn.cons rfl (fun K hK => ?_) ?_
            · rw [if_pos (by kernel_rfl)]
              go_simp
              refine hK _ _ ?_
              clear hK K
              refine wpAnyIn_ready (rs := [3, 4]) (by kernel_rfl) (by simp) ?_
              refine AllReadyIn.cons rfl (fun K hK => ?_) ?_
              · rw [if_pos (by kernel_rfl)]
                go_simp
                refine hK _ _ ?_
                clear hK K
                refine wpAnyIn_ready (rs := [4]) (by kernel_rfl) (by simp) ?_
                refine AllReadyIn.cons rfl (fun K hK => ?_) AllReadyIn.nil
                · rw [if_pos (by kernel_rfl)]
                  go_simp
                  refine hK _ _ ?_
                  clear hK K
                  refine wpAnyIn_ready (rs := [6]) (by kernel_rfl) (by simp) ?_
                  refine AllReadyIn.cons rfl (fun K hK => ?_) AllReadyIn.nil
                  · rw [if_pos (by kernel_rfl)]
                    go_simp
                    refine ⟨trivial, ?_⟩
                    refine CallsIn.mono (CallsIn.inRound l (callsIn_wide.2 (HCM.out _))) ?_
                    rintro e w1 ⟨rfl, m1, rfl⟩
                    refine hK _ _ ?_
                    clear hK K
                    refine wpAnyIn_ready (rs := [7]) (by kernel_rfl) (by simp) ?_
                    refine AllReadyIn.cons rfl (fun K hK => ?_) AllReadyIn.nil
                    · rw [if_pos (by kernel_rfl)]
                      go_simp
                      refine hK _ _ ?_
                      clear hK K
                      refine wpAnyIn_done (by kernel_rfl) ?_ _
                      exact ⟨rfl, ⟨_, _, _, _, _, _, _, _, _, _, _, _, _, _, _, _, _, _, rfl⟩, _, rfl⟩
              refine AllReadyIn.cons rfl (fun K hK => ?_) AllReadyIn.nil
              · rw [if_pos (by kernel_rfl)]
                go_simp
                refine hK _ _ ?_
                clear hK K
                refine wpAnyIn_ready (rs := [3]) (by kernel_rfl) (by simp) ?_
                refine AllReadyIn.cons rfl (fun K hK => ?_) AllReadyIn.nil
                · rw [if_pos (by kernel_rfl)]
                  go_simp
                  refine hK _ _ ?_
                  clear hK K
                  refine wpAnyIn_ready (rs := [6]) (by kernel_rfl) (by simp) ?_
                  refine AllReadyIn.cons rfl (fun K hK => ?_) AllReadyIn.nil
                  · rw [if_pos (by kernel_rfl)]
                    go_simp
                    refine ⟨trivial, ?_⟩
                    refine CallsIn.mono (CallsIn.inRound l (callsIn_wide.2 (HCM.out _))) ?_
                    rintro e w1 ⟨rfl, m1, rfl⟩
                    refine hK _ _ ?_
                    clear hK K
                    refine wpAnyIn_ready (rs := [7]) (by kernel_rfl) (by simp) ?_
                    refine AllReadyIn.cons rfl (fun K hK => ?_) AllReadyIn.nil
                    · rw [if_pos (by kernel_rfl)]
                      go_simp
                      refine hK _ _ ?_
                      clear hK K
                      refine wpAnyIn_done (by kernel_rfl) ?_ _
                      exact ⟨rfl, ⟨_, _, _, _, _, _, _, _, _, _, _, _, _, _, _, _, _, _, rfl⟩, _, rfl⟩
            refine AllReadyIn.cons rfl (fun K hK => ?_) AllReadyIn.nil
            · rw [if_pos (by kernel_rfl)]
              go_simp
              refine hK _ _ ?_
              clear hK K
              refine wpAnyIn_ready (rs := [2]) (by kernel_rfl) (by simp) ?_
              refine AllReadyIn.cons rfl (fun K hK => ?_) AllReadyIn.nil
              · rw [if_pos (by kernel_rfl)]
                go_simp
                refine hK _ _ ?_
                clear hK K
                refine wpAnyIn_ready (rs := [3]) (by kernel_rfl) (by simp) ?_
                refine AllReadyIn.cons rfl (fun K hK => ?_) AllReadyIn.nil
                · rw [if_pos (by kernel_rfl)]
                  go_simp
                  refine hK _ _ ?_
                  clear hK K
                  refine wpAnyIn_ready (rs := [6]) (by kernel_rfl) (by simp) ?_
                  refine AllReadyIn.cons rfl (fun K hK => ?_) AllReadyIn.nil
                  · rw [if_pos (by kernel_rfl)]
                    go_simp
                    refine ⟨trivial, ?_⟩
                    refine CallsIn.mono (CallsIn.inRound l (callsIn_wide.2 (HCM.out _))) ?_
                    rintro e w1 ⟨rfl, m1, rfl⟩
                    refine hK _ _ ?_
                    clear hK K
                    refine wpAnyIn_ready (rs := [7]) (by kernel_rfl) (by simp) ?_
                    refine AllReadyIn.cons rfl (fun K hK => ?_) AllReadyIn.nil
                    · rw [if_pos (by kernel_rfl)]
                      go_simp
                      refine hK _ _ ?_
                      clear hK K
                      refine wpAnyIn_done (by kernel_rfl) ?_ _
                      exact ⟨rfl, ⟨_, _, _, _, _, _, _, _, _, _, _, _, _, _, _, _, _, _, rfl⟩, _, rfl⟩
          refine AllReadyIn.cons rfl (fun K hK => ?_) AllReadyIn.nil
          · rw [if_pos (by kernel_rfl)]
            go_simp
            refine hK _ _ ?_
            clear hK K
            refine wpAnyIn_ready (rs := [1]) (by kernel_rfl) (by simp) ?_
            refine AllReadyIn.cons rfl (fun K hK => ?_) AllReadyIn.nil
            · rw [if_pos (by kernel_rfl)]
              go_simp
              refine hK _ _ ?_
              clear hK K
              refine wpAnyIn_ready (rs := [2]) (by kernel_rfl) (by simp) ?_
              refine AllReadyIn.cons rfl (fun K hK => ?_) AllReadyIn.nil
              · rw [if_pos (by kernel_rfl)]
                go_simp
                refine hK _ _ ?_
                clear hK K
                refine wpAnyIn_ready (rs := [3]) (by kernel_rfl) (by simp) ?_
                refine AllReadyIn.cons rfl (fun K hK => ?_) AllReadyIn.nil
                · rw [if_pos (by kernel_rfl)]
                  go_simp
                  refine hK _ _ ?_
                  clear hK K
                  refine wpAnyIn_ready (rs := [6]) (by kernel_rfl) (by simp) ?_
                  refine AllReadyIn.cons rfl (fun K hK => ?_) AllReadyIn.nil
                  · rw [if_pos (by kernel_rfl)]
                    go_simp
                    refine ⟨trivial, ?_⟩
                    refine CallsIn.mono (CallsIn.inRound l (callsIn_wide.2 (HCM.out _))) ?_
                    rintro e w1 ⟨rfl, m1, rfl⟩
                    refine hK _ _ ?_
                    clear hK K
                    refine wpAnyIn_ready (rs := [7]) (by kernel_rfl) (by simp) ?_
                    refine AllReadyIn.cons rfl (fun K hK => ?_) AllReadyIn.nil
                    · rw [if_pos (by kernel_rfl)]
                      go_simp
                      refine hK _ _ ?_
                      clear hK K
                      refine wpAnyIn_done (by kernel_rfl) ?_ _
                      exact ⟨rfl, ⟨_, _, _, _, _, _, _, _, _, _, _, _, _, _, _, _, _, _, rfl⟩, _, rfl⟩
        refine AllReadyIn.cons rfl (fun K hK => ?_) AllReadyIn.nil
        · rw [if_pos (by kernel_rfl)]
          go_simp
          refine hK _ _ ?_
          clear hK K
          refine wpAnyIn_ready (rs := [0]) (by kernel_rfl) (by simp) ?_
          refine AllReadyIn.cons rfl (fun K hK => ?_) AllReadyIn.nil
          · rw [if_pos (by kernel_rfl)]
            go_simp
            refine hK _ _ ?_
            clear hK K
            refine wpAnyIn_ready (rs := [1]) (by kernel_rfl) (by simp) ?_
            refine AllReadyIn.cons rfl (fun K hK => ?_) AllReadyIn.nil
            · rw [if_pos (by kernel_rfl)]
              go_simp
              refine hK _ _ ?_
              clear hK K
              refine wpAnyIn_ready (rs := [2]) (by kernel_rfl) (by simp) ?_
              refine AllReadyIn.cons rfl (fun K hK => ?_) AllReadyIn.nil
              · rw [if_pos (by kernel_rfl)]
                go_simp
                refine hK _ _ ?_
                clear hK K
                refine wpAnyIn_ready (rs := [3]) (by kernel_rfl) (by simp) ?_
                refine AllReadyIn.cons rfl (fun K hK => ?_) AllReadyIn.nil
                · rw [if_pos (by kernel_rfl)]
                  go_simp
                  refine hK _ _ ?_
                  clear hK K
                  refine wpAnyIn_ready (rs := [6]) (by kernel_rfl) (by simp) ?_
                  refine AllReadyIn.cons rfl (fun K hK => ?_) AllReadyIn.nil
                  · rw [if_pos (by kernel_rfl)]
                    go_simp
                    refine ⟨trivial, ?_⟩
                    refine CallsIn.mono (CallsIn.inRound l (callsIn_wide.2 (HCM.out _))) ?_
                    rintro e w1 ⟨rfl, m1, rfl⟩
                    refine hK _ _ ?_
                    clear hK K
                    refine wpAnyIn_ready (rs := [7]) (by kernel_rfl) (by simp) ?_
                    refine AllReadyIn.cons rfl (fun K hK => ?_) AllReadyIn.nil
                    · rw [if_pos (by kernel_rfl)]
                      go_simp
                      refine hK _ _ ?_
                      clear hK K
                      refine wpAnyIn_done (by kernel_rfl) ?_ _
                      exact ⟨rfl, ⟨_, _, _, _, _, _, _, _, _, _, _, _, _, _, _, _, _, _, rfl⟩, _, rfl⟩
    rintro e a1 w1 ⟨rfl, ⟨v12, v13, v14, v15, v16, v17, v18, v19, v20, v21, v22, v23, v24, v25, v26, v27, v28, v29, rfl⟩, m, rfl⟩
    have k2 : (W.drewN m).cell? ⟨w.heap.size + 1 + 1, 0, none⟩ = some (.int .i64 (p.1 : Nat)) := by go_simp
    by_cases hlt : p.1 < n
    case neg =>
      have HP : Hid (bestF s a (cvals (pre ++ [x])) = p) := Lib.hid (by rw [HVS.out, HSN.out, HST.out, if_neg hlt])
      have d1 : decide (p.1 < n) = false := decide_eq_false hlt
      have d2 : decide ((p.1 : Int) < (n : Int)) = false := decide_eq_false (by omega)
      clear hlt
      gi_wp2
      exact ⟨ko_drewN m (KeepsOthers.refl _), ⟨below_drewN (Below.refl _ _) m, by show World.cell? _ _ = _; go_simp, by show World.cell? _ _ = _; go_simp⟩, by rw [HP.out]; exact ⟨by go_simp, by go_simp, by go_simp, by go_simp, by go_simp, by go_simp⟩, below_drewN HB.out m, by rw [HP.out]; exact HR.out⟩
    have HP : Hid (bestF s a (cvals (pre ++ [x])) = (n, a - q)) := Lib.hid (by rw [HVS.out, HSN.out, HST.out, if_pos hlt])
    have d1 : decide (p.1 < n) = true := decide_eq_true hlt
    have d2 : decide ((p.1 : Int) < (n : Int)) = true := decide_eq_true (by omega)
    clear hlt
    have hwr : IntKind.i64.wrap ((a : Int) - (q : Int)) = ((a - q : Nat) : Int) := by rw [IntKind.wrap_i64]; omega
    gi_wp2
    refine wpIn_mono (Q := fun e a1 w1 => e = .normal ∧ (∃ v12 v13 v14 v15 v16 v17 v18 v19 v20 v21 v22 v23 v24 v25 v26 v27 v28 v29, a1 = ({ tmps := #[.pointer (some ⟨F, 0, none⟩), .int .i64 a, .pointer (some ⟨w.heap.size, 0, none⟩), .pointer (some ⟨w.heap.size + 1, 0, none⟩), .pointer (some ⟨w.heap.size + 1 + 1, 0, none⟩), .pointer (some ⟨w.heap.size + 1 + 1 + 1, 0, none⟩), .int .i64 (q : Nat), .int .i64 (n : Nat), .pointer (some ⟨F, 0, none⟩), .int .i64 a, .func (.func 32) #[] #[.pointer (some ⟨w.heap.size + 1 + 1 + 1 + 1 + 1, 0, none⟩), .pointer (some ⟨w.heap.size + 1 + 1 + 1 + 1, 0, none⟩)], .int .i64 (q : Nat), v12, v13, v14, v15, v16, v17, v18, v19, v20, v21, v22, v23, v24, v25, v26, v27, v28, v29], defers := [] } : Act)) ∧ ∃ m2, w1 = ((W.drewN m2).setCell ⟨w.heap.size + 1 + 1, 0, none⟩ (.int .i64 (n : Nat))).setCell ⟨w.heap.size + 1 + 1 + 1, 0, none⟩ (.int .i64 ((a - q : Nat) : Int))) ?_ ?_
    · refine wpIn_region_any (by kernel_rfl) ?_
      change wpAnyIn _ _ _ _ _ _ 6 _ _ (W.drewN m).drew
      refine wpAnyIn_ready (rs := [0, 1, 2]) (by kernel_rfl) (by simp) ?_
      refine AllReadyIn.cons rfl (fun K hK => ?_) ?_
      · rw [if_pos (by kernel_rfl)]
        go_simp
        refine hK _ _ ?_
        clear hK K
        refine wpAnyIn_ready (rs := [1, 2, 4]) (by kernel_rfl) (by simp) ?_
        refine AllReadyIn.cons rfl (fun K hK => ?_) ?_
        · rw [if_pos (by kernel_rfl)]
          go_simp
          refine hK _ _ ?_
          clear hK K
          refine wpAnyIn_ready (rs := [2, 4]) (by kernel_rfl) (by simp) ?_
          refine AllReadyIn.cons rfl (fun K hK => ?_) ?_
          · rw [if_pos (by kernel_rfl)]
            go_simp
            refine hK _ _ ?_
            clear hK K
            refine wpAnyIn_ready (rs := [3, 4]) (by kernel_rfl) (by simp) ?_
            refine AllReadyIn.cons rfl (fun K hK => ?_) ?_
            · rw [if_pos (by kernel_rfl)]
              go_simp
              refine hK _ _ ?_
              clear hK K
              refine wpAnyIn_ready (rs := [4]) (by kernel_rfl) (by simp) ?_
              refine AllReadyIn.cons rfl (fun K hK => ?_) AllReadyIn.nil
              · rw [if_pos (by kernel_rfl)]
                go_simp
                refine hK _ _ ?_
                clear hK K
                refine wpAnyIn_ready (rs := [5]) (by kernel_rfl) (by simp) ?_
                refine AllReadyIn.cons rfl (fun K hK => ?_) AllReadyIn.nil
                · rw [if_pos (by kernel_rfl)]
                  go_simp
                  refine hK _ _ ?_
                  clear hK K
                  refine wpAnyIn_done (by kernel_rfl) ?_ _
                  exact ⟨rfl, ⟨_, _, _, _, _, _, _, _, _, _, _, _, _, _, _, _, _, _, rfl⟩, _, rfl⟩
            refine AllReadyIn.cons rfl (fun K hK => ?_) AllReadyIn.nil
            · rw [if_pos (by kernel_rfl)]
              go_simp
              refine hK _ _ ?_
              clear hK K
              refine wpAnyIn_ready (rs := [3]) (by kernel_rfl) (by simp) ?_
              refine AllReadyIn.cons rfl (fun K hK => ?_) AllReadyIn.nil
              · rw [if_pos (by kernel_rfl)]
                go_simp
                refine hK _ _ ?_
                clear hK K
                refine wpAnyIn_ready (rs := [5]) (by kernel_rfl) (by simp) ?_
                refine AllReadyIn.cons rfl (fun K hK => ?_) AllReadyIn.nil
                · rw [if_pos (by kernel_rfl)]
                  go_simp
                  refine hK _ _ ?_
                  clear hK K
                  refine wpAnyIn_done (by kernel_rfl) ?_ _
                  exact ⟨rfl, ⟨_, _, _, _, _, _, _, _, _, _, _, _, _, _, _, _, _, _, rfl⟩, _, rfl⟩
          refine AllReadyIn.cons rfl (fun K hK => ?_) AllReadyIn.nil
          · rw [if_pos (by kernel_rfl)]
            go_simp
            refine hK _ _ ?_
            clear hK K
            refine wpAnyIn_ready (rs := [2]) (by kernel_rfl) (by simp) ?_
            refine AllReadyIn.cons rfl (fun K hK => ?_) AllReadyIn.nil
            · rw [if_pos (by kernel_rfl)]
              go_simp
              refine hK _ _ ?_
              clear hK K
              refine wpAnyIn_ready (rs := [3]) (by kernel_rfl) (by simp) ?_
              refine AllReadyIn.cons rfl (fun K hK => ?_) AllReadyIn.nil
              · rw [if_pos (by kernel_rfl)]
                go_simp
                refine hK _ _ ?_
                clear hK K
                refine wpAnyIn_ready (rs := [5]) (by kernel_rfl) (by simp) ?_
                refine AllReadyIn.cons rfl (fun K hK => ?_) AllReadyIn.nil
                · rw [if_pos (by kernel_rfl)]
                  go_simp
                  refine hK _ _ ?_
                  clear hK K
                  refine wpAnyIn_done (by kernel_rfl) ?_ _
                  exact ⟨rfl, ⟨_, _, _, _, _, _, _, _, _, _, _, _, _, _, _, _, _, _, rfl⟩, _, rfl⟩
        refine AllReadyIn.cons rfl (fun K hK => ?_) ?_
        · rw [if_pos (by kernel_rfl)]
          go_simp
          refine hK _ _ ?_
          clear hK K
          refine wpAnyIn_ready (rs := [1, 4]) (by kernel_rfl) (by simp) ?_
          refine AllReadyIn.cons rfl (fun K hK => ?_) ?_
          · rw [if_pos (by kernel_rfl)]
            go_simp
            refine hK _ _ ?_
            clear hK K
            refine wpAnyIn_ready (rs := [3, 4]) (by kernel_rfl) (by simp) ?_
            refine AllReadyIn.cons rfl (fun K hK => ?_) ?_
            · rw [if_pos (by kernel_rfl)]
              go_simp
              refine hK _ _ ?_
              clear hK K
              refine wpAnyIn_ready (rs := [4]) (by kernel_rfl) (by simp) ?_
              refine AllReadyIn.cons rfl (fun K hK => ?_) AllReadyIn.nil
              · rw [if_pos (by kernel_rfl)]
                go_simp
                refine hK _ _ ?_
                clear hK K
                refine wpAnyIn_ready (rs := [5]) (by kernel_rfl) (by simp) ?_
                refine AllReadyIn.cons rfl (fun K hK => ?_) AllReadyIn.nil
                · rw [if_pos (by kernel_rfl)]
                  go_simp
                  refine hK _ _ ?_
                  clear hK K
                  refine wpAnyIn_done (by kernel_rfl) ?_ _
                  exact ⟨rfl, ⟨_, _, _, _, _, _, _, _, _, _, _, _, _, _, _, _, _, _, rfl⟩, _, rfl⟩
            refine AllReadyIn.cons rfl (fun K hK => ?_) AllReadyIn.nil
            · rw [if_pos (by kernel_rfl)]
              go_simp
              refine hK _ _ ?_
              clear hK K
              refine wpAnyIn_ready (rs := [3]) (by kernel_rfl) (by simp) ?_
              refine AllReadyIn.cons rfl (fun K hK => ?_) AllReadyIn.nil
              · rw [if_pos (by kernel_rfl)]
                go_simp
                refine hK _ _ ?_
                clear hK K
                refine wpAnyIn_ready (rs := [5]) (by kernel_rfl) (by simp) ?_
                refine AllReadyIn.cons rfl (fun K hK => ?_) AllReadyIn.nil
                · rw [if_pos (by kernel_rfl)]
                  go_simp
                  refine hK _ _ ?_
                  clear hK K
                  refine wpAnyIn_done (by kernel_rfl) ?_ _
                  exact ⟨rfl, ⟨_, _, _, _, _, _, _, _, _, _, _, _, _, _, _, _, _, _, rfl⟩, _, rfl⟩
          refine AllReadyIn.cons rfl (fun K hK => ?_) AllReadyIn.nil
          · rw [if_pos (by kernel_rfl)]
            go_simp
            refine hK _ _ ?_
            clear hK K
            refine wpAnyIn_ready (rs := [1]) (by kernel_rfl) (by simp) ?_
            refine AllReadyIn.cons rfl (fun K hK => ?_) AllReadyIn.nil
            · rw [if_pos (by kernel_rfl)]
              go_simp
              refine hK _ _ ?_
              clear hK K
              refine wpAnyIn_ready (rs := [3]) (by kernel_rfl) (by simp) ?_
              refine AllReadyIn.cons rfl (fun K hK => ?_) AllReadyIn.nil
              · rw [if_pos (by kernel_rfl)]
                go_simp
                refine hK _ _ ?_
                clear hK K
                refine wpAnyIn_ready (rs := [5]) (by kernel_rfl) (by simp) ?_
                refine AllReadyIn.cons rfl (fun K hK => ?_) AllReadyIn.nil
                · rw [if_pos (by kernel_rfl)]
                  go_simp
                  refine hK _ _ ?_
                  clear hK K
                  refine wpAnyIn_done (by kernel_rfl) ?_ _
                  exact ⟨rfl, ⟨_, _, _, _, _, _, _, _, _, _, _, _, _, _, _, _, _, _, rfl⟩, _, rfl⟩
        refine AllReadyIn.cons rfl (fun K hK => ?_) AllReadyIn.nil
        · rw [if_pos (by kernel_rfl)]
          go_simp
          refine hK _ _ ?_
          clear hK K
          refine wpAnyIn_ready (rs := [1, 2]) (by kernel_rfl) (by simp) ?_
          refine AllReadyIn.cons rfl (fun K hK => ?_) ?_
          · rw [if_pos (by kernel_rfl)]
            go_simp
            refine hK _ _ ?_
            clear hK K
            refine wpAnyIn_ready (rs := [2]) (by kernel_rfl) (by simp) ?_
            refine AllReadyIn.cons rfl (fun K hK => ?_) AllReadyIn.nil
            · rw [if_pos (by kernel_rfl)]
              go_simp
              refine hK _ _ ?_
              clear hK K
              refine wpAnyIn_ready (rs := [3]) (by kernel_rfl) (by simp) ?_
              refine AllReadyIn.cons rfl (fun K hK => ?_) AllReadyIn.nil
              · rw [if_pos (by kernel_rfl)]
                go_simp
                refine hK _ _ ?_
                clear hK K
                refine wpAnyIn_ready (rs := [5]) (by kernel_rfl) (by simp) ?_
                refine AllReadyIn.cons rfl (fun K hK => ?_) AllReadyIn.nil
                · rw [if_pos (by kernel_rfl)]
                  go_simp
                  refine hK _ _ ?_
                  clear hK K
                  refine wpAnyIn_done (by kernel_rfl) ?_ _
                  exact ⟨rfl, ⟨_, _, _, _, _, _, _, _, _, _, _, _, _, _, _, _, _, _, rfl⟩, _, rfl⟩
          refine AllReadyIn.cons rfl (fun K hK => ?_) AllReadyIn.nil
          · rw [if_pos (by kernel_rfl)]
            go_simp
            refine hK _ _ ?_
            clear hK K
            refine wpAnyIn_ready (rs := [1]) (by kernel_rfl) (by simp) ?_
            refine AllReadyIn.cons rfl (fun K hK => ?_) AllReadyIn.nil
            · rw [if_pos (by kernel_rfl)]
              go_simp
              refine hK _ _ ?_
              clear hK K
              refine wpAnyIn_ready (rs := [3]) (by kernel_rfl) (by simp) ?_
              refine AllReadyIn.cons rfl (fun K hK => ?_) AllReadyIn.nil
              · rw [if_pos (by kernel_rfl)]
                go_simp
                refine hK _ _ ?_
                clear hK K
                refine wpAnyIn_ready (rs := [5]) (by kernel_rfl) (by simp) ?_
                refine AllReadyIn.cons rfl (fun K hK => ?_) AllReadyIn.nil
                · rw [if_pos (by kernel_rfl)]
                  go_simp
                  refine hK _ _ ?_
                  clear hK K
                  refine wpAnyIn_done (by kernel_rfl) ?_ _
                  exact ⟨rfl, ⟨_, _, _, _, _, _, _, _, _, _, _, _, _, _, _, _, _, _, rfl⟩, _, rfl⟩
      refine AllReadyIn.cons rfl (fun K hK => ?_) ?_
      · rw [if_pos (by kernel_rfl)]
        go_simp
        refine hK _ _ ?_
        clear hK K
        refine wpAnyIn_ready (rs := [0, 2]) (by kernel_rfl) (by simp) ?_
        refine AllReadyIn.cons rfl (fun K hK => ?_) ?_
        · rw [if_pos (by kernel_rfl)]
          go_simp
          refine hK _ _ ?_
          clear hK K
          refine wpAnyIn_ready (rs := [2, 4]) (by kernel_rfl) (by simp) ?_
          refine AllReadyIn.cons rfl (fun K hK => ?_) ?_
          · rw [if_pos (by kernel_rfl)]
            go_simp
            refine hK _ _ ?_
            clear hK K
            refine wpAnyIn_ready (rs := [3, 4]) (by kernel_rfl) (by simp) ?_
            refine AllReadyIn.cons rfl (fun K hK => ?_) ?_
            · rw [if_pos (by kernel_rfl)]
              go_simp
              refine hK _ _ ?_
              clear hK K
              refine wpAnyIn_ready (rs := [4]) (by kernel_rfl) (by simp) ?_
              refine AllReadyIn.cons rfl (fun K hK => ?_) AllReadyIn.nil
              · rw [if_pos (by kernel_rfl)]
                go_simp
                refine hK _ _ ?_
                clear hK K
                refine wpAnyIn_ready (rs := [5]) (by kernel_rfl) (by simp) ?_
                refine AllReadyIn.cons rfl (fun K hK => ?_) AllReadyIn.nil
                · rw [if_pos (by kernel_rfl)]
                  go_simp
                  refine hK _ _ ?_
                  clear hK K
                  refine wpAnyIn_done (by kernel_rfl) ?_ _
                  exact ⟨rfl, ⟨_, _, _, _, _, _, _, _, _, _, _, _, _, _, _, _, _, _, rfl⟩, _, rfl⟩
            refine AllReadyIn.cons rfl (fun K hK => ?_) AllReadyIn.nil
            · rw [if_pos (by kernel_rfl)]
              go_simp
              refine hK _ _ ?_
              clear hK K
              refine wpAnyIn_ready (rs := [3]) (by kernel_rfl) (by simp) ?_
              refine AllReadyIn.cons rfl (fun K hK => ?_) AllReadyIn.nil
              · rw [if_pos (by kernel_rfl)]
                go_simp
                refine hK _ _ ?_
                clear hK K
                refine wpAnyIn_ready (rs := [5]) (by kernel_rfl) (by simp) ?_
                refine AllReadyIn.cons rfl (fun K hK => ?_) AllReadyIn.nil
                · rw [if_pos (by kernel_rfl)]
                  go_simp
                  refine hK _ _ ?_
                  clear hK K
                  refine wpAnyIn_done (by kernel_rfl) ?_ _
                  exact ⟨rfl, ⟨_, _, _, _, _, _, _, _, _, _, _, _, _, _, _, _, _, _, rfl⟩, _, rfl⟩
          refine AllReadyIn.cons rfl (fun K hK => ?_) AllReadyIn.nil
          · rw [if_pos (by kernel_rfl)]
            go_simp
            refine hK _ _ ?_
            clear hK K
            refine wpAnyIn_ready (rs := [2]) (by kernel_rfl) (by simp) ?_
            refine AllReadyIn.cons rfl (fun K hK => ?_) AllReadyIn.nil
            · rw [if_pos (by kernel_rfl)]
              go_simp
              refine hK _ _ ?_
              clear hK K
              refine wpAnyIn_ready (rs := [3]) (by kernel_rfl) (by simp) ?_
              refine AllReadyIn.cons rfl (fun K hK => ?_) AllReadyIn.nil
              · rw [if_pos (by kernel_rfl)]
                go_simp
                refine hK _ _ ?_
                clear hK K
                refine wpAnyIn_ready (rs := [5]) (by kernel_rfl) (by simp) ?_
                refine AllReadyIn.cons rfl (fun K hK => ?_) AllReadyIn.nil
                · rw [if_pos (by kernel_rfl)]
                  go_simp
                  refine hK _ _ ?_
                  clear hK K
                  refine wpAnyIn_done (by kernel_rfl) ?_ _
                  exact ⟨rfl, ⟨_, _, _, _, _, _, _, _, _, _, _, _, _, _, _, _, _, _, rfl⟩, _, rfl⟩
        refine AllReadyIn.cons rfl (fun K hK => ?_) AllReadyIn.nil
        · rw [if_pos (by kernel_rfl)]
          go_simp
          refine hK _ _ ?_
          clear hK K
          refine wpAnyIn_ready (rs := [0, 3]) (by kernel_rfl) (by simp) ?_
          refine AllReadyIn.cons rfl (fun K hK => ?_) ?_
          · rw [if_pos (by kernel_rfl)]
            go_simp
            refine hK _ _ ?_
            clear hK K
            refine wpAnyIn_ready (rs := [3, 4]) (by kernel_rfl) (by simp) ?_
            refine AllReadyIn.cons rfl (fun K hK => ?_) ?_
            · rw [if_pos (by kernel_rfl)]
              go_simp
              refine hK _ _ ?_
              clear hK K
              refine wpAnyIn_ready (rs := [4]) (by kernel_rfl) (by simp) ?_
              refine AllReadyIn.cons rfl (fun K hK => ?_) AllReadyIn.nil
              · rw [if_pos (by kernel_rfl)]
                go_simp
                refine hK _ _ ?_
                clear hK K
                refine wpAnyIn_ready (rs := [5]) (by kernel_rfl) (by simp) ?_
                refine AllReadyIn.cons rfl (fun K hK => ?_) AllReadyIn.nil
                · rw [if_pos (by kernel_rfl)]
                  go_simp
                  refine hK _ _ ?_
                  clear hK K
                  refine wpAnyIn_done (by kernel_rfl) ?_ _
                  exact ⟨rfl, ⟨_, _, _, _, _, _, _, _, _, _, _, _, _, _, _, _, _, _, rfl⟩, _, rfl⟩
            refine AllReadyIn.cons rfl (fun K hK => ?_) AllReadyIn.nil
            · rw [if_pos (by kernel_rfl)]
              go_simp
              refine hK _ _ ?_
              clear hK K
              refine wpAnyIn_ready (rs := [3]) (by kernel_rfl) (by simp) ?_
              refine AllReadyIn.cons rfl (fun K hK => ?_) AllReadyIn.nil
              · rw [if_pos (by kernel_rfl)]
                go_simp
                refine hK _ _ ?_
                clear hK K
                refine wpAnyIn_ready (rs := [5]) (by kernel_rfl) (by simp) ?_
                refine AllReadyIn.cons rfl (fun K hK => ?_) AllReadyIn.nil
                · rw [if_pos (by kernel_rfl)]
                  go_simp
                  refine hK _ _ ?_
                  clear hK K
                  refine wpAnyIn_done (by kernel_rfl) ?_ _
                  exact ⟨rfl, ⟨_, _, _, _, _, _, _, _, _, _, _, _, _, _, _, _, _, _, rfl⟩, _, rfl⟩
          refine AllReadyIn.cons rfl (fun K hK => ?_) AllReadyIn.nil
          · rw [if_pos (by kernel_rfl)]
            go_simp
            refine hK _ _ ?_
            clear hK K
            refine wpAnyIn_ready (rs := [0]) (by kernel_rfl) (by simp) ?_
            refine AllReadyIn.cons rfl (fun K hK => ?_) AllReadyIn.nil
            · rw [if_pos (by kernel_rfl)]
              go_simp
              refine hK _ _ ?_
              clear hK K
              refine wpAnyIn_ready (rs := [4]) (by kernel_rfl) (by simp) ?_
              refine AllReadyIn.cons rfl (fun K hK => ?_) AllReadyIn.nil
              · rw [if_pos (by kernel_rfl)]
                go_simp
                refine hK _ _ ?_
                clear hK K
                refine wpAnyIn_ready (rs := [5]) (by kernel_rfl) (by simp) ?_
                refine AllReadyIn.cons rfl (fun K hK => ?_) AllReadyIn.nil
                · rw [if_pos (by kernel_rfl)]
                  go_simp
                  refine hK _ _ ?_
                  clear hK K
                  refine wpAnyIn_done (by kernel_rfl) ?_ _
                  exact ⟨rfl, ⟨_, _, _, _, _, _, _, _, _, _, _, _, _, _, _, _, _, _, rfl⟩, _, rfl⟩
      refine AllReadyIn.cons rfl (fun K hK => ?_) AllReadyIn.nil
      · rw [if_pos (by kernel_rfl)]
        go_simp
        refine hK _ _ ?_
        clear hK K
        refine wpAnyIn_ready (rs := [0, 1]) (by kernel_rfl) (by simp) ?_
        refine AllReadyIn.cons rfl (fun K hK => ?_) ?_
        · rw [if_pos (by kernel_rfl)]
          go_simp
          refine hK _ _ ?_
          clear hK K
          refine wpAnyIn_ready (rs := [1, 4]) (by kernel_rfl) (by simp) ?_
          refine AllReadyIn.cons rfl (fun K hK => ?_) ?_
          · rw [if_pos (by kernel_rfl)]
            go_simp
            refine hK _ _ ?_
            clear hK K
            refine wpAnyIn_ready (rs := [3, 4]) (by kernel_rfl) (by simp) ?_
            refine AllReadyIn.cons rfl (fun K hK => ?_) ?_
            · rw [if_pos (by kernel_rfl)]
              go_simp
              refine hK _ _ ?_
              clear hK K
              refine wpAnyIn_ready (rs := [4]) (by kernel_rfl) (by simp) ?_
              refine AllReadyIn.cons rfl (fun K hK => ?_) AllReadyIn.nil
              · rw [if_pos (by kernel_rfl)]
                go_simp
                refine hK _ _ ?_
                clear hK K
                refine wpAnyIn_ready (rs := [5]) (by kernel_rfl) (by simp) ?_
                refine AllReadyIn.cons rfl (fun K hK => ?_) AllReadyIn.nil
                · rw [if_pos (by kernel_rfl)]
                  go_simp
                  refine hK _ _ ?_
                  clear hK K
                  refine wpAnyIn_done (by kernel_rfl) ?_ _
                  exact ⟨rfl, ⟨_, _, _, _, _, _, _, _, _, _, _, _, _, _, _, _, _, _, rfl⟩, _, rfl⟩
            refine AllReadyIn.cons rfl (fun K hK => ?_) AllReadyIn.nil
            · rw [if_pos (by kernel_rfl)]
              go_simp
              refine hK _ _ ?_
              clear hK K
              refine wpAnyIn_ready (rs := [3]) (by kernel_rfl) (by simp) ?_
              refine AllReadyIn.cons rfl (fun K hK => ?_) AllReadyIn.nil
              · rw [if_pos (by kernel_rfl)]
                go_simp
                refine hK _ _ ?_
                clear hK K
                refine wpAnyIn_ready (rs := [5]) (by kernel_rfl) (by simp) ?_
                refine AllReadyIn.cons rfl (fun K hK => ?_) AllReadyIn.nil
                · rw [if_pos (by kernel_rfl)]
                  go_simp
                  refine hK _ _ ?_
                  clear hK K
                  refine wpAnyIn_done (by kernel_rfl) ?_ _
                  exact ⟨rfl, ⟨_, _, _, _, _, _, _, _, _, _, _, _, _, _, _, _, _, _, rfl⟩, _, rfl⟩
          refine AllReadyIn.cons rfl (fun K hK => ?_) AllReadyIn.nil
          · rw [if_pos (by kernel_rfl)]
            go_simp
            refine hK _ _ ?_
            clear hK K
            refine wpAnyIn_ready (rs := [1]) (by kernel_rfl) (by simp) ?_
            refine AllReadyIn.cons rfl (fun K hK => ?_) AllReadyIn.nil
            · rw [if_pos (by kernel_rfl)]
              go_simp
              refine hK _ _ ?_
              clear hK K
              refine wpAnyIn_ready (rs := [3]) (by kernel_rfl) (by simp) ?_
              refine AllReadyIn.cons rfl (fun K hK => ?_) AllReadyIn.nil
              · rw [if_pos (by kernel_rfl)]
                go_simp
                refine hK _ _ ?_
                clear hK K
                refine wpAnyIn_ready (rs := [5]) (by kernel_rfl) (by simp) ?_
                refine AllReadyIn.cons rfl (fun K hK => ?_) AllReadyIn.nil
                · rw [if_pos (by kernel_rfl)]
                  go_simp
                  refine hK _ _ ?_
                  clear hK K
                  refine wpAnyIn_done (by kernel_rfl) ?_ _
                  exact ⟨rfl, ⟨_, _, _, _, _, _, _, _, _, _, _, _, _, _, _, _, _, _, rfl⟩, _, rfl⟩
        refine AllReadyIn.cons rfl (fun K hK => ?_) AllReadyIn.nil
        · rw [if_pos (by kernel_rfl)]
          go_simp
          refine hK _ _ ?_
          clear hK K
          refine wpAnyIn_ready (rs := [0, 3]) (by kernel_rfl) (by simp) ?_
          refine AllReadyIn.cons rfl (fun K hK => ?_) ?_
          · rw [if_pos (by kernel_rfl)]
            go_simp
            refine hK _ _ ?_
            clear hK K
            refine wpAnyIn_ready (rs := [3, 4]) (by kernel_rfl) (by simp) ?_
            refine AllReadyIn.cons rfl (fun K hK => ?_) ?_
            · rw [if_pos (by kernel_rfl)]
              go_simp
              refine hK _ _ ?_
              clear hK K
              refine wpAnyIn_ready (rs := [4]) (by kernel_rfl) (by simp) ?_
              refine AllReadyIn.cons rfl (fun K hK => ?_) AllReadyIn.nil
              · rw [if_pos (by kernel_rfl)]
                go_simp
                refine hK _ _ ?_
                clear hK K
                refine wpAnyIn_ready (rs := [5]) (by kernel_rfl) (by simp) ?_
                refine AllReadyIn.cons rfl (fun K hK => ?_) AllReadyIn.nil
                · rw [if_pos (by kernel_rfl)]
                  go_simp
                  refine hK _ _ ?_
                  clear hK K
                  refine wpAnyIn_done (by kernel_rfl) ?_ _
                  exact ⟨rfl, ⟨_, _, _, _, _, _, _, _, _, _, _, _, _, _, _, _, _, _, rfl⟩, _, rfl⟩
            refine AllReadyIn.cons rfl (fun K hK => ?_) AllReadyIn.nil
            · rw [if_pos (by kernel_rfl)]
              go_simp
              refine hK _ _ ?_
              clear hK K
              refine wpAnyIn_ready (rs := [3]) (by kernel_rfl) (by simp) ?_
              refine AllReadyIn.cons rfl (fun K hK => ?_) AllReadyIn.nil
              · rw [if_pos (by kernel_rfl)]
                go_simp
                refine hK _ _ ?_
                clear hK K
                refine wpAnyIn_ready (rs := [5]) (by kernel_rfl) (by simp) ?_
                refine AllReadyIn.cons rfl (fun K hK => ?_) AllReadyIn.nil
                · rw [if_pos (by kernel_rfl)]
                  go_simp
                  refine hK _ _ ?_
                  clear hK K
                  refine wpAnyIn_done (by kernel_rfl) ?_ _
                  exact ⟨rfl, ⟨_, _, _, _, _, _, _, _, _, _, _, _, _, _, _, _, _, _, rfl⟩, _, rfl⟩
          refine AllReadyIn.cons rfl (fun K hK => ?_) AllReadyIn.nil
          · rw [if_pos (by kernel_rfl)]
            go_simp
            refine hK _ _ ?_
            clear hK K
            refine wpAnyIn_ready (rs := [0]) (by kernel_rfl) (by simp) ?_
            refine AllReadyIn.cons rfl (fun K hK => ?_) AllReadyIn.nil
            · rw [if_pos (by kernel_rfl)]
              go_simp
              refine hK _ _ ?_
              clear hK K
              refine wpAnyIn_ready (rs := [4]) (by kernel_rfl) (by simp) ?_
              refine AllReadyIn.cons rfl (fun K hK => ?_) AllReadyIn.nil
              · rw [if_pos (by kernel_rfl)]
                go_simp
                refine hK _ _ ?_
                clear hK K
                refine wpAnyIn_ready (rs := [5]) (by kernel_rfl) (by simp) ?_
                refine AllReadyIn.cons rfl (fun K hK => ?_) AllReadyIn.nil
                · rw [if_pos (by kernel_rfl)]
                  go_simp
                  refine hK _ _ ?_
                  clear hK K
                  refine wpAnyIn_done (by kernel_rfl) ?_ _
                  exact ⟨rfl, ⟨_, _, _, _, _, _, _, _, _, _, _, _, _, _, _, _, _, _, rfl⟩, _, rfl⟩
    rintro e a1 w1 ⟨rfl, ⟨v12, v13, v14, v15, v16, v17, v18, v19, v20, v21, v22, v23, v24, v25, v26, v27, v28, v29, rfl⟩, m2, rfl⟩
    have BS : Hid (BestS w.heap.size F a (n, a - q) (((W.drewN m2).setCell ⟨w.heap.size + 1 + 1, 0, none⟩ (.int .i64 (n : Nat))).setCell ⟨w.heap.size + 1 + 1 + 1, 0, none⟩ (.int .i64 ((a - q : Nat) : Int)))) := Lib.hid ⟨by go_simp, by go_simp, by go_simp, by go_simp, by go_simp, by go_simp⟩
    have HB9 : Hid (Below w.heap.size w (((W.drewN m2).setCell ⟨w.heap.size + 1 + 1, 0, none⟩ (.int .i64 (n : Nat))).setCell ⟨w.heap.size + 1 + 1 + 1, 0, none⟩ (.int .i64 ((a - q : Nat) : Int)))) := Lib.hid (((below_drewN HB.out m2).setCell (p := ⟨w.heap.size + 1 + 1, 0, none⟩) (by dsimp only; omega) _).setCell (p := ⟨w.heap.size + 1 + 1 + 1, 0, none⟩) (by dsimp only; omega) _)
    have HK9 : Hid (KeepsOthers W (((W.drewN m2).setCell ⟨w.heap.size + 1 + 1, 0, none⟩ (.int .i64 (n : Nat))).setCell ⟨w.heap.size + 1 + 1 + 1, 0, none⟩ (.int .i64 ((a - q : Nat) : Int)))) := Lib.hid (ko_set (ko_set (ko_drewN m2 (KeepsOthers.refl _))))
    have HC9 : Hid (KeepC w.heap.size (w.heap.size + 1 + 1 + 1 + 1 + 1) (w.heap.size + 1 + 1 + 1 + 1) W (((W.drewN m2).setCell ⟨w.heap.size + 1 + 1, 0, none⟩ (.int .i64 (n : Nat))).setCell ⟨w.heap.size + 1 + 1 + 1, 0, none⟩ (.int .i64 ((a - q : Nat) : Int)))) := Lib.hid ⟨((below_drewN (Below.refl _ _) m2).setCell (p := ⟨w.heap.size + 1 + 1, 0, none⟩) (by dsimp only; omega) _).setCell (p := ⟨w.heap.size + 1 + 1 + 1, 0, none⟩) (by dsimp only; omega) _, by show World.cell? _ _ = _; go_simp, by show World.cell? _ _ = _; go_simp⟩
    have z2 := BS.out.c2
    generalize ((W.drewN m2).setCell ⟨w.heap.size + 1 + 1, 0, none⟩ (.int .i64 (n : Nat))).setCell ⟨w.heap.size + 1 + 1 + 1, 0, none⟩ (.int .i64 ((a - q : Nat) : Int)) = WZ at *
    by_cases h131 : n = 131
    · have e1 : ((n : Int) == 131) = true := by rw [beq_iff_eq]; omega
      have H131 := Lib.hid h131
      clear h131
      gi_wp2
      exact ⟨HK9.out, by rw [HP.out]; exact BS.out, HB9.out, by rw [HP.out]; exact H131.out, rfl⟩
    · have e1 : ((n : Int) == 131) = false := by rw [beq_eq_false_iff_ne]; omega
      have H131 := Lib.hid h131
      clear h131
      gi_wp2
      exact ⟨HK9.out, HC9.out, by rw [HP.out]; exact BS.out, HB9.out, by rw [HP.out]; exact H131.out⟩
  case done =>
    rintro D ys W hD rfl ⟨hS, hB, hrun⟩ hK
    rw [cvals_all, best_cand s a ha] at hS
    obtain ⟨p, hp⟩ : ∃ p, p = bestP s a := ⟨_, rfl⟩
    rw [← hp] at hS
    have HPB := Lib.hid hp
    have HB := Lib.hid hB
    have HD := Lib.hid hD
    obtain ⟨c0, c1, c2, c3, f2, f3⟩ := hS
    clear hp hrun hB hD hT0 u4 u5
    gi_wp2
    go_wp2
    go_region
    go_wp2
    have hD' := HD.out
    obtain ⟨w9, hw9⟩ : ∃ w9, ((W.setCell ⟨w.heap.size + 1 + 1, 0, none⟩ (.int .i64 (p.1 : Nat))).setCell ⟨w.heap.size + 1 + 1 + 1, 0, none⟩ (.int .i64 (p.2 : Nat))).drew = w9 := ⟨_, rfl⟩
    have q0 : w9.cell? ⟨w.heap.size + 1 + 1, 0, none⟩ = some (.int .i64 (p.1 : Nat)) := by rw [← hw9]; clear hw9; go_simp
    have q1 : w9.cell? ⟨w.heap.size + 1 + 1 + 1, 0, none⟩ = some (.int .i64 (p.2 : Nat)) := by rw [← hw9]; clear hw9; go_simp
    have hBf : Below w.heap.size w w9 := by
      rw [← hw9]
      exact ((HB.out.setCell (p := ⟨w.heap.size + 1 + 1, 0, none⟩) (by dsimp only; omega) _).setCell (p := ⟨w.heap.size + 1 + 1 + 1, 0, none⟩) (by dsimp only; omega) _).drew
    have hK9 : w9.heap[D]? = some (.deferred (some [])) := by
      rw [← hw9]
      refine (Below.heap_setCell _ _ _ _ ?_).trans ((Below.heap_setCell _ _ _ _ ?_).trans hK) <;> (dsimp only; omega)
    rw [hw9]
    clear hw9 c0 c1 c2 c3 f2 f3
    refine ⟨by simp, .inl ⟨_, _, rfl, run_takeDeferred hK9, bestV p, ?_, by rw [HPB.out], hBf.trans (belowK_b (w := w) (Nat.le_refl _) w9 D _ _ (by omega) hK9 rfl rfl)⟩⟩
    have hb : Below W2.heap.size w9 _ := belowK_b (w := W2) (Nat.le_refl _) w9 D _ (.deferred none) hD' hK9 rfl rfl
    have z0 := (hb.cell (p := ⟨w.heap.size + 1 + 1, 0, none⟩) (by dsimp only; omega)).trans q0
    have z1 := (hb.cell (p := ⟨w.heap.size + 1 + 1 + 1, 0, none⟩) (by dsimp only; omega)).trans q1
    clear q0 q1
    simp only [results, Try.f13, bestV]
    go_simp
  case stop =>
    rintro D c pre W hD hpre ⟨hS, hB, h131, rfl⟩ hK
    have hpre2 : cvals pre <+: candL s a := by
      rw [← cvals_all s a]
      exact List.IsPrefix.map _ hpre
    rw [best_top hpre2 h131 ha] at hS
    obtain ⟨p, hp⟩ : ∃ p, p = bestP s a := ⟨_, rfl⟩
    rw [← hp] at hS
    have HPB := Lib.hid hp
    have HB := Lib.hid hB
    have HD := Lib.hid hD
    obtain ⟨c0, c1, c2, c3, f2, f3⟩ := hS
    clear hp h131 hB hD hpre hpre2 hT0 u4 u5
    gi_wp2
    go_wp2
    go_region
    go_wp2
    have hD' := HD.out
    obtain ⟨w9, hw9⟩ : ∃ w9, ((W.setCell ⟨w.heap.size + 1 + 1, 0, none⟩ (.int .i64 (p.1 : Nat))).setCell ⟨w.heap.size + 1 + 1 + 1, 0, none⟩ (.int .i64 (p.2 : Nat))).drew = w9 := ⟨_, rfl⟩
    have q0 : w9.cell? ⟨w.heap.size + 1 + 1, 0, none⟩ = some (.int .i64 (p.1 : Nat)) := by rw [← hw9]; clear hw9; go_simp
    have q1 : w9.cell? ⟨w.heap.size + 1 + 1 + 1, 0, none⟩ = some (.int .i64 (p.2 : Nat)) := by rw [← hw9]; clear hw9; go_simp
    have hBf : Below w.heap.size w w9 := by
      rw [← hw9]
      exact ((HB.out.setCell (p := ⟨w.heap.size + 1 + 1, 0, none⟩) (by dsimp only; omega) _).setCell (p := ⟨w.heap.size + 1 + 1 + 1, 0, none⟩) (by dsimp only; omega) _).drew
    have hK9 : w9.heap[D]? = some (.deferred (some [])) := by
      rw [← hw9]
      refine (Below.heap_setCell _ _ _ _ ?_).trans ((Below.heap_setCell _ _ _ _ ?_).trans hK) <;> (dsimp only; omega)
    rw [hw9]
    clear hw9 c0 c1 c2 c3 f2 f3
    refine ⟨by simp, .inl ⟨_, _, rfl, run_takeDeferred hK9, bestV p, ?_, by rw [HPB.out], hBf.trans (belowK_b (w := w) (Nat.le_refl _) w9 D _ _ (by omega) hK9 rfl rfl)⟩⟩
    have hb : Below W2.heap.size w9 _ := belowK_b (w := W2) (Nat.le_refl _) w9 D _ (.deferred none) hD' hK9 rfl rfl
    have z0 := (hb.cell (p := ⟨w.heap.size + 1 + 1, 0, none⟩) (by dsimp only; omega)).trans q0
    have z1 := (hb.cell (p := ⟨w.heap.size + 1 + 1 + 1, 0, none⟩) (by dsimp only; omega)).trans q1
    clear q0 q1
    simp only [results, Try.f13, bestV]
    go_simp

theorem best_any (s : ByteArray) (B F M a : Nat) (bv : Value) (w : World) (hs : s.size ≤ 100000) (ha : a ≤ s.size) (hF : Fndr w B F M bv s a) :
    Calls Try.prog 13 #[.pointer (some ⟨F, 0, none⟩), .int .i64 a] w fun e' w' => e' = .returned (bestV (bestP s a)) ∧ Below w.heap.size w w' := callsIn_wide.1 (best_in s B F M a bv w hs ha hF)

end Go.Proofs.Ytjmggbfhccdpkaa
