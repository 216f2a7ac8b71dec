/-
  IN STEP: THE WALK.
-/
import Derived.Test.YtkcailgfggbigaaDoorAhead
namespace Go.Proofs.YtkcailgfggbigaaDoor
open Go.RowKit Go.Shelf Go.Proofs.Gear Go.Proofs.Mem
attribute [local go_sem] Oper.semAt_some
set_option linter.unusedVariables false

theorem box_start {w w1 : World} {mn av mx : Int} (hL : Laid w) (h : Below (w.alloc (.cells #[.int .i64 mn, .int .i64 av, .int .i64 mx] 23)).heap.size (w.alloc (.cells #[.int .i64 mn, .int .i64 av, .int .i64 mx] 23)) w1) :
    w1.cell? ⟨w.heap.size, 0, none⟩ = some (.int .i64 mn) ∧ w1.cell? ⟨w.heap.size, 1, none⟩ = some (.int .i64 av) ∧ w1.cell? ⟨w.heap.size, 2, none⟩ = some (.int .i64 mx) ∧ Hid (Held w w1) := by
  obtain ⟨W0, hW0⟩ : ∃ W0, w.alloc (.cells #[.int .i64 mn, .int .i64 av, .int .i64 mx] 23) = W0 := ⟨_, rfl⟩
  have hx0 : Box W0 w.heap.size mn av mx := by rw [← hW0]; exact Box.new w _ _ _ _
  have hB0 : Below w.heap.size w W0 := by rw [← hW0]; clear hx0 h hW0; go_grown
  have hsz : w.heap.size < W0.heap.size := by rw [← hW0]; simp
  rw [hW0] at h
  clear hW0
  obtain ⟨x1, x2, x3⟩ := hx0.on h hsz
  have hB2 : Below w.heap.size w w1 := bel hB0 h
  exact ⟨x1, x2, x3, Lib.hid ⟨hL.on hB2, hB2, Nat.lt_of_lt_of_le hsz h.size⟩⟩

set_option maxHeartbeats 1000000 in
theorem step_walk (mn av mx : Int) (a c : ByteArray) (w : World) (hL : Laid w) (hm : mn ≤ 9223372036854775807) (ha' : a.size ≤ 9223372036854775807) (hc' : c.size ≤ 9223372036854775807) :
    Calls Tryd.prog 5 #[.agg #[.int .i64 mn, .int .i64 av, .int .i64 mx], .string a, .string c] w fun e w' => e = .returned (.bool true) ∧ Below w.heap.size w w' := by
  have HL := Lib.hid hL
  clear hL
  go_enter Tryd.func5, Tryd.ntmps5
  by_cases ha : 3000 < a.size
  · go_wp2_with (go_at_call 13; refine Calls.mono (awake_any _ (HL.out.on (by go_grown))) ?_; rintro e w1 ⟨rfl, hB1⟩)
    go_ret
    exact ⟨rfl, bel (by go_grown) hB1⟩
  by_cases hc : 3000 < c.size
  · go_wp2_with (go_at_call 13; refine Calls.mono (awake_any _ (HL.out.on (by go_grown))) ?_; rintro e w1 ⟨rfl, hB1⟩)
    go_ret
    exact ⟨rfl, bel (by go_grown) hB1⟩
  have hd1 : decide ((3000 : Int) < (a.size : Int)) = false := decide_eq_false (by omega)
  have hd2 : decide ((3000 : Int) < (c.size : Int)) = false := decide_eq_false (by omega)
  rcases fitB_cases mn av mx hm with hf | ⟨hf, mn, av, mx, b, rfl, rfl, rfl, hfit⟩
  · have HF := Lib.hid hf
    clear hf
    go_wp2_with (first | (go_at_call 12; refine Calls.mono (rfit_any _ _ _ _) ?_; rintro e w1 ⟨rfl, hB1⟩; rw [HF.out]; have HB1 : Hid (Below w.heap.size w w1) := Lib.hid (bel (by go_grown) hB1); clear hB1) | (go_at_call 13; refine Calls.mono (awake_any _ (HL.out.on HB1.out)) ?_; rintro e w2 ⟨rfl, hB2⟩))
    go_ret
    exact ⟨rfl, bel HB1.out hB2⟩
  have HF := Lib.hid hf
  clear hf
  have HFit := Lib.hid hfit
  clear hfit
  have hac : ¬9223372036854775807 < a.size + c.size := by omega
  obtain ⟨n, hn⟩ : ∃ n, n = cutN mn av mx b a := ⟨_, rfl⟩
  have hmm : mn ≤ mx := Nat.le_trans HFit.out.min HFit.out.max
  have hm1 := HFit.out.one
  have hn2 : n ≤ a.size := by rw [hn]; have := cutN_le mn av mx b a; omega
  have hi1 : (0 : Int) ≤ (n : Int) := Int.natCast_nonneg _
  have hi2 : (n : Int) ≤ (a.size : Int) := by omega
  have hd3 : decide ((n : Int) < 0) = false := decide_eq_false (by omega)
  have hd4 : decide ((a.size : Int) < (n : Int)) = false := decide_eq_false (by omega)
  have hd4' : decide (a.size < n) = false := decide_eq_false (by omega)

  by_cases h0 : a.size = 0

  ·
    have h0n : n = 0 := by omega
    have hem : a.toList.isEmpty = true := by rw [Lib.toList_data, size_zero h0]; rfl
    have hz : ((n : Int) == 0) = true := by rw [h0n]; rfl
    have HN := Lib.hid hn
    clear hn
    have H0 := Lib.hid h0
    clear h0
    clear h0n
    go_wp2_with (first
      | (go_at_call 12; refine Calls.mono (rfit_any _ _ _ _) ?_; rintro e w1 ⟨rfl, hB1⟩; rw [HF.out]; obtain ⟨x1, x2, x3, hHd⟩ := box_start HL.out hB1; clear hB1)
      | (go_at_call 16; refine Calls.mono (cut_fit HFit.out a (by omega) _ hHd.out.1) ?_; rintro e w2 ⟨rfl, hB2⟩; obtain ⟨y1, y2, y3, hHd2⟩ := held_keep hB2 x1 x2 x3 hHd; clear hB2; rw [← HN.out])
      | (go_at_call 14; refine Calls.mono (pieces_any HFit.out a (by omega) _ hHd2.out.1) ?_; rintro e w3 ⟨v, rfl, hS, -, hB3⟩; obtain ⟨z1, z2, z3, hHd3⟩ := held_keep hB3 y1 y2 y3 hHd2; clear hB3; have HSa := Lib.hid hS; clear hS))
    clear x1 x2 x3 hHd y1 y2 y3 hHd2
    have hHd4 : Hid (Held w w3.drew) := Lib.hid (Held.on (w' := w3) hHd3.out (Below.refl _ _).drew)
    go_region_held3 (fun w' => w'.cell? ⟨w.heap.size, 0, none⟩ = some (.int .i64 mn) ∧ w'.cell? ⟨w.heap.size, 1, none⟩ = some (.int .i64 av) ∧ w'.cell? ⟨w.heap.size, 2, none⟩ = some (.int .i64 mx) ∧ Hid (Held w w'))
      (first
        | go_keep
        | (go_split_ands; exact held_keep ‹_› ‹_› ‹_› ‹_› ‹_›))
      ((go_at_call 14; refine Calls.mono (pieces_any HFit.out (a.extract n a.size) (by rw [ByteArray.size_extract]; omega) _ (by first | exact (Hid.out ‹Hid (Held w _)›).1 | (go_split_ands; exact (Hid.out ‹Hid (Held w _)›).1))) ?_; rintro e wP ⟨v2, rfl, hS, -, hBP⟩; have HSm := Lib.hid hS; clear hS))
    go_split_ands
    have hHP : Hid (Held w wP) := by assumption
    have z1' : wP.cell? ⟨w.heap.size, 0, none⟩ = some (.int .i64 mn) := by assumption
    have z2' : wP.cell? ⟨w.heap.size, 1, none⟩ = some (.int .i64 av) := by assumption
    have z3' : wP.cell? ⟨w.heap.size, 2, none⟩ = some (.int .i64 mx) := by assumption
    have hSa := HSa.out.drew.on hBP
    have hSm := HSm.out
    clear HSa HSm hBP hHd3 hHd4
    have hp : pcs mn av mx b a = [] ∧ pcs mn av mx b (a.extract n a.size) = [] := ⟨pcs_nil _ _ _ _ _ H0.out, pcs_nil _ _ _ _ _ (by rw [ByteArray.size_extract]; have := H0.out; omega)⟩
    have hlen : (pcs mn av mx b a).length = 0 := by rw [hp.1]; rfl
    have hlm0 : (pcs mn av mx b (a.extract n a.size)).length = 0 := by rw [hp.2]; rfl
    have hel : ∀ k, k < (pcs mn av mx b (a.extract n a.size)).length → (pcs mn av mx b a)[k + 1]? = (pcs mn av mx b (a.extract n a.size))[k]? := fun k hk => by omega
    clear hp
    generalize pcs mn av mx b a = la at *
    generalize pcs mn av mx b (a.extract n a.size) = lm at *
    obtain ⟨A1, c1, e1, hm1', hm2', hr1⟩ := hSa
    obtain ⟨A2, c2, e2, hm3', hm4', hr2⟩ := hSm
    have hla : la.length ≤ 9223372036854775807 := Nat.le_trans hm1' (Nat.le_trans hm2' (by unfold maxLen; omega))
    have hlm : lm.length ≤ 9223372036854775807 := Nat.le_trans hm3' (Nat.le_trans hm4' (by unfold maxLen; omega))
    rw [hlen] at e1 hla
    subst e1
    subst e2
    have hlm' : (lm.length : Int) + 1 ≤ 9223372036854775807 := by rw [hlm0]; decide
    have HLen := Lib.hid hlen
    have HEl := Lib.hid hel
    clear hlen hel
    have Hlm0 := Lib.hid hlm0
    clear hlm0
    go_wp2_with fail
    have HR1 := Lib.hid hr1
    have HR2 := Lib.hid hr2
    clear hr1 hr2
    go_loopw [73] (fun i wr => ∃ k : Nat, i = .int .i64 k ∧ k ≤ lm.length ∧ Hid (Below wP.heap.size wP wr)) (fun i _ => lm.length + 1 - (intOf i).toNat)
    case atStart => exact ⟨0, rfl, Nat.zero_le _, Lib.hid (Below.refl _ _)⟩
    case round =>
      obtain ⟨k, rfl, hk, hBr⟩ := hrel
      by_cases hlt : k < lm.length
      · exact absurd hlt (by have := Hlm0.out; omega)
      · have hHr : Hid (Held w wr) := Lib.hid (hHP.out.on hBr.out)
        obtain ⟨y1, y2, y3, hHr⟩ := held_keep hBr.out z1' z2' z3' hHP
        clear z1' z2' z3' HR1 HR2 HEl HLen
        have hHr' : Hid (Held w wr.drew) := Lib.hid (Held.on (w' := wr) hHr.out (Below.refl _ _).drew)
        clear hBr hHP
        by_cases hmx : a.size < mx
        · have hd5 : decide (a.size < mx) = true := decide_eq_true hmx
          have hd5i : decide ((a.size : Int) < (mx : Int)) = true := decide_eq_true (by omega)
          go_wp2_with fail
          refine wp_region_held_drew (S := (fun w' => w'.cell? ⟨w.heap.size, 0, none⟩ = some (.int .i64 mn) ∧ w'.cell? ⟨w.heap.size, 1, none⟩ = some (.int .i64 av) ∧ w'.cell? ⟨w.heap.size, 2, none⟩ = some (.int .i64 mx) ∧ Hid (Held w w'))) (by kernel_rfl) ⟨y1, y2, y3, hHr'⟩ (fun hHeld => ?_)
          refine wpAnyH_take (i := 0) (v := ?_) rfl (by kernel_rfl) (by kernel_rfl) (by kernel_rfl) (fun _ _ _ h => h) (Or.inl ⟨by kernel_rfl, ?_⟩) (by assumption) ?_
          rotate_left
          · (intro w hSw; (try dsimp only at hSw); go_simp; first | done | with_reducible rfl)
          change wpAnyH _ _ _ _ _ _ _ (Act.put _ (some 87) _) _
          simp only [Act.put, List.setIfInBounds_toArray, List.set_cons_zero, List.set_cons_succ]
          refine wpAnyH_take (i := 1) (v := ?_) rfl (by kernel_rfl) (by kernel_rfl) (by kernel_rfl) (fun _ _ _ h => h) (Or.inl ⟨by kernel_rfl, ?_⟩) (by assumption) ?_
          rotate_left
          · (intro w hSw; (try dsimp only at hSw); go_simp; first | done | with_reducible rfl)
          change wpAnyH _ _ _ _ _ _ _ (Act.put _ (some 88) _) _
          simp only [Act.put, List.setIfInBounds_toArray, List.set_cons_zero, List.set_cons_succ]
          refine wpAnyH_take (i := 2) (v := ?_) rfl (by kernel_rfl) (by kernel_rfl) (by kernel_rfl) (fun _ _ _ h => h) (Or.inl ⟨by kernel_rfl, ?_⟩) (by assumption) ?_
          rotate_left
          · (intro w hSw; (try dsimp only at hSw); go_simp; first | done | with_reducible rfl)
          change wpAnyH _ _ _ _ _ _ _ (Act.put _ (some 89) _) _
          simp only [Act.put, List.setIfInBounds_toArray, List.set_cons_zero, List.set_cons_succ]
          refine wpAnyH_take (i := 3) (v := ?_) rfl (by kernel_rfl) (by kernel_rfl) (by kernel_rfl) (fun _ _ _ h => h) (Or.inl ⟨by kernel_rfl, ?_⟩) (by assumption) ?_
          rotate_left
          · (intro w hSw; (try dsimp only at hSw); go_simp; first | done | with_reducible rfl)
          change wpAnyH _ _ _ _ _ _ _ (Act.put _ (some 90) _) _
          simp only [Act.put, List.setIfInBounds_toArray, List.set_cons_zero, List.set_cons_succ]
          refine wpAnyH_take (i := 4) (v := ?_) rfl (by kernel_rfl) (by kernel_rfl) (by kernel_rfl) (fun _ _ _ h => h) (Or.inl ⟨by kernel_rfl, ?_⟩) (by assumption) ?_
          rotate_left
          · (intro w hSw; (try dsimp only at hSw); go_simp; first | done | with_reducible rfl)
          change wpAnyH _ _ _ _ _ _ _ (Act.put _ (some 91) _) _
          simp only [Act.put, List.setIfInBounds_toArray, List.set_cons_zero, List.set_cons_succ]
          refine wpAnyH_take (i := 5) (v := ?_) rfl (by kernel_rfl) (by kernel_rfl) (by kernel_rfl) (fun _ _ _ h => h) (Or.inl ⟨by kernel_rfl, ?_⟩) (by assumption) ?_
          rotate_left
          · (intro w hSw; (try dsimp only at hSw); go_simp; first | done | with_reducible rfl)
          change wpAnyH _ _ _ _ _ _ _ (Act.put _ (some 92) _) _
          simp only [Act.put, List.setIfInBounds_toArray, List.set_cons_zero, List.set_cons_succ]
          refine wpAnyH_take (i := 6) (v := undef) rfl (by kernel_rfl) (by kernel_rfl) (by kernel_rfl) (fun _ _ _ h => h) (Or.inr ⟨by kernel_rfl, rfl⟩) (by assumption) ?_
          change wpAnyH _ _ _ _ _ _ _ (Act.put _ (some 93) _) _
          simp only [Act.put, List.setIfInBounds_toArray, List.set_cons_zero, List.set_cons_succ]
          refine wpAnyH_take (i := 7) (v := undef) rfl (by kernel_rfl) (by kernel_rfl) (by kernel_rfl) (fun _ _ _ h => h) (Or.inr ⟨by kernel_rfl, rfl⟩) (by assumption) ?_
          change wpAnyH _ _ _ _ _ _ _ (Act.put _ (some 94) _) _
          simp only [Act.put, List.setIfInBounds_toArray, List.set_cons_zero, List.set_cons_succ]
          refine wpAnyH_take (i := 8) (v := undef) rfl (by kernel_rfl) (by kernel_rfl) (by kernel_rfl) (fun _ _ _ h => h) (Or.inr ⟨by kernel_rfl, rfl⟩) (by assumption) ?_
          change wpAnyH _ _ _ _ _ _ _ (Act.put _ (some 95) _) _
          simp only [Act.put, List.setIfInBounds_toArray, List.set_cons_zero, List.set_cons_succ]
          refine wpAnyH_take (i := 9) (v := undef) rfl (by kernel_rfl) (by kernel_rfl) (by kernel_rfl) (fun _ _ _ h => h) (Or.inr ⟨by kernel_rfl, rfl⟩) (by assumption) ?_
          change wpAnyH _ _ _ _ _ _ _ (Act.put _ (some 96) _) _
          simp only [Act.put, List.setIfInBounds_toArray, List.set_cons_zero, List.set_cons_succ]
          refine wpAnyH_take (i := 10) (v := undef) rfl (by kernel_rfl) (by kernel_rfl) (by kernel_rfl) (fun _ _ _ h => h) (Or.inr ⟨by kernel_rfl, rfl⟩) (by assumption) ?_
          change wpAnyH _ _ _ _ _ _ _ (Act.put _ (some 97) _) _
          simp only [Act.put, List.setIfInBounds_toArray, List.set_cons_zero, List.set_cons_succ]
          refine wpAnyH_take (i := 11) (v := undef) rfl (by kernel_rfl) (by kernel_rfl) (by kernel_rfl) (fun _ _ _ h => h) (Or.inr ⟨by kernel_rfl, rfl⟩) (by assumption) ?_
          change wpAnyH _ _ _ _ _ _ _ (Act.put _ (some 98) _) _
          simp only [Act.put, List.setIfInBounds_toArray, List.set_cons_zero, List.set_cons_succ]
          refine wpAnyH_take (i := 12) (v := undef) rfl (by kernel_rfl) (by kernel_rfl) (by kernel_rfl) (fun _ _ _ h => h) (Or.inr ⟨by kernel_rfl, rfl⟩) (by assumption) ?_
          change wpAnyH _ _ _ _ _ _ _ (Act.put _ (some 99) _) _
          simp only [Act.put, List.setIfInBounds_toArray, List.set_cons_zero, List.set_cons_succ]
          refine wpAnyH_take (i := 13) (v := undef) rfl (by kernel_rfl) (by kernel_rfl) (by kernel_rfl) (fun _ _ _ h => h) (Or.inr ⟨by kernel_rfl, rfl⟩) (by assumption) ?_
          change wpAnyH _ _ _ _ _ _ _ (Act.put _ (some 100) _) _
          simp only [Act.put, List.setIfInBounds_toArray, List.set_cons_zero, List.set_cons_succ]
          refine wpAnyH_take (i := 14) (v := undef) rfl (by kernel_rfl) (by kernel_rfl) (by kernel_rfl) (fun _ _ _ h => h) (Or.inr ⟨by kernel_rfl, rfl⟩) (by assumption) ?_
          change wpAnyH _ _ _ _ _ _ _ (Act.put _ (some 101) _) _
          simp only [Act.put, List.setIfInBounds_toArray, List.set_cons_zero, List.set_cons_succ]
          refine wpAnyH_take (i := 15) (v := undef) rfl (by kernel_rfl) (by kernel_rfl) (by kernel_rfl) (fun _ _ _ h => h) (Or.inr ⟨by kernel_rfl, rfl⟩) (by assumption) ?_
          change wpAnyH _ _ _ _ _ _ _ (Act.put _ (some 102) _) _
          simp only [Act.put, List.setIfInBounds_toArray, List.set_cons_zero, List.set_cons_succ]
          refine wpAnyH_take (i := 16) (v := undef) rfl (by kernel_rfl) (by kernel_rfl) (by kernel_rfl) (fun _ _ _ h => h) (Or.inr ⟨by kernel_rfl, rfl⟩) (by assumption) ?_
          change wpAnyH _ _ _ _ _ _ _ (Act.put _ (some 103) _) _
          simp only [Act.put, List.setIfInBounds_toArray, List.set_cons_zero, List.set_cons_succ]
          refine wpAnyH_take (i := 17) (v := undef) rfl (by kernel_rfl) (by kernel_rfl) (by kernel_rfl) (fun _ _ _ h => h) (Or.inr ⟨by kernel_rfl, rfl⟩) (by assumption) ?_
          change wpAnyH _ _ _ _ _ _ _ (Act.put _ (some 104) _) _
          simp only [Act.put, List.setIfInBounds_toArray, List.set_cons_zero, List.set_cons_succ]
          refine wpAnyH_take (i := 18) (v := undef) rfl (by kernel_rfl) (by kernel_rfl) (by kernel_rfl) (fun _ _ _ h => h) (Or.inr ⟨by kernel_rfl, rfl⟩) (by assumption) ?_
          change wpAnyH _ _ _ _ _ _ _ (Act.put _ (some 105) _) _
          simp only [Act.put, List.setIfInBounds_toArray, List.set_cons_zero, List.set_cons_succ]
          refine wpAnyH_take (i := 19) (v := undef) rfl (by kernel_rfl) (by kernel_rfl) (by kernel_rfl) (fun _ _ _ h => h) (Or.inr ⟨by kernel_rfl, rfl⟩) (by assumption) ?_
          change wpAnyH _ _ _ _ _ _ _ (Act.put _ (some 106) _) _
          simp only [Act.put, List.setIfInBounds_toArray, List.set_cons_zero, List.set_cons_succ]
          refine wpAnyH_take (i := 20) (v := undef) rfl (by kernel_rfl) (by kernel_rfl) (by kernel_rfl) (fun _ _ _ h => h) (Or.inr ⟨by kernel_rfl, rfl⟩) (by assumption) ?_
          change wpAnyH _ _ _ _ _ _ _ (Act.put _ (some 107) _) _
          simp only [Act.put, List.setIfInBounds_toArray, List.set_cons_zero, List.set_cons_succ]
          refine wpAnyH_take (i := 21) (v := undef) rfl (by kernel_rfl) (by kernel_rfl) (by kernel_rfl) (fun _ _ _ h => h) (Or.inr ⟨by kernel_rfl, rfl⟩) (by assumption) ?_
          change wpAnyH _ _ _ _ _ _ _ (Act.put _ (some 108) _) _
          simp only [Act.put, List.setIfInBounds_toArray, List.set_cons_zero, List.set_cons_succ]
          refine wpAnyH_take (i := 22) (v := undef) rfl (by kernel_rfl) (by kernel_rfl) (by kernel_rfl) (fun _ _ _ h => h) (Or.inr ⟨by kernel_rfl, rfl⟩) (by assumption) ?_
          change wpAnyH _ _ _ _ _ _ _ (Act.put _ (some 109) _) _
          simp only [Act.put, List.setIfInBounds_toArray, List.set_cons_zero, List.set_cons_succ]
          refine wpAnyH_take (i := 23) (v := ?_) rfl (by kernel_rfl) (by kernel_rfl) (by kernel_rfl) (fun _ _ _ h => h) (Or.inl ⟨by kernel_rfl, ?_⟩) (by assumption) ?_
          rotate_left
          · (intro w hSw; (try dsimp only at hSw); go_simp; first | done | with_reducible rfl)
          change wpAnyH _ _ _ _ _ _ _ (Act.put _ (some 110) _) _
          simp only [Act.put, List.setIfInBounds_toArray, List.set_cons_zero, List.set_cons_succ]
          refine wpAnyH_take (i := 24) (v := ?_) rfl (by kernel_rfl) (by kernel_rfl) (by kernel_rfl) (fun _ _ _ h => h) (Or.inl ⟨by kernel_rfl, ?_⟩) (by assumption) ?_
          rotate_left
          · (intro w hSw; (try dsimp only at hSw); go_simp; first | done | with_reducible rfl)
          change wpAnyH _ _ _ _ _ _ _ (Act.put _ (some 111) _) _
          simp only [Act.put, List.setIfInBounds_toArray, List.set_cons_zero, List.set_cons_succ]
          refine wpAnyH_ready (rs := [25]) (by kernel_rfl) (by simp) ?_
          refine AllReadyH.cons (o := { dst := some 112, op := Op.call { callee := Callee.value (Operand.func 13), args := #[], argTypes := #[] }, type := 4, pos := "law.go:65", after := #[{ on := 24, ground := Ground.chain }, { on := 24, ground := Ground.guard }], guard := some (24, true) }) rfl (fun K hK => ?_) AllReadyH.nil
          go_simp
          (go_at_call 13; refine Calls.mono (awake_any _ hHr'.out.1) ?_; rintro e w6 ⟨rfl, hB6⟩)
          refine hK.out _ _ (by exact held_keep hB6 (hHeld.1) hHeld.2.1 hHeld.2.2.1 hHeld.2.2.2) (fun hHeld => ?_)
          clear hK K
          try simp only [Act.put, List.setIfInBounds_toArray, List.set_cons_zero, List.set_cons_succ]
          refine wpAnyH_take (i := 26) (v := ?_) rfl (by kernel_rfl) (by kernel_rfl) (by kernel_rfl) (fun _ _ _ h => h) (Or.inl ⟨by kernel_rfl, ?_⟩) (by assumption) ?_
          rotate_left
          · (intro w hSw; (try dsimp only at hSw); go_simp; first | done | with_reducible rfl)
          change wpAnyH _ _ _ _ _ _ _ (Act.put _ (some 113) _) _
          simp only [Act.put, List.setIfInBounds_toArray, List.set_cons_zero, List.set_cons_succ]
          refine wpAnyH_take (i := 27) (v := ?_) rfl (by kernel_rfl) (by kernel_rfl) (by kernel_rfl) (fun _ _ _ h => h) (Or.inl ⟨by kernel_rfl, ?_⟩) (by assumption) ?_
          rotate_left
          · (intro w hSw; (try dsimp only at hSw); go_simp; first | done | with_reducible rfl)
          change wpAnyH _ _ _ _ _ _ _ (Act.put _ (some 6) _) _
          simp only [Act.put, List.setIfInBounds_toArray, List.set_cons_zero, List.set_cons_succ]
          refine wpAnyH_done (by kernel_rfl) ?_ _
          go_wp2_with fail
          go_ret
          exact ⟨rfl, hHeld.2.2.2.out.2.1⟩
        · have hd5 : decide (a.size < mx) = false := decide_eq_false hmx
          have hd5i : decide ((a.size : Int) < (mx : Int)) = false := decide_eq_false (by omega)
          have hi5 : (0 : Int) ≤ (mx : Int) := Int.natCast_nonneg _
          have hi6 : (mx : Int) ≤ (a.size : Int) := by omega
          have HcA : Hid (cutN mn av mx b (a ++ c) = n) := Lib.hid (by rw [HN.out]; exact cutN_append mn av mx b a c hmm (.inr (by omega)))
          have HcB : Hid (cutN mn av mx b (a.extract 0 mx) = n) := Lib.hid (by rw [HN.out]; exact cutN_take mn av mx b a hmm (by omega))
          go_wp2_with fail
          go_region_held3 (fun w' => w'.cell? ⟨w.heap.size, 0, none⟩ = some (.int .i64 mn) ∧ w'.cell? ⟨w.heap.size, 1, none⟩ = some (.int .i64 av) ∧ w'.cell? ⟨w.heap.size, 2, none⟩ = some (.int .i64 mx) ∧ Hid (Held w w'))
            (first
              | go_keep
              | (go_split_ands; exact held_keep ‹_› ‹_› ‹_› ‹_› ‹_›))
            (first
              | (go_at_call 16; refine Calls.mono (cut_fit HFit.out _ (by first | (rw [ByteArray.size_append]; omega) | (rw [ByteArray.size_extract]; omega)) _ (by first | exact (Hid.out ‹Hid (Held w _)›).1 | (go_split_ands; exact (Hid.out ‹Hid (Held w _)›).1))) ?_; rintro e w5 ⟨rfl, hB5⟩; first | rw [HcA.out] | rw [HcB.out])
              | (go_at_call 13; refine Calls.mono (awake_any _ (by first | exact (Hid.out ‹Hid (Held w _)›).1 | (go_split_ands; exact (Hid.out ‹Hid (Held w _)›).1))) ?_; rintro e w6 ⟨rfl, hB6⟩))
          go_split_ands
          go_wp2_with fail
          go_ret
          exact ⟨rfl, (Hid.out ‹Hid (Held w _)›).2.1⟩


  ·
    have h0n : 0 < n := by rw [hn]; exact cutN_pos _ _ _ _ _ hmm hm1 (by omega)
    have hem : a.toList.isEmpty = false := toList_pos a (by omega)
    have hz : ((n : Int) == 0) = false := by go_num
    have HN := Lib.hid hn
    clear hn
    have H0 := Lib.hid h0
    clear h0
    go_wp2_with (first
      | (go_at_call 12; refine Calls.mono (rfit_any _ _ _ _) ?_; rintro e w1 ⟨rfl, hB1⟩; rw [HF.out]; obtain ⟨x1, x2, x3, hHd⟩ := box_start HL.out hB1; clear hB1)
      | (go_at_call 16; refine Calls.mono (cut_fit HFit.out a (by omega) _ hHd.out.1) ?_; rintro e w2 ⟨rfl, hB2⟩; obtain ⟨y1, y2, y3, hHd2⟩ := held_keep hB2 x1 x2 x3 hHd; clear hB2; rw [← HN.out])
      | (go_at_call 14; refine Calls.mono (pieces_any HFit.out a (by omega) _ hHd2.out.1) ?_; rintro e w3 ⟨v, rfl, hS, -, hB3⟩; obtain ⟨z1, z2, z3, hHd3⟩ := held_keep hB3 y1 y2 y3 hHd2; clear hB3; have HSa := Lib.hid hS; clear hS))
    clear x1 x2 x3 hHd y1 y2 y3 hHd2
    have hHd4 : Hid (Held w w3.drew) := Lib.hid (Held.on (w' := w3) hHd3.out (Below.refl _ _).drew)
    go_region_held3 (fun w' => w'.cell? ⟨w.heap.size, 0, none⟩ = some (.int .i64 mn) ∧ w'.cell? ⟨w.heap.size, 1, none⟩ = some (.int .i64 av) ∧ w'.cell? ⟨w.heap.size, 2, none⟩ = some (.int .i64 mx) ∧ Hid (Held w w'))
      (first
        | go_keep
        | (go_split_ands; exact held_keep ‹_› ‹_› ‹_› ‹_› ‹_›))
      ((go_at_call 14; refine Calls.mono (pieces_any HFit.out (a.extract n a.size) (by rw [ByteArray.size_extract]; omega) _ (by first | exact (Hid.out ‹Hid (Held w _)›).1 | (go_split_ands; exact (Hid.out ‹Hid (Held w _)›).1))) ?_; rintro e wP ⟨v2, rfl, hS, -, hBP⟩; have HSm := Lib.hid hS; clear hS))
    go_split_ands
    have hHP : Hid (Held w wP) := by assumption
    have z1' : wP.cell? ⟨w.heap.size, 0, none⟩ = some (.int .i64 mn) := by assumption
    have z2' : wP.cell? ⟨w.heap.size, 1, none⟩ = some (.int .i64 av) := by assumption
    have z3' : wP.cell? ⟨w.heap.size, 2, none⟩ = some (.int .i64 mx) := by assumption
    have hSa := HSa.out.drew.on hBP
    have hSm := HSm.out
    clear HSa HSm hBP hHd3 hHd4
    have hp : pcs mn av mx b a = a.extract 0 n :: pcs mn av mx b (a.extract n a.size) := by rw [HN.out]; exact pcs_cons _ _ _ _ hmm hm1 a (by have := H0.out; omega)
    have hlen : (pcs mn av mx b a).length = (pcs mn av mx b (a.extract n a.size)).length + 1 := by rw [hp]; rfl
    have hel : ∀ k, k < (pcs mn av mx b (a.extract n a.size)).length → (pcs mn av mx b a)[k + 1]? = (pcs mn av mx b (a.extract n a.size))[k]? := fun k hk => by rw [hp]; rfl
    clear hp
    generalize pcs mn av mx b a = la at *
    generalize pcs mn av mx b (a.extract n a.size) = lm at *
    obtain ⟨A1, c1, e1, hm1', hm2', hr1⟩ := hSa
    obtain ⟨A2, c2, e2, hm3', hm4', hr2⟩ := hSm
    have hla : la.length ≤ 9223372036854775807 := Nat.le_trans hm1' (Nat.le_trans hm2' (by unfold maxLen; omega))
    have hlm : lm.length ≤ 9223372036854775807 := Nat.le_trans hm3' (Nat.le_trans hm4' (by unfold maxLen; omega))
    rw [hlen] at e1 hla
    subst e1
    subst e2
    have hlm' : (lm.length : Int) + 1 ≤ 9223372036854775807 := by omega
    have HLen := Lib.hid hlen
    have HEl := Lib.hid hel
    clear hlen hel
    go_wp2_with fail
    have HR1 := Lib.hid hr1
    have HR2 := Lib.hid hr2
    clear hr1 hr2
    go_loopw [73] (fun i wr => ∃ k : Nat, i = .int .i64 k ∧ k ≤ lm.length ∧ Hid (Below wP.heap.size wP wr)) (fun i _ => lm.length + 1 - (intOf i).toNat)
    case atStart => exact ⟨0, rfl, Nat.zero_le _, Lib.hid (Below.refl _ _)⟩
    case round =>
      obtain ⟨k, rfl, hk, hBr⟩ := hrel
      by_cases hlt : k < lm.length
      · have hel := HEl.out k hlt
        have hkl : k + 1 < la.length := by have := HLen.out; omega
        obtain ⟨b1, o1, rfl, hb1, hcl1⟩ := HR1.out.at_ (by simp; omega)
        obtain ⟨b2, o2, rfl, hb2, hcl2⟩ := HR2.out.at_ (by simp; omega)
        obtain ⟨x, hx⟩ : ∃ x, lm[k]? = some x := ⟨lm[k], List.getElem?_eq_getElem (by omega)⟩
        have q1 := (hBr.out.cell (p := ⟨b1, o1 + (k + 1), none⟩) hb1).trans (hcl1 (k + 1) (.string x) (by rw [List.getElem?_map, hel, hx]; rfl))
        have q2 := (hBr.out.cell (p := ⟨b2, o2 + k, none⟩) hb2).trans (hcl2 k (.string x) (by rw [List.getElem?_map, hx]; rfl))
        clear hcl1 hcl2 hx hel
        have i1 : (k : Int) < (lm.length : Int) := by omega
        have i2 : (k : Int) + 1 < (la.length : Int) := by omega
        have i3 : (0 : Int) ≤ (k : Int) := by omega
        have i4 : (0 : Int) ≤ (k : Int) + 1 := by omega
        have i5 : k + 1 < lm.length + 1 := by omega
        have i6 : (k : Int) + 1 < (lm.length : Int) + 1 := by omega
        go_wp2_with fail
        go_quiet (fail)
        go_wp2_with fail
        go_roundw
        case rel => exact ⟨k + 1, by go_num, by omega, Lib.hid (below_drewN hBr.out _)⟩
        case measure => simp [intOf]; omega
      · have hHr : Hid (Held w wr) := Lib.hid (hHP.out.on hBr.out)
        obtain ⟨y1, y2, y3, hHr⟩ := held_keep hBr.out z1' z2' z3' hHP
        clear z1' z2' z3' HR1 HR2 HEl HLen
        have hHr' : Hid (Held w wr.drew) := Lib.hid (Held.on (w' := wr) hHr.out (Below.refl _ _).drew)
        clear hBr hHP
        by_cases hmx : a.size < mx
        · have hd5 : decide (a.size < mx) = true := decide_eq_true hmx
          have hd5i : decide ((a.size : Int) < (mx : Int)) = true := decide_eq_true (by omega)
          go_wp2_with fail
          refine wp_region_held_drew (S := (fun w' => w'.cell? ⟨w.heap.size, 0, none⟩ = some (.int .i64 mn) ∧ w'.cell? ⟨w.heap.size, 1, none⟩ = some (.int .i64 av) ∧ w'.cell? ⟨w.heap.size, 2, none⟩ = some (.int .i64 mx) ∧ Hid (Held w w'))) (by kernel_rfl) ⟨y1, y2, y3, hHr'⟩ (fun hHeld => ?_)
          refine wpAnyH_take (i := 0) (v := ?_) rfl (by kernel_rfl) (by kernel_rfl) (by kernel_rfl) (fun _ _ _ h => h) (Or.inl ⟨by kernel_rfl, ?_⟩) (by assumption) ?_
          rotate_left
          · (intro w hSw; (try dsimp only at hSw); go_simp; first | done | with_reducible rfl)
          change wpAnyH _ _ _ _ _ _ _ (Act.put _ (some 87) _) _
          simp only [Act.put, List.setIfInBounds_toArray, List.set_cons_zero, List.set_cons_succ]
          refine wpAnyH_take (i := 1) (v := ?_) rfl (by kernel_rfl) (by kernel_rfl) (by kernel_rfl) (fun _ _ _ h => h) (Or.inl ⟨by kernel_rfl, ?_⟩) (by assumption) ?_
          rotate_left
          · (intro w hSw; (try dsimp only at hSw); go_simp; first | done | with_reducible rfl)
          change wpAnyH _ _ _ _ _ _ _ (Act.put _ (some 88) _) _
          simp only [Act.put, List.setIfInBounds_toArray, List.set_cons_zero, List.set_cons_succ]
          refine wpAnyH_take (i := 2) (v := ?_) rfl (by kernel_rfl) (by kernel_rfl) (by kernel_rfl) (fun _ _ _ h => h) (Or.inl ⟨by kernel_rfl, ?_⟩) (by assumption) ?_
          rotate_left
          · (intro w hSw; (try dsimp only at hSw); go_simp; first | done | with_reducible rfl)
          change wpAnyH _ _ _ _ _ _ _ (Act.put _ (some 89) _) _
          simp only [Act.put, List.setIfInBounds_toArray, List.set_cons_zero, List.set_cons_succ]
          refine wpAnyH_take (i := 3) (v := ?_) rfl (by kernel_rfl) (by kernel_rfl) (by kernel_rfl) (fun _ _ _ h => h) (Or.inl ⟨by kernel_rfl, ?_⟩) (by assumption) ?_
          rotate_left
          · (intro w hSw; (try dsimp only at hSw); go_simp; first | done | with_reducible rfl)
          change wpAnyH _ _ _ _ _ _ _ (Act.put _ (some 90) _) _
          simp only [Act.put, List.setIfInBounds_toArray, List.set_cons_zero, List.set_cons_succ]
          refine wpAnyH_take (i := 4) (v := ?_) rfl (by kernel_rfl) (by kernel_rfl) (by kernel_rfl) (fun _ _ _ h => h) (Or.inl ⟨by kernel_rfl, ?_⟩) (by assumption) ?_
          rotate_left
          · (intro w hSw; (try dsimp only at hSw); go_simp; first | done | with_reducible rfl)
          change wpAnyH _ _ _ _ _ _ _ (Act.put _ (some 91) _) _
          simp only [Act.put, List.setIfInBounds_toArray, List.set_cons_zero, List.set_cons_succ]
          refine wpAnyH_take (i := 5) (v := ?_) rfl (by kernel_rfl) (by kernel_rfl) (by kernel_rfl) (fun _ _ _ h => h) (Or.inl ⟨by kernel_rfl, ?_⟩) (by assumption) ?_
          rotate_left
          · (intro w hSw; (try dsimp only at hSw); go_simp; first | done | with_reducible rfl)
          change wpAnyH _ _ _ _ _ _ _ (Act.put _ (some 92) _) _
          simp only [Act.put, List.setIfInBounds_toArray, List.set_cons_zero, List.set_cons_succ]
          refine wpAnyH_take (i := 6) (v := undef) rfl (by kernel_rfl) (by kernel_rfl) (by kernel_rfl) (fun _ _ _ h => h) (Or.inr ⟨by kernel_rfl, rfl⟩) (by assumption) ?_
          change wpAnyH _ _ _ _ _ _ _ (Act.put _ (some 93) _) _
          simp only [Act.put, List.setIfInBounds_toArray, List.set_cons_zero, List.set_cons_succ]
          refine wpAnyH_take (i := 7) (v := undef) rfl (by kernel_rfl) (by kernel_rfl) (by kernel_rfl) (fun _ _ _ h => h) (Or.inr ⟨by kernel_rfl, rfl⟩) (by assumption) ?_
          change wpAnyH _ _ _ _ _ _ _ (Act.put _ (some 94) _) _
          simp only [Act.put, List.setIfInBounds_toArray, List.set_cons_zero, List.set_cons_succ]
          refine wpAnyH_take (i := 8) (v := undef) rfl (by kernel_rfl) (by kernel_rfl) (by kernel_rfl) (fun _ _ _ h => h) (Or.inr ⟨by kernel_rfl, rfl⟩) (by assumption) ?_
          change wpAnyH _ _ _ _ _ _ _ (Act.put _ (some 95) _) _
          simp only [Act.put, List.setIfInBounds_toArray, List.set_cons_zero, List.set_cons_succ]
          refine wpAnyH_take (i := 9) (v := undef) rfl (by kernel_rfl) (by kernel_rfl) (by kernel_rfl) (fun _ _ _ h => h) (Or.inr ⟨by kernel_rfl, rfl⟩) (by assumption) ?_
          change wpAnyH _ _ _ _ _ _ _ (Act.put _ (some 96) _) _
          simp only [Act.put, List.setIfInBounds_toArray, List.set_cons_zero, List.set_cons_succ]
          refine wpAnyH_take (i := 10) (v := undef) rfl (by kernel_rfl) (by kernel_rfl) (by kernel_rfl) (fun _ _ _ h => h) (Or.inr ⟨by kernel_rfl, rfl⟩) (by assumption) ?_
          change wpAnyH _ _ _ _ _ _ _ (Act.put _ (some 97) _) _
          simp only [Act.put, List.setIfInBounds_toArray, List.set_cons_zero, List.set_cons_succ]
          refine wpAnyH_take (i := 11) (v := undef) rfl (by kernel_rfl) (by kernel_rfl) (by kernel_rfl) (fun _ _ _ h => h) (Or.inr ⟨by kernel_rfl, rfl⟩) (by assumption) ?_
          change wpAnyH _ _ _ _ _ _ _ (Act.put _ (some 98) _) _
          simp only [Act.put, List.setIfInBounds_toArray, List.set_cons_zero, List.set_cons_succ]
          refine wpAnyH_take (i := 12) (v := undef) rfl (by kernel_rfl) (by kernel_rfl) (by kernel_rfl) (fun _ _ _ h => h) (Or.inr ⟨by kernel_rfl, rfl⟩) (by assumption) ?_
          change wpAnyH _ _ _ _ _ _ _ (Act.put _ (some 99) _) _
          simp only [Act.put, List.setIfInBounds_toArray, List.set_cons_zero, List.set_cons_succ]
          refine wpAnyH_take (i := 13) (v := undef) rfl (by kernel_rfl) (by kernel_rfl) (by kernel_rfl) (fun _ _ _ h => h) (Or.inr ⟨by kernel_rfl, rfl⟩) (by assumption) ?_
          change wpAnyH _ _ _ _ _ _ _ (Act.put _ (some 100) _) _
          simp only [Act.put, List.setIfInBounds_toArray, List.set_cons_zero, List.set_cons_succ]
          refine wpAnyH_take (i := 14) (v := undef) rfl (by kernel_rfl) (by kernel_rfl) (by kernel_rfl) (fun _ _ _ h => h) (Or.inr ⟨by kernel_rfl, rfl⟩) (by assumption) ?_
          change wpAnyH _ _ _ _ _ _ _ (Act.put _ (some 101) _) _
          simp only [Act.put, List.setIfInBounds_toArray, List.set_cons_zero, List.set_cons_succ]
          refine wpAnyH_take (i := 15) (v := undef) rfl (by kernel_rfl) (by kernel_rfl) (by kernel_rfl) (fun _ _ _ h => h) (Or.inr ⟨by kernel_rfl, rfl⟩) (by assumption) ?_
          change wpAnyH _ _ _ _ _ _ _ (Act.put _ (some 102) _) _
          simp only [Act.put, List.setIfInBounds_toArray, List.set_cons_zero, List.set_cons_succ]
          refine wpAnyH_take (i := 16) (v := undef) rfl (by kernel_rfl) (by kernel_rfl) (by kernel_rfl) (fun _ _ _ h => h) (Or.inr ⟨by kernel_rfl, rfl⟩) (by assumption) ?_
          change wpAnyH _ _ _ _ _ _ _ (Act.put _ (some 103) _) _
          simp only [Act.put, List.setIfInBounds_toArray, List.set_cons_zero, List.set_cons_succ]
          refine wpAnyH_take (i := 17) (v := undef) rfl (by kernel_rfl) (by kernel_rfl) (by kernel_rfl) (fun _ _ _ h => h) (Or.inr ⟨by kernel_rfl, rfl⟩) (by assumption) ?_
          change wpAnyH _ _ _ _ _ _ _ (Act.put _ (some 104) _) _
          simp only [Act.put, List.setIfInBounds_toArray, List.set_cons_zero, List.set_cons_succ]
          refine wpAnyH_take (i := 18) (v := undef) rfl (by kernel_rfl) (by kernel_rfl) (by kernel_rfl) (fun _ _ _ h => h) (Or.inr ⟨by kernel_rfl, rfl⟩) (by assumption) ?_
          change wpAnyH _ _ _ _ _ _ _ (Act.put _ (some 105) _) _
          simp only [Act.put, List.setIfInBounds_toArray, List.set_cons_zero, List.set_cons_succ]
          refine wpAnyH_take (i := 19) (v := undef) rfl (by kernel_rfl) (by kernel_rfl) (by kernel_rfl) (fun _ _ _ h => h) (Or.inr ⟨by kernel_rfl, rfl⟩) (by assumption) ?_
          change wpAnyH _ _ _ _ _ _ _ (Act.put _ (some 106) _) _
          simp only [Act.put, List.setIfInBounds_toArray, List.set_cons_zero, List.set_cons_succ]
          refine wpAnyH_take (i := 20) (v := undef) rfl (by kernel_rfl) (by kernel_rfl) (by kernel_rfl) (fun _ _ _ h => h) (Or.inr ⟨by kernel_rfl, rfl⟩) (by assumption) ?_
          change wpAnyH _ _ _ _ _ _ _ (Act.put _ (some 107) _) _
          simp only [Act.put, List.setIfInBounds_toArray, List.set_cons_zero, List.set_cons_succ]
          refine wpAnyH_take (i := 21) (v := undef) rfl (by kernel_rfl) (by kernel_rfl) (by kernel_rfl) (fun _ _ _ h => h) (Or.inr ⟨by kernel_rfl, rfl⟩) (by assumption) ?_
          change wpAnyH _ _ _ _ _ _ _ (Act.put _ (some 108) _) _
          simp only [Act.put, List.setIfInBounds_toArray, List.set_cons_zero, List.set_cons_succ]
          refine wpAnyH_take (i := 22) (v := undef) rfl (by kernel_rfl) (by kernel_rfl) (by kernel_rfl) (fun _ _ _ h => h) (Or.inr ⟨by kernel_rfl, rfl⟩) (by assumption) ?_
          change wpAnyH _ _ _ _ _ _ _ (Act.put _ (some 109) _) _
          simp only [Act.put, List.setIfInBounds_toArray, List.set_cons_zero, List.set_cons_succ]
          refine wpAnyH_take (i := 23) (v := ?_) rfl (by kernel_rfl) (by kernel_rfl) (by kernel_rfl) (fun _ _ _ h => h) (Or.inl ⟨by kernel_rfl, ?_⟩) (by assumption) ?_
          rotate_left
          · (intro w hSw; (try dsimp only at hSw); go_simp; first | done | with_reducible rfl)
          change wpAnyH _ _ _ _ _ _ _ (Act.put _ (some 110) _) _
          simp only [Act.put, List.setIfInBounds_toArray, List.set_cons_zero, List.set_cons_succ]
          refine wpAnyH_take (i := 24) (v := ?_) rfl (by kernel_rfl) (by kernel_rfl) (by kernel_rfl) (fun _ _ _ h => h) (Or.inl ⟨by kernel_rfl, ?_⟩) (by assumption) ?_
          rotate_left
          · (intro w hSw; (try dsimp only at hSw); go_simp; first | done | with_reducible rfl)
          change wpAnyH _ _ _ _ _ _ _ (Act.put _ (some 111) _) _
          simp only [Act.put, List.setIfInBounds_toArray, List.set_cons_zero, List.set_cons_succ]
          refine wpAnyH_ready (rs := [25]) (by kernel_rfl) (by simp) ?_
          refine AllReadyH.cons (o := { dst := some 112, op := Op.call { callee := Callee.value (Operand.func 13), args := #[], argTypes := #[] }, type := 4, pos := "law.go:65", after := #[{ on := 24, ground := Ground.chain }, { on := 24, ground := Ground.guard }], guard := some (24, true) }) rfl (fun K hK => ?_) AllReadyH.nil
          go_simp
          (go_at_call 13; refine Calls.mono (awake_any _ hHr'.out.1) ?_; rintro e w6 ⟨rfl, hB6⟩)
          refine hK.out _ _ (by exact held_keep hB6 (hHeld.1) hHeld.2.1 hHeld.2.2.1 hHeld.2.2.2) (fun hHeld => ?_)
          clear hK K
          try simp only [Act.put, List.setIfInBounds_toArray, List.set_cons_zero, List.set_cons_succ]
          refine wpAnyH_take (i := 26) (v := ?_) rfl (by kernel_rfl) (by kernel_rfl) (by kernel_rfl) (fun _ _ _ h => h) (Or.inl ⟨by kernel_rfl, ?_⟩) (by assumption) ?_
          rotate_left
          · (intro w hSw; (try dsimp only at hSw); go_simp; first | done | with_reducible rfl)
          change wpAnyH _ _ _ _ _ _ _ (Act.put _ (some 113) _) _
          simp only [Act.put, List.setIfInBounds_toArray, List.set_cons_zero, List.set_cons_succ]
          refine wpAnyH_take (i := 27) (v := ?_) rfl (by kernel_rfl) (by kernel_rfl) (by kernel_rfl) (fun _ _ _ h => h) (Or.inl ⟨by kernel_rfl, ?_⟩) (by assumption) ?_
          rotate_left
          · (intro w hSw; (try dsimp only at hSw); go_simp; first | done | with_reducible rfl)
          change wpAnyH _ _ _ _ _ _ _ (Act.put _ (some 6) _) _
          simp only [Act.put, List.setIfInBounds_toArray, List.set_cons_zero, List.set_cons_succ]
          refine wpAnyH_done (by kernel_rfl) ?_ _
          go_wp2_with fail
          go_ret
          exact ⟨rfl, hHeld.2.2.2.out.2.1⟩
        · have hd5 : decide (a.size < mx) = false := decide_eq_false hmx
          have hd5i : decide ((a.size : Int) < (mx : Int)) = false := decide_eq_false (by omega)
          have hi5 : (0 : Int) ≤ (mx : Int) := Int.natCast_nonneg _
          have hi6 : (mx : Int) ≤ (a.size : Int) := by omega
          have HcA : Hid (cutN mn av mx b (a ++ c) = n) := Lib.hid (by rw [HN.out]; exact cutN_append mn av mx b a c hmm (.inr (by omega)))
          have HcB : Hid (cutN mn av mx b (a.extract 0 mx) = n) := Lib.hid (by rw [HN.out]; exact cutN_take mn av mx b a hmm (by omega))
          go_wp2_with fail
          go_region_held3 (fun w' => w'.cell? ⟨w.heap.size, 0, none⟩ = some (.int .i64 mn) ∧ w'.cell? ⟨w.heap.size, 1, none⟩ = some (.int .i64 av) ∧ w'.cell? ⟨w.heap.size, 2, none⟩ = some (.int .i64 mx) ∧ Hid (Held w w'))
            (first
              | go_keep
              | (go_split_ands; exact held_keep ‹_› ‹_› ‹_› ‹_› ‹_›))
            (first
              | (go_at_call 16; refine Calls.mono (cut_fit HFit.out _ (by first | (rw [ByteArray.size_append]; omega) | (rw [ByteArray.size_extract]; omega)) _ (by first | exact (Hid.out ‹Hid (Held w _)›).1 | (go_split_ands; exact (Hid.out ‹Hid (Held w _)›).1))) ?_; rintro e w5 ⟨rfl, hB5⟩; first | rw [HcA.out] | rw [HcB.out])
              | (go_at_call 13; refine Calls.mono (awake_any _ (by first | exact (Hid.out ‹Hid (Held w _)›).1 | (go_split_ands; exact (Hid.out ‹Hid (Held w _)›).1))) ?_; rintro e w6 ⟨rfl, hB6⟩))
          go_split_ands
          go_wp2_with fail
          go_ret
          exact ⟨rfl, (Hid.out ‹Hid (Held w _)›).2.1⟩

end Go.Proofs.YtkcailgfggbigaaDoor
