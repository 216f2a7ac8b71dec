/-
  THE DOCUMENT'S ANSWERS: THE WALK OF CdcDoes.
-/
import Derived.Test.YtkcailgfggbigaaDoorWhole
namespace Go.Proofs.YtkcailgfggbigaaDoor
open Go.RowKit Go.Shelf Go.Proofs.Gear Go.Proofs.Mem
attribute [local go_sem] Oper.semAt_some
set_option linter.unusedVariables false

theorem held_keep2 {w w' w2 wQ : World} {mn av mx : Int} (hb : Below w'.heap.size w' w2) (h1 : w'.cell? ⟨w.heap.size, 0, none⟩ = some (.int .i64 mn)) (h2 : w'.cell? ⟨w.heap.size, 1, none⟩ = some (.int .i64 av)) (h3 : w'.cell? ⟨w.heap.size, 2, none⟩ = some (.int .i64 mx)) (h : Hid (Held w w')) (hq : Hid (Below wQ.heap.size wQ w')) :
    w2.cell? ⟨w.heap.size, 0, none⟩ = some (.int .i64 mn) ∧ w2.cell? ⟨w.heap.size, 1, none⟩ = some (.int .i64 av) ∧ w2.cell? ⟨w.heap.size, 2, none⟩ = some (.int .i64 mx) ∧ Hid (Held w w2) ∧ Hid (Below wQ.heap.size wQ w2) := by
  obtain ⟨a, b, c, d⟩ := held_keep hb h1 h2 h3 h
  exact ⟨a, b, c, d, Lib.hid (bel hq.out hb)⟩

set_option maxHeartbeats 1000000 in
theorem does_walk (mn av mx : Int) (a : ByteArray) (w : World) (hL : Laid w) (hm : mn ≤ 9223372036854775807) (hv : av ≤ 9223372036854775807) (ha' : a.size ≤ 9223372036854775807) :
    Calls Tryd.prog 3 #[.agg #[.int .i64 mn, .int .i64 av, .int .i64 mx], .string a] w fun e w' => e = .returned (.bool true) ∧ Below w.heap.size w w' := by
  have HL := Lib.hid hL
  clear hL
  go_enter Tryd.func3, Tryd.ntmps3
  obtain ⟨x1, x2, x3, hHd⟩ := held_start (mn := mn) (av := av) (mx := mx) HL.out (Below.refl _ _)
  by_cases ha : 5000 < a.size
  · have hd1 : decide ((5000 : Int) < (a.size : Int)) = true := decide_eq_true (by omega)
    go_wp2
    generalize w.alloc (.cells #[.int .i64 mn, .int .i64 av, .int .i64 mx] 23) = W0 at *
    have hq : ∀ n, Hid (Held w (W0.drewN n)) := fun n => Lib.hid (Held.on (w' := W0) hHd.out (below_drewN (Below.refl _ _) n))
    go_quiet (fail)
    go_wp2_with (go_at_call 13; refine Calls.mono (awake_any _ (hq _).out.1) ?_; rintro e w1 ⟨rfl, hB1⟩)
    go_ret
    exact ⟨rfl, bel (hq _).out.2.1 hB1⟩
  have hd1 : decide ((5000 : Int) < (a.size : Int)) = false := decide_eq_false (by omega)
  rcases fitB_cases mn av mx hm with hf | ⟨hf, mn, av, mx, b, rfl, rfl, rfl, hfit⟩
  · have HF := Lib.hid hf
    clear hf
    go_wp2
    generalize w.alloc (.cells #[.int .i64 mn, .int .i64 av, .int .i64 mx] 23) = W0 at *
    have hHd0 : Hid (Held w W0.drew) := Lib.hid (Held.on (w' := W0) hHd.out (Below.refl _ _).drew)
    go_region_held3 (fun w' => w'.cell? ⟨w.heap.size, 0, none⟩ = some (.int .i64 mn) ∧ w'.cell? ⟨w.heap.size, 1, none⟩ = some (.int .i64 av) ∧ w'.cell? ⟨w.heap.size, 2, none⟩ = some (.int .i64 mx) ∧ Hid (Held w w'))
      (first
        | go_keep
        | (go_split_ands; exact held_keep ‹_› ‹_› ‹_› ‹_› ‹_›))
      (first
        | (go_at_call 11; refine Calls.mono (fit_any _ _ _ hv _) ?_; rintro e wF ⟨rfl, hBF⟩; rw [HF.out])
        | (go_at_call 12; refine Calls.mono (rfit_any _ _ _ _) ?_; rintro e wF ⟨rfl, hBF⟩; rw [HF.out]))
    go_split_ands
    go_wp2_with (first
      | (go_at_call 12; refine Calls.mono (rfit_any _ _ _ _) ?_; rintro e w5 ⟨rfl, hB5⟩; rw [HF.out])
      | (go_at_call 13; refine Calls.mono (awake_any _ ((Hid.out ‹Hid (Held w _)›).1.on hB5)) ?_; rintro e w6 ⟨rfl, hB6⟩))
    go_ret
    exact ⟨rfl, bel (bel (Hid.out ‹Hid (Held w _)›).2.1 hB5) hB6⟩
  have HF := Lib.hid hf
  clear hf
  have HFit := Lib.hid hfit
  clear hfit
  go_wp2
  generalize w.alloc (.cells #[.int .i64 mn, .int .i64 av, .int .i64 mx] 23) = W0 at *
  have hHd0 : Hid (Held w W0.drew) := Lib.hid (Held.on (w' := W0) hHd.out (Below.refl _ _).drew)
  go_region_held3 (fun w' => w'.cell? ⟨w.heap.size, 0, none⟩ = some (.int .i64 mn) ∧ w'.cell? ⟨w.heap.size, 1, none⟩ = some (.int .i64 av) ∧ w'.cell? ⟨w.heap.size, 2, none⟩ = some (.int .i64 mx) ∧ Hid (Held w w'))
    (first
      | go_keep
      | (go_split_ands; exact held_keep ‹_› ‹_› ‹_› ‹_› ‹_›))
    (first
      | (go_at_call 11; refine Calls.mono (fit_any _ _ _ hv _) ?_; rintro e wF ⟨rfl, hBF⟩; rw [HF.out])
      | (go_at_call 12; refine Calls.mono (rfit_any _ _ _ _) ?_; rintro e wR ⟨rfl, hBR⟩; rw [HF.out]))
  clear x1 x2 x3 hHd hHd0 hBF hBR
  go_split_ands
  have y1 : wR.cell? ⟨w.heap.size, 0, none⟩ = some (.int .i64 mn) := by assumption
  have y2 : wR.cell? ⟨w.heap.size, 1, none⟩ = some (.int .i64 av) := by assumption
  have y3 : wR.cell? ⟨w.heap.size, 2, none⟩ = some (.int .i64 mx) := by assumption
  have hHR : Hid (Held w wR) := by assumption
  go_wp2_with (go_at_call 12; refine Calls.mono (rfit_any _ _ _ _) ?_; rintro e w5 ⟨rfl, hB5⟩; rw [HF.out]; obtain ⟨z1, z2, z3, hH5⟩ := held_keep hB5 y1 y2 y3 hHR; clear hB5)
  clear y1 y2 y3 hHR
  have hH5' : Hid (Held w w5.drew) := Lib.hid (Held.on (w' := w5) hH5.out (Below.refl _ _).drew)
  go_region_held3 (fun w' => w'.cell? ⟨w.heap.size, 0, none⟩ = some (.int .i64 mn) ∧ w'.cell? ⟨w.heap.size, 1, none⟩ = some (.int .i64 av) ∧ w'.cell? ⟨w.heap.size, 2, none⟩ = some (.int .i64 mx) ∧ Hid (Held w w'))
    (first
      | go_keep
      | (go_split_ands; exact held_keep ‹_› ‹_› ‹_› ‹_› ‹_›))
    (first
      | (go_at_call 14; refine Calls.mono (pieces_any HFit.out a (by omega) _ (by first | exact (Hid.out ‹Hid (Held w _)›).1 | (go_split_ands; exact (Hid.out ‹Hid (Held w _)›).1))) ?_; rintro e wP ⟨v, rfl, hS, -, hBP⟩; have HSa : Hid (Strs _ _ v (pcs mn av mx b a)) := Lib.hid hS; clear hS)
      | (go_at_call 15; refine Calls.mono (rpieces_any HFit.out a (by omega) _) ?_; rintro e wQ ⟨v2, rfl, hS, -, hBQ⟩; have HSb : Hid (Strs _ _ v2 (pcs mn av mx b a)) := Lib.hid hS; clear hS))
  go_split_ands
  have p1 : wQ.cell? ⟨w.heap.size, 0, none⟩ = some (.int .i64 mn) := by assumption
  have p2 : wQ.cell? ⟨w.heap.size, 1, none⟩ = some (.int .i64 av) := by assumption
  have p3 : wQ.cell? ⟨w.heap.size, 2, none⟩ = some (.int .i64 mx) := by assumption
  have hHQ : Hid (Held w wQ) := by assumption
  have hSa := HSa.out.on hBQ
  have hSb := HSb.out
  clear HSa HSb
  generalize pcs mn av mx b a = la at *
  obtain ⟨A1, c1, e1, hm1, hm2, hr1⟩ := hSa
  obtain ⟨A2, c2, e2, hm3, hm4, hr2⟩ := hSb
  subst e1
  subst e2
  have hla : la.length ≤ 9223372036854775807 := Nat.le_trans hm1 (Nat.le_trans hm2 (by unfold maxLen; omega))
  have HR1 := Lib.hid hr1
  have HR2 := Lib.hid hr2
  clear hr1 hr2 z1 z2 z3 hH5 hH5' hBP hBQ
  go_wp2_with fail
  have hHQ' : Hid (Held w wQ.drew) := Lib.hid (Held.on (w' := wQ) hHQ.out (Below.refl _ _).drew)
  have hS0 : wQ.drew.cell? ⟨w.heap.size, 0, none⟩ = some (.int .i64 mn) ∧ wQ.drew.cell? ⟨w.heap.size, 1, none⟩ = some (.int .i64 av) ∧ wQ.drew.cell? ⟨w.heap.size, 2, none⟩ = some (.int .i64 mx) ∧ Hid (Held w wQ.drew) ∧ Hid (Below wQ.heap.size wQ wQ.drew) := ⟨p1, p2, p3, hHQ', Lib.hid (Below.refl _ _).drew⟩
  go_region_held3 (fun w' => w'.cell? ⟨w.heap.size, 0, none⟩ = some (.int .i64 mn) ∧ w'.cell? ⟨w.heap.size, 1, none⟩ = some (.int .i64 av) ∧ w'.cell? ⟨w.heap.size, 2, none⟩ = some (.int .i64 mx) ∧ Hid (Held w w') ∧ Hid (Below wQ.heap.size wQ w'))
    (first
      | exact hS0
      | (go_split_ands; exact held_keep2 ‹_› ‹_› ‹_› ‹_› ‹_› ‹_›))
    (first
      | (go_at_call 16; refine Calls.mono (cut_fit HFit.out a (by omega) _ (by first | exact (Hid.out ‹Hid (Held w _)›).1 | (go_split_ands; exact (Hid.out ‹Hid (Held w _)›).1))) ?_; rintro e wC ⟨rfl, hBC⟩)
      | (go_at_call 17; refine Calls.mono (rcut_fit HFit.out a (by omega) _) ?_; rintro e wD ⟨rfl, hBD⟩))
  go_split_ands
  have hHC : Hid (Held w wD) := by assumption
  have hBC' : Hid (Below wQ.heap.size wQ wD) := by assumption
  clear p1 p2 p3
  go_wp2_with fail
  go_loopw [50] (fun i wr => ∃ k : Nat, i = .int .i64 k ∧ k ≤ la.length ∧ Hid (Below wQ.heap.size wQ wr)) (fun i _ => la.length + 1 - (intOf i).toNat)
  case atStart => exact ⟨0, rfl, Nat.zero_le _, hBC'⟩
  case round =>
    obtain ⟨k, rfl, hk, hBr⟩ := hrel
    by_cases hlt : k < la.length
    · obtain ⟨b1, o1, rfl, hb1, hcl1⟩ := HR1.out.at_ (by simp; omega)
      obtain ⟨b2, o2, rfl, hb2, hcl2⟩ := HR2.out.at_ (by simp; omega)
      obtain ⟨x, hx⟩ : ∃ x, la[k]? = some x := ⟨la[k], List.getElem?_eq_getElem (by omega)⟩
      have q1 := (hBr.out.cell (p := ⟨b1, o1 + k, none⟩) hb1).trans (hcl1 k (.string x) (by rw [List.getElem?_map, hx]; rfl))
      have q2 := (hBr.out.cell (p := ⟨b2, o2 + k, none⟩) hb2).trans (hcl2 k (.string x) (by rw [List.getElem?_map, hx]; rfl))
      clear hcl1 hcl2 hx
      have i1 : (k : Int) < (la.length : Int) := by omega
      have i3 : (0 : Int) ≤ (k : Int) := by omega
      go_wp2_with fail
      go_quiet (fail)
      go_wp2_with fail
      go_roundw
      case rel => exact ⟨k + 1, by go_num, by omega, Lib.hid (below_drewN hBr.out _)⟩
      case measure => simp [intOf]; omega
    · go_wp2_with (go_at_call 13; refine Calls.mono (awake_any _ (hHQ.out.1.on hBr.out)) ?_; rintro e w2 ⟨rfl, hB2⟩)
      go_ret
      exact ⟨rfl, bel (bel hHQ.out.2.1 hBr.out) hB2⟩

end Go.Proofs.YtkcailgfggbigaaDoor
