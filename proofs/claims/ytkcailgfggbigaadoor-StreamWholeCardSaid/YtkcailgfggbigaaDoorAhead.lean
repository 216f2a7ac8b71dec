/-
  BYTES THAT COME BEHIND CHANGE NO PIECE BUT THE LAST.
-/
import Derived.Test.YtkcailgfggbigaaDoorAwk7
import Derived.Test.YtkcailgfggbigaaDoorCutLaw
import Derived.Deep.QuietTactic
import Derived.BigQuiet
namespace Go.Proofs.YtkcailgfggbigaaDoor
open Go.RowKit Go.Shelf Go.Proofs.Gear Go.Proofs.Mem
attribute [local go_sem] Oper.semAt_some
set_option linter.unusedVariables false

theorem fitB_cases (mn av mx : Int) (h1 : mn ≤ 9223372036854775807) : fitB mn av mx = false ∨ (fitB mn av mx = true ∧ ∃ mn' av' mx' b : Nat, mn = mn' ∧ av = av' ∧ mx = mx' ∧ FitN mn' av' mx' b) := by
  cases h : fitB mn av mx with
  | false => exact .inl rfl
  | true =>
    obtain ⟨b, hb⟩ := (fitB_iff mn av mx).1 h
    have := hb.one; have := hb.min; have := hb.max
    refine .inr ⟨rfl, mn.toNat, av.toNat, mx.toNat, b, by omega, by omega, by omega, ?_, hb.low, hb.high, by omega, by omega, by omega, by have := hb.big; omega⟩
    have h2 := hb.pow
    have : (av.toNat : Int) = 2 ^ b := by rw [← h2]; omega
    exact_mod_cast this

theorem below_drewN {B : Nat} {a w : World} (h : Below B a w) (n : Nat) : Below B a (w.drewN n) := ⟨h.os, h.tape, h.output, h.size, h.block⟩
/-- What stays so behind calls. -/
def Held (w w' : World) : Prop := Laid w' ∧ Below w.heap.size w w' ∧ w.heap.size < w'.heap.size
theorem Held.on {w w' w2 : World} (h : Held w w') (hb : Below w'.heap.size w' w2) : Held w w2 := ⟨h.1.on hb, bel h.2.1 hb, Nat.lt_of_lt_of_le h.2.2 hb.size⟩
theorem held_keep {w w' w2 : World} {mn av mx : Int} (hb : Below w'.heap.size w' w2) (h1 : w'.cell? ⟨w.heap.size, 0, none⟩ = some (.int .i64 mn)) (h2 : w'.cell? ⟨w.heap.size, 1, none⟩ = some (.int .i64 av)) (h3 : w'.cell? ⟨w.heap.size, 2, none⟩ = some (.int .i64 mx)) (h : Hid (Held w w')) :
    w2.cell? ⟨w.heap.size, 0, none⟩ = some (.int .i64 mn) ∧ w2.cell? ⟨w.heap.size, 1, none⟩ = some (.int .i64 av) ∧ w2.cell? ⟨w.heap.size, 2, none⟩ = some (.int .i64 mx) ∧ Hid (Held w w2) := by
  obtain ⟨a, b, c⟩ := Box.on (g := w.heap.size) ⟨h1, h2, h3⟩ hb h.out.2.2
  exact ⟨a, b, c, Lib.hid (h.out.on hb)⟩

set_option maxHeartbeats 4000000 in
theorem ahead_walk (mn av mx : Int) (a c : ByteArray) (w : World) (hL : Laid w) (hm : mn ≤ 9223372036854775807) (ha' : a.size ≤ 9223372036854775807) (hc' : c.size ≤ 9223372036854775807) :
    Calls Tryd.prog 6 #[.agg #[.int .i64 mn, .int .i64 av, .int .i64 mx], .string a, .string c] w fun e w' => e = .returned (.bool true) ∧ Below w.heap.size w w' := by
  have HL := Lib.hid hL
  clear hL
  go_enter Tryd.func6, Tryd.ntmps6
  by_cases ha : 3000 < a.size
  · go_wp2_with (go_at_call 13; refine Calls.mono (awake_any _ (HL.out.on (by go_grown))) ?_; rintro e w1 ⟨rfl, hB1⟩)
    go_ret
    exact ⟨rfl, bel (by go_grown) hB1⟩
  by_cases hc : 3000 < c.size
  · go_wp2_with (go_at_call 13; refine Calls.mono (awake_any _ (HL.out.on (by go_grown))) ?_; rintro e w1 ⟨rfl, hB1⟩)
    go_ret
    exact ⟨rfl, bel (by go_grown) hB1⟩
  have hd1 : decide ((3000 : Int) < (a.size : Int)) = false := decide_eq_false (by omega)
  have hd2 : decide ((3000 : Int) < (c.size : Int)) = false := decide_eq_false (by omega)
  rcases fitB_cases mn av mx hm with hf | ⟨hf, mn, av, mx, b, rfl, rfl, rfl, hfit⟩
  · have HF := Lib.hid hf
    clear hf
    go_wp2_with (first | (go_at_call 12; refine Calls.mono (rfit_any _ _ _ _) ?_; rintro e w1 ⟨rfl, hB1⟩; rw [HF.out]; have HB1 : Hid (Below w.heap.size w w1) := Lib.hid (bel (by go_grown) hB1); clear hB1) | (go_at_call 13; refine Calls.mono (awake_any _ (HL.out.on HB1.out)) ?_; rintro e w2 ⟨rfl, hB2⟩))
    go_ret
    exact ⟨rfl, bel HB1.out hB2⟩
  have HF := Lib.hid hf
  clear hf
  have HFit := Lib.hid hfit
  clear hfit
  go_wp2_with (go_at_call 12; refine Calls.mono (rfit_any _ _ _ _) ?_; rintro e w1 ⟨rfl, hB1⟩; rw [HF.out]; have HB1 := Lib.hid hB1; clear hB1)
  obtain ⟨W0, hW0⟩ : ∃ W0, w.alloc (.cells #[.int .i64 mn, .int .i64 av, .int .i64 mx] 23) = W0 := ⟨_, rfl⟩
  rw [hW0] at HB1
  have hx0 : Box W0 w.heap.size mn av mx := by rw [← hW0]; exact Box.new w _ _ _ _
  have hB0 : Below w.heap.size w W0 := by rw [← hW0]; clear hx0 HB1 hW0; go_grown
  have hsz : w.heap.size < W0.heap.size := by rw [← hW0]; simp
  clear hW0
  have hx1 := hx0.on HB1.out hsz
  have hB2 : Below w.heap.size w w1 := bel hB0 HB1.out
  have hL1 := HL.out.on hB2
  have hsz1 : w.heap.size < w1.heap.size := Nat.lt_of_lt_of_le hsz HB1.out.size
  clear HB1 hx0 hB0 hsz
  obtain ⟨x1, x2, x3⟩ := hx1
  have hHd : Hid (Held w w1) := Lib.hid ⟨hL1, hB2, hsz1⟩
  have hHd0 : Hid (Held w w1.drew) := Lib.hid (Held.on (w' := w1) ⟨hL1, hB2, hsz1⟩ (Below.refl _ _).drew)
  have hac : ¬9223372036854775807 < a.size + c.size := by omega
  go_region_held3 (fun w' => w'.cell? ⟨w.heap.size, 0, none⟩ = some (.int .i64 mn) ∧ w'.cell? ⟨w.heap.size, 1, none⟩ = some (.int .i64 av) ∧ w'.cell? ⟨w.heap.size, 2, none⟩ = some (.int .i64 mx) ∧ Hid (Held w w'))
    (first
      | go_keep
      | (go_split_ands; exact held_keep ‹_› ‹_› ‹_› ‹_› ‹_›))
    ((go_at_call 14; refine Calls.mono (pieces_any HFit.out _ (by first | omega | (rw [ByteArray.size_append]; omega)) _ (by first | exact (Hid.out ‹Hid (Held w _)›).1 | (go_split_ands; exact (Hid.out ‹Hid (Held w _)›).1))) ?_; rintro e wP ⟨v, rfl, hS, -, hBP⟩; first | (have HSa : Hid (Strs _ _ v (pcs mn av mx b a)) := Lib.hid hS) | (have HSc : Hid (Strs _ _ v (pcs mn av mx b (a ++ c))) := Lib.hid hS); clear hS))
  go_split_ands
  have hHP : Hid (Held w wP) := by assumption
  have hSa := HSa.out.on hBP
  have hSc := HSc.out
  obtain ⟨hl1, hl2⟩ := pcs_ahead mn av mx b (Nat.le_trans HFit.out.min HFit.out.max) HFit.out.one c a.size a (Nat.le_refl _)
  clear HSa HSc hS
  generalize pcs mn av mx b a = la at *
  generalize pcs mn av mx b (a ++ c) = lc at *
  obtain ⟨A1, c1, e1, hm1, hm2, hr1⟩ := hSa
  obtain ⟨A2, c2, e2, hm3, hm4, hr2⟩ := hSc
  subst e1
  subst e2
  have hla : la.length ≤ 9223372036854775807 := Nat.le_trans hm1 (Nat.le_trans hm2 (by unfold maxLen; omega))
  have hlc : lc.length ≤ 9223372036854775807 := Nat.le_trans hm3 (Nat.le_trans hm4 (by unfold maxLen; omega))
  have hd3 : decide (lc.length < la.length) = false := decide_eq_false (by omega)
  clear x1 x2 x3 hB2 hL1 hHd hHd0 hBP
  go_wp2_with fail
  have HR1 := Lib.hid hr1
  have HR2 := Lib.hid hr2
  have HL2 := Lib.hid hl2
  clear hr1 hr2 hl2
  go_loopw [9] (fun i wr => ∃ k : Nat, i = .int .i64 k ∧ k ≤ la.length ∧ Hid (Below wP.heap.size wP wr)) (fun i _ => la.length + 1 - (intOf i).toNat)
  case atStart => exact ⟨0, rfl, Nat.zero_le _, Lib.hid (Below.refl _ _)⟩
  case round =>
    obtain ⟨k, rfl, hk, hBr⟩ := hrel
    by_cases hlt : k + 1 < la.length
    · obtain ⟨b1, o1, rfl, hb1, hcl1⟩ := HR1.out.at_ (by simp; omega)
      obtain ⟨b2, o2, rfl, hb2, hcl2⟩ := HR2.out.at_ (by simp; omega)
      obtain ⟨x, hx⟩ : ∃ x, la[k]? = some x := ⟨la[k], List.getElem?_eq_getElem (by omega)⟩
      have q1 := (hBr.out.cell (p := ⟨b1, o1 + k, none⟩) hb1).trans (hcl1 k (.string x) (by rw [List.getElem?_map, hx]; rfl))
      have q2 := (hBr.out.cell (p := ⟨b2, o2 + k, none⟩) hb2).trans (hcl2 k (.string x) (by rw [List.getElem?_map, ← HL2.out k hlt, hx]; rfl))
      clear hcl1 hcl2 hx
      have i1 : (k : Int) < (la.length : Int) := by omega
      have i2 : (k : Int) < (lc.length : Int) := by omega
      have i3 : (0 : Int) ≤ (k : Int) := by omega
      go_wp2_with fail
      go_quiet (fail)
      go_wp2_with fail
      go_roundw
      case rel => exact ⟨k + 1, by go_num, by omega, Lib.hid (below_drewN hBr.out _)⟩
      case measure => simp [intOf]; omega
    · go_wp2_with (go_at_call 13; refine Calls.mono (awake_any _ (hHP.out.1.on hBr.out)) ?_; rintro e w2 ⟨rfl, hB2⟩)
      go_ret
      exact ⟨rfl, bel (bel hHP.out.2.1 hBr.out) hB2⟩

end Go.Proofs.YtkcailgfggbigaaDoor
