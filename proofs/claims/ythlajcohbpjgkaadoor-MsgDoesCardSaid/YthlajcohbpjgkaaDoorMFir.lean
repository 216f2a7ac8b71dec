/-
  The document's Fit. (Printed by genfitr.py.)
-/
import Derived.Test.YthlajcohbpjgkaaDoorMFit
import Derived.Test.YthlajcohbpjgkaaDoorMBar
import Derived.Test.YthlajcohbpjgkaaDoorMNam
import Derived.Deep.RegionHeld3
namespace Go.Proofs.YthlajcohbpjgkaaDoor
open Go.RowKit Go.Shelf Go.Proofs.Mem
set_option linter.unusedVariables false

def docL (m : MsgL) : Bool :=
  if m.kind = 1 then nameB m.name && !badK m.root
  else if m.kind = 2 then !m.keys.any badK && sevB m.keys.length
  else if m.kind = 3 then !m.objs.any badO && sevB m.objs.length
  else decide (m.kind = 4 ∧ 0 ≤ m.err ∧ m.err ≤ 19)
theorem fit_doc (m : MsgL) : fitL m = (decide (m = bareL m) && docL m) := by
  unfold fitL docL sevB
  congr 1
  by_cases h1 : m.kind = 1
  · rw [if_pos h1, if_pos h1]
    congr 1
    unfold badK
    by_cases h : m.root.size = 32
    · rw [decide_eq_true h, decide_eq_false (fun h' => h' h)]; rfl
    · rw [decide_eq_false h, decide_eq_true h]; rfl
  · rw [if_neg h1, if_neg h1, all_badK, all_badO]

set_option maxRecDepth 100000 in
set_option maxHeartbeats 4000000 in
theorem rfit_any (u : Value) (m : MsgL) (w : World) (b : Bool) (hb : fitL m = b) (hm : MsgV w w.heap.size u m) (hn : m.name.size ≤ maxLen) :
    Calls Tryd.prog 8 #[u] w fun e w' => e = .returned (.bool b) ∧ Below w.heap.size w w' := by
  have HMV := Lib.hid hm
  obtain ⟨ks, os, rfl, hk, ho⟩ := hm
  have HBR := Lib.hid (fun W (hW : Below w.heap.size w W) => rbare_any _ m W (HMV.out.on hW))
  have HSA := Lib.hid (fun W v (hW : Below w.heap.size w W) (hv : MsgV W W.heap.size v (bareL m)) => rsm_any _ v m (bareL m) W (HMV.out.on hW) hv)
  obtain ⟨A1, c1, rfl, a1, b1, r1⟩ := hk
  obtain ⟨A2, c2, rfl, a2, b2, r2⟩ := ho
  have hz1 : m.keys.length ≤ 9223372036854775807 := by unfold maxLen at b1; omega
  have hz2 : m.objs.length ≤ 9223372036854775807 := by unfold maxLen at b2; omega
  have HR1 := Lib.hid r1
  have HR2 := Lib.hid r2
  clear r1 r2 a1 b1 a2 b2
  rw [fit_doc] at hb
  have HB := Lib.hid hb
  have HN := Lib.hid hn
  clear hb hn
  unfold msgA
  unfold msgA at HBR HSA
  have HX : Hid (Below w.heap.size w (w.alloc (.cells #[.int .i64 m.kind, .string m.name, .string m.root, .slice A1 m.keys.length c1, .slice A2 m.objs.length c2, .int .i64 m.err] 26))) := Lib.hid ((Below.refl _ _).alloc (Nat.le_refl _) _)
  cases heq : decide (m = bareL m) with
  | false =>
    have HE := Lib.hid heq
    have HF : Hid (b = false) := Lib.hid (by rw [← HB.out, heq]; rfl)
    clear heq
    go_enter Tryd.func8, Tryd.ntmps8
    go_wp2_with fail
    have HSTART : Hid (∃ W0 : World, W0 = w.alloc (.cells #[.int .i64 m.kind, .string m.name, .string m.root, .slice A1 m.keys.length c1, .slice A2 m.objs.length c2, .int .i64 m.err] 26)) := Lib.hid ⟨_, rfl⟩
    obtain ⟨W0, hg⟩ := HSTART.out
    rw [← hg]
    have HB0 : Hid (Below w.heap.size w W0) := Lib.hid (by rw [hg]; exact HX.out)
    have HZ0 : Hid (w.heap.size < W0.heap.size) := Lib.hid (by rw [hg]; simp)
    have HC0 : Hid (W0.cell? ⟨w.heap.size, 0, none⟩ = some (.int .i64 m.kind) ∧ W0.cell? ⟨w.heap.size, 1, none⟩ = some (.string m.name) ∧ W0.cell? ⟨w.heap.size, 2, none⟩ = some (.string m.root) ∧ W0.cell? ⟨w.heap.size, 3, none⟩ = some (.slice A1 m.keys.length c1) ∧ W0.cell? ⟨w.heap.size, 4, none⟩ = some (.slice A2 m.objs.length c2) ∧ W0.cell? ⟨w.heap.size, 5, none⟩ = some (.int .i64 m.err)) := Lib.hid (by rw [hg]; refine ⟨?_, ?_, ?_, ?_, ?_, ?_⟩ <;> go_simp)
    clear hg
    have HS : Hid (∀ W : World, Below W0.heap.size W0 W → (W.cell? ⟨w.heap.size, 0, none⟩ = some (.int .i64 m.kind) ∧ W.cell? ⟨w.heap.size, 1, none⟩ = some (.string m.name) ∧ W.cell? ⟨w.heap.size, 2, none⟩ = some (.string m.root) ∧ W.cell? ⟨w.heap.size, 3, none⟩ = some (.slice A1 m.keys.length c1) ∧ W.cell? ⟨w.heap.size, 4, none⟩ = some (.slice A2 m.objs.length c2) ∧ W.cell? ⟨w.heap.size, 5, none⟩ = some (.int .i64 m.err) ∧ Hid (Below W0.heap.size W0 W))) := Lib.hid (fun W hW => by
      have hl := HZ0.out
      obtain ⟨e0, e1, e2, e3, e4, e5⟩ := HC0.out
      exact ⟨(hW.cell (p := ⟨w.heap.size, 0, none⟩) hl).trans e0, (hW.cell (p := ⟨w.heap.size, 1, none⟩) hl).trans e1, (hW.cell (p := ⟨w.heap.size, 2, none⟩) hl).trans e2, (hW.cell (p := ⟨w.heap.size, 3, none⟩) hl).trans e3, (hW.cell (p := ⟨w.heap.size, 4, none⟩) hl).trans e4, (hW.cell (p := ⟨w.heap.size, 5, none⟩) hl).trans e5, Lib.hid hW⟩)
    have hS0 := HS.out _ (Below.refl W0.heap.size W0).drew
    go_region_held3 (fun w' => w'.cell? ⟨w.heap.size, 0, none⟩ = some (.int .i64 m.kind) ∧ w'.cell? ⟨w.heap.size, 1, none⟩ = some (.string m.name) ∧ w'.cell? ⟨w.heap.size, 2, none⟩ = some (.string m.root) ∧ w'.cell? ⟨w.heap.size, 3, none⟩ = some (.slice A1 m.keys.length c1) ∧ w'.cell? ⟨w.heap.size, 4, none⟩ = some (.slice A2 m.objs.length c2) ∧ w'.cell? ⟨w.heap.size, 5, none⟩ = some (.int .i64 m.err) ∧ Hid (Below W0.heap.size W0 w'))
      (first
        | exact hS0
        | assumption
        | (go_split_ands; exact HS.out _ (bel (Hid.out ‹Hid (Below W0.heap.size W0 _)›) ‹_›)))
      (first
        | (go_at_call 17; refine Calls.mono (HBR.out _ ?_) ?_; exact bel HB0.out (Hid.out (by first | assumption | (go_split_ands; assumption))); rintro e w1 ⟨v, rfl, hv, hb1⟩; have HV := Lib.hid hv)
        | (go_at_call 12; refine Calls.mono (HSA.out _ _ ?_ ?_) ?_; exact bel HB0.out (Hid.out (by first | assumption | (go_split_ands; assumption))); (first | exact HV.out | exact HV.out.on (Below.refl _ _).drew | exact HV.out.on (below_drewN (Below.refl _ _) _)); rw [HE.out]; rintro e w2 ⟨rfl, hb2⟩))
    go_split_ands
    have HB2 : Hid (Below w.heap.size w _) := Lib.hid (bel HB0.out (Hid.out ‹Hid (Below W0.heap.size W0 _)›))
    go_wp2_with fail
    go_ret
    exact ⟨by rw [HF.out]; rfl, HB2.out⟩
  | true =>
    have HE := Lib.hid heq
    have HF : Hid (b = docL m) := Lib.hid (by rw [← HB.out, heq]; rfl)
    clear heq
    go_enter Tryd.func8, Tryd.ntmps8
    go_wp2_with fail
    have HSTART : Hid (∃ W0 : World, W0 = w.alloc (.cells #[.int .i64 m.kind, .string m.name, .string m.root, .slice A1 m.keys.length c1, .slice A2 m.objs.length c2, .int .i64 m.err] 26)) := Lib.hid ⟨_, rfl⟩
    obtain ⟨W0, hg⟩ := HSTART.out
    rw [← hg]
    have HB0 : Hid (Below w.heap.size w W0) := Lib.hid (by rw [hg]; exact HX.out)
    have HZ0 : Hid (w.heap.size < W0.heap.size) := Lib.hid (by rw [hg]; simp)
    have HC0 : Hid (W0.cell? ⟨w.heap.size, 0, none⟩ = some (.int .i64 m.kind) ∧ W0.cell? ⟨w.heap.size, 1, none⟩ = some (.string m.name) ∧ W0.cell? ⟨w.heap.size, 2, none⟩ = some (.string m.root) ∧ W0.cell? ⟨w.heap.size, 3, none⟩ = some (.slice A1 m.keys.length c1) ∧ W0.cell? ⟨w.heap.size, 4, none⟩ = some (.slice A2 m.objs.length c2) ∧ W0.cell? ⟨w.heap.size, 5, none⟩ = some (.int .i64 m.err)) := Lib.hid (by rw [hg]; refine ⟨?_, ?_, ?_, ?_, ?_, ?_⟩ <;> go_simp)
    clear hg
    have HS : Hid (∀ W : World, Below W0.heap.size W0 W → (W.cell? ⟨w.heap.size, 0, none⟩ = some (.int .i64 m.kind) ∧ W.cell? ⟨w.heap.size, 1, none⟩ = some (.string m.name) ∧ W.cell? ⟨w.heap.size, 2, none⟩ = some (.string m.root) ∧ W.cell? ⟨w.heap.size, 3, none⟩ = some (.slice A1 m.keys.length c1) ∧ W.cell? ⟨w.heap.size, 4, none⟩ = some (.slice A2 m.objs.length c2) ∧ W.cell? ⟨w.heap.size, 5, none⟩ = some (.int .i64 m.err) ∧ Hid (Below W0.heap.size W0 W))) := Lib.hid (fun W hW => by
      have hl := HZ0.out
      obtain ⟨e0, e1, e2, e3, e4, e5⟩ := HC0.out
      exact ⟨(hW.cell (p := ⟨w.heap.size, 0, none⟩) hl).trans e0, (hW.cell (p := ⟨w.heap.size, 1, none⟩) hl).trans e1, (hW.cell (p := ⟨w.heap.size, 2, none⟩) hl).trans e2, (hW.cell (p := ⟨w.heap.size, 3, none⟩) hl).trans e3, (hW.cell (p := ⟨w.heap.size, 4, none⟩) hl).trans e4, (hW.cell (p := ⟨w.heap.size, 5, none⟩) hl).trans e5, Lib.hid hW⟩)
    have hS0 := HS.out _ (Below.refl W0.heap.size W0).drew
    go_region_held3 (fun w' => w'.cell? ⟨w.heap.size, 0, none⟩ = some (.int .i64 m.kind) ∧ w'.cell? ⟨w.heap.size, 1, none⟩ = some (.string m.name) ∧ w'.cell? ⟨w.heap.size, 2, none⟩ = some (.string m.root) ∧ w'.cell? ⟨w.heap.size, 3, none⟩ = some (.slice A1 m.keys.length c1) ∧ w'.cell? ⟨w.heap.size, 4, none⟩ = some (.slice A2 m.objs.length c2) ∧ w'.cell? ⟨w.heap.size, 5, none⟩ = some (.int .i64 m.err) ∧ Hid (Below W0.heap.size W0 w'))
      (first
        | exact hS0
        | assumption
        | (go_split_ands; exact HS.out _ (bel (Hid.out ‹Hid (Below W0.heap.size W0 _)›) ‹_›)))
      (first
        | (go_at_call 17; refine Calls.mono (HBR.out _ ?_) ?_; exact bel HB0.out (Hid.out (by first | assumption | (go_split_ands; assumption))); rintro e w1 ⟨v, rfl, hv, hb1⟩; have HV := Lib.hid hv)
        | (go_at_call 12; refine Calls.mono (HSA.out _ _ ?_ ?_) ?_; exact bel HB0.out (Hid.out (by first | assumption | (go_split_ands; assumption))); (first | exact HV.out | exact HV.out.on (Below.refl _ _).drew | exact HV.out.on (below_drewN (Below.refl _ _) _)); rw [HE.out]; rintro e w2 ⟨rfl, hb2⟩))
    go_split_ands
    have HB2 : Hid (Below w.heap.size w _) := Lib.hid (bel HB0.out (Hid.out ‹Hid (Below W0.heap.size W0 _)›))
    by_cases k1 : m.kind = 1
    case pos =>
      have d1 : (m.kind == 1) = true := beq_iff_eq.2 k1
      have HR := Lib.hid (show docL m = (nameB m.name && !badK m.root) by unfold docL; rw [if_pos k1])
      clear k1
      cases hnb : nameB m.name with
      | false =>
        have HNB := Lib.hid hnb
        have HF2 : Hid (b = false) := Lib.hid (by rw [HF.out, HR.out, hnb]; rfl)
        clear hnb
        go_wp2_with (go_at_call 18; refine (rname_any _ _ HN.out).mono ?_; rw [HNB.out]; rintro e w3 ⟨rfl, rfl⟩)
        go_ret
        exact ⟨by rw [HF2.out]; rfl, HB2.out⟩
      | true =>
        have HNB := Lib.hid hnb
        by_cases hr : m.root.size = 32
        · have e1 : ((m.root.size : Int) == 32) = true := by rw [beq_iff_eq]; omega
          have HF2 : Hid (b = true) := Lib.hid (by rw [HF.out, HR.out, hnb]; unfold badK; rw [decide_eq_false (fun h => h hr)]; rfl)
          clear hnb hr
          go_wp2_with (go_at_call 18; refine (rname_any _ _ HN.out).mono ?_; rw [HNB.out]; rintro e w3 ⟨rfl, rfl⟩)
          go_ret
          exact ⟨by rw [HF2.out]; rfl, HB2.out⟩
        · have e1 : ((m.root.size : Int) == 32) = false := by rw [beq_eq_false_iff_ne]; omega
          have HF2 : Hid (b = false) := Lib.hid (by rw [HF.out, HR.out, hnb]; unfold badK; rw [decide_eq_true hr]; rfl)
          clear hnb hr
          go_wp2_with (go_at_call 18; refine (rname_any _ _ HN.out).mono ?_; rw [HNB.out]; rintro e w3 ⟨rfl, rfl⟩)
          go_ret
          exact ⟨by rw [HF2.out]; rfl, HB2.out⟩
    have d1 : (m.kind == 1) = false := beq_eq_false_iff_ne.2 k1
    have K1 := Lib.hid k1
    clear k1
    by_cases k2 : m.kind = 2
    case pos =>
      have d2 : (m.kind == 2) = true := beq_iff_eq.2 k2
      have HR := Lib.hid (show docL m = (!m.keys.any badK && sevB m.keys.length) by unfold docL; rw [if_neg K1.out, if_pos k2])
      clear k2
      go_wp2_with fail
      go_loop [3] (fun iv => ∃ k : Nat, iv = .int .i64 k ∧ k ≤ m.keys.length ∧ Hid (∀ y ∈ m.keys.take k, badK y = false)) (fun iv => m.keys.length + 1 - (intOf iv).toNat)
      case atStart => exact ⟨0, rfl, Nat.zero_le _, Lib.hid (fun y hy => by cases hy)⟩
      case round =>
        obtain ⟨k, rfl, hk, hE⟩ := hrel
        by_cases hlt : k < m.keys.length
        · obtain ⟨x, hx⟩ : ∃ x, m.keys[k]? = some x := ⟨m.keys[k], List.getElem?_eq_getElem hlt⟩
          obtain ⟨b1, o1, rfl, hb1', q0⟩ := row_key HR1.out hx
          have s0 := (HB2.out.cell (p := ⟨b1, o1 + k, none⟩) hb1').trans q0
          have i1 : (k : Int) < (m.keys.length : Int) := by omega
          have i0 : (0 : Int) ≤ (k : Int) := by omega
          have HX := Lib.hid hx
          clear hx q0
          by_cases hs : x.size = 32
          · have e1 : ((x.size : Int) == 32) = true := by rw [beq_iff_eq]; omega
            have e2 : ((x.size : Int) != 32) = false := by rw [bne, e1]; rfl
            have HBD : Hid (badK x = false) := Lib.hid (by unfold badK; exact decide_eq_false (fun h => h hs))
            clear hs
            go_wp2_with fail
            go_round
            case rel => exact ⟨k + 1, by go_num, by omega, Lib.hid (any_take hE.out HX.out HBD.out)⟩
            case measure => simp [intOf]; omega
          · have e1 : ((x.size : Int) == 32) = false := by rw [beq_eq_false_iff_ne]; omega
            have e2 : ((x.size : Int) != 32) = true := by rw [bne, e1]; rfl
            have HBD : Hid (badK x = true) := Lib.hid (by unfold badK; exact decide_eq_true hs)
            clear hs
            go_wp2_with fail
            go_ret
            exact ⟨by rw [HF.out, HR.out, any_some HX.out HBD.out]; rfl, HB2.out⟩
        · have HKK : Hid (m.keys.any badK = false) := Lib.hid (any_none hE.out (by omega))
          have hge : (m.keys.length : Int) ≤ (k : Int) := by omega
          by_cases g1 : 1 ≤ m.keys.length
          · have c1' : decide (1 ≤ (m.keys.length : Int)) = true := decide_eq_true (by omega)
            have c2' : decide (1 ≤ m.keys.length) = true := decide_eq_true g1
            by_cases g2 : m.keys.length ≤ 4
            · have c3' : decide ((m.keys.length : Int) ≤ 4) = true := decide_eq_true (by omega)
              have c4' : decide (m.keys.length ≤ 4) = true := decide_eq_true g2
              have HF2 : Hid (b = true) := Lib.hid (by rw [HF.out, HR.out, HKK.out]; unfold sevB; rw [decide_eq_true ⟨g1, g2⟩]; rfl)
              go_wp2_with fail
              go_ret
              exact ⟨by rw [HF2.out]; rfl, HB2.out⟩
            · have c3' : decide ((m.keys.length : Int) ≤ 4) = false := decide_eq_false (by omega)
              have c4' : decide (m.keys.length ≤ 4) = false := decide_eq_false g2
              have HF2 : Hid (b = false) := Lib.hid (by rw [HF.out, HR.out, HKK.out]; unfold sevB; rw [decide_eq_false (fun h => g2 h.2)]; rfl)
              go_wp2_with fail
              go_ret
              exact ⟨by rw [HF2.out]; rfl, HB2.out⟩
          · have c1' : decide (1 ≤ (m.keys.length : Int)) = false := decide_eq_false (by omega)
            have c2' : decide (1 ≤ m.keys.length) = false := decide_eq_false g1
            have HF2 : Hid (b = false) := Lib.hid (by rw [HF.out, HR.out, HKK.out]; unfold sevB; rw [decide_eq_false (fun h => g1 h.1)]; rfl)
            go_wp2_with fail
            go_ret
            exact ⟨by rw [HF2.out]; rfl, HB2.out⟩
    have d2 : (m.kind == 2) = false := beq_eq_false_iff_ne.2 k2
    have K2 := Lib.hid k2
    clear k2
    by_cases k3 : m.kind = 3
    case pos =>
      have d3 : (m.kind == 3) = true := beq_iff_eq.2 k3
      have HR := Lib.hid (show docL m = (!m.objs.any badO && sevB m.objs.length) by unfold docL; rw [if_neg K1.out, if_neg K2.out, if_pos k3])
      clear k3
      go_wp2_with fail
      go_loop [4] (fun iv => ∃ k : Nat, iv = .int .i64 k ∧ k ≤ m.objs.length ∧ Hid (∀ y ∈ m.objs.take k, badO y = false)) (fun iv => m.objs.length + 1 - (intOf iv).toNat)
      case atStart => exact ⟨0, rfl, Nat.zero_le _, Lib.hid (fun y hy => by cases hy)⟩
      case round =>
        obtain ⟨k, rfl, hk, hE⟩ := hrel
        by_cases hlt : k < m.objs.length
        · obtain ⟨x, hx⟩ : ∃ x, m.objs[k]? = some x := ⟨m.objs[k], List.getElem?_eq_getElem hlt⟩
          obtain ⟨b1, o1, rfl, hb1', q0, q1⟩ := row_obj HR2.out hx
          obtain ⟨x1, x2⟩ := x
          have s0 := (HB2.out.cell (p := ⟨b1, o1 + k * 2, none⟩) hb1').trans q0
          have s1 := (HB2.out.cell (p := ⟨b1, o1 + k * 2 + 1, none⟩) hb1').trans q1
          have i1 : (k : Int) < (m.objs.length : Int) := by omega
          have i0 : (0 : Int) ≤ (k : Int) := by omega
          have HX := Lib.hid hx
          dsimp only at s0 s1
          clear hx q0 q1
          by_cases hs : x1.size = 32
          · have e1 : ((x1.size : Int) == 32) = true := by rw [beq_iff_eq]; omega
            have e2 : ((x1.size : Int) != 32) = false := by rw [bne, e1]; rfl
            by_cases hs2 : 40000 < x2.size
            · have e3 : decide (40000 < (x2.size : Int)) = true := decide_eq_true (by omega)
              have e4 : decide (40000 < x2.size) = true := decide_eq_true hs2
              have HBD : Hid (badO (x1, x2) = true) := Lib.hid (by unfold badO; exact decide_eq_true (.inr hs2))
              clear hs hs2
              go_wp2_with fail
              go_ret
              exact ⟨by rw [HF.out, HR.out, any_some HX.out HBD.out]; rfl, HB2.out⟩
            · have e3 : decide (40000 < (x2.size : Int)) = false := decide_eq_false (by omega)
              have e4 : decide (40000 < x2.size) = false := decide_eq_false hs2
              have HBD : Hid (badO (x1, x2) = false) := Lib.hid (by unfold badO; exact decide_eq_false (fun h => by rcases h with h | h; exact h hs; exact hs2 h))
              clear hs hs2
              go_wp2_with fail
              go_round
              case rel => exact ⟨k + 1, by go_num, by omega, Lib.hid (any_take hE.out HX.out HBD.out)⟩
              case measure => simp [intOf]; omega
          · have e1 : ((x1.size : Int) == 32) = false := by rw [beq_eq_false_iff_ne]; omega
            have e2 : ((x1.size : Int) != 32) = true := by rw [bne, e1]; rfl
            have HBD : Hid (badO (x1, x2) = true) := Lib.hid (by unfold badO; exact decide_eq_true (.inl hs))
            clear hs
            go_wp2_with fail
            go_ret
            exact ⟨by rw [HF.out, HR.out, any_some HX.out HBD.out]; rfl, HB2.out⟩
        · have HKK : Hid (m.objs.any badO = false) := Lib.hid (any_none hE.out (by omega))
          have hge : (m.objs.length : Int) ≤ (k : Int) := by omega
          by_cases g1 : 1 ≤ m.objs.length
          · have c1' : decide (1 ≤ (m.objs.length : Int)) = true := decide_eq_true (by omega)
            have c2' : decide (1 ≤ m.objs.length) = true := decide_eq_true g1
            by_cases g2 : m.objs.length ≤ 4
            · have c3' : decide ((m.objs.length : Int) ≤ 4) = true := decide_eq_true (by omega)
              have c4' : decide (m.objs.length ≤ 4) = true := decide_eq_true g2
              have HF2 : Hid (b = true) := Lib.hid (by rw [HF.out, HR.out, HKK.out]; unfold sevB; rw [decide_eq_true ⟨g1, g2⟩]; rfl)
              go_wp2_with fail
              go_ret
              exact ⟨by rw [HF2.out]; rfl, HB2.out⟩
            · have c3' : decide ((m.objs.length : Int) ≤ 4) = false := decide_eq_false (by omega)
              have c4' : decide (m.objs.length ≤ 4) = false := decide_eq_false g2
              have HF2 : Hid (b = false) := Lib.hid (by rw [HF.out, HR.out, HKK.out]; unfold sevB; rw [decide_eq_false (fun h => g2 h.2)]; rfl)
              go_wp2_with fail
              go_ret
              exact ⟨by rw [HF2.out]; rfl, HB2.out⟩
          · have c1' : decide (1 ≤ (m.objs.length : Int)) = false := decide_eq_false (by omega)
            have c2' : decide (1 ≤ m.objs.length) = false := decide_eq_false g1
            have HF2 : Hid (b = false) := Lib.hid (by rw [HF.out, HR.out, HKK.out]; unfold sevB; rw [decide_eq_false (fun h => g1 h.1)]; rfl)
            go_wp2_with fail
            go_ret
            exact ⟨by rw [HF2.out]; rfl, HB2.out⟩
    have d3 : (m.kind == 3) = false := beq_eq_false_iff_ne.2 k3
    have K3 := Lib.hid k3
    clear k3
    have HR := Lib.hid (show docL m = decide (m.kind = 4 ∧ 0 ≤ m.err ∧ m.err ≤ 19) by unfold docL; rw [if_neg K1.out, if_neg K2.out, if_neg K3.out])
    by_cases k4 : m.kind = 4
    case neg =>
      have d4 : (m.kind == 4) = false := beq_eq_false_iff_ne.2 k4
      have HF2 : Hid (b = false) := Lib.hid (by rw [HF.out, HR.out, decide_eq_false (fun h => k4 h.1)])
      clear k4
      go_wp2_with fail
      go_ret
      exact ⟨by rw [HF2.out]; rfl, HB2.out⟩
    have d4 : (m.kind == 4) = true := beq_iff_eq.2 k4
    have K4 := Lib.hid k4
    clear k4
    by_cases h0 : 0 ≤ m.err
    case neg =>
      have q0 : decide (0 ≤ m.err) = false := decide_eq_false h0
      have HF2 : Hid (b = false) := Lib.hid (by rw [HF.out, HR.out, decide_eq_false (fun h => h0 h.2.1)])
      clear h0
      go_wp2_with fail
      go_ret
      exact ⟨by rw [HF2.out]; rfl, HB2.out⟩
    have q0 : decide (0 ≤ m.err) = true := decide_eq_true h0
    by_cases h1 : m.err ≤ 19
    case neg =>
      have q1 : decide (m.err ≤ 19) = false := decide_eq_false h1
      have HF2 : Hid (b = false) := Lib.hid (by rw [HF.out, HR.out, decide_eq_false (fun h => h1 h.2.2)])
      clear h0 h1
      go_wp2_with fail
      go_ret
      exact ⟨by rw [HF2.out]; rfl, HB2.out⟩
    have q1 : decide (m.err ≤ 19) = true := decide_eq_true h1
    have HF2 : Hid (b = true) := Lib.hid (by rw [HF.out, HR.out, decide_eq_true ⟨K4.out, h0, h1⟩])
    clear h0 h1
    go_wp2_with fail
    go_ret
    exact ⟨by rw [HF2.out]; rfl, HB2.out⟩

end Go.Proofs.YthlajcohbpjgkaaDoor
