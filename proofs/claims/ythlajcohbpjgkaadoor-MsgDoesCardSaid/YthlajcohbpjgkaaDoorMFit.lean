/-
  The program's Fit. (Printed by genfitp.py.)
-/
import Derived.Test.YthlajcohbpjgkaaDoorMIda
import Derived.Test.YthlajcohbpjgkaaDoorMCnt
import Derived.Test.YthlajcohbpjgkaaDoorMSmp
namespace Go.Proofs.YthlajcohbpjgkaaDoor
open Go.RowKit Go.Shelf Go.Proofs.Mem
set_option linter.unusedVariables false

theorem bcell {W w1 : World} (hb : Below W.heap.size W w1) : (∀ b o, b < W.heap.size → w1.cell? ⟨b, o, none⟩ = W.cell? ⟨b, o, none⟩) ∧ (∀ b o, b < W.heap.size → w1.frozen? ⟨b, o, none⟩ = W.frozen? ⟨b, o, none⟩) :=
  ⟨fun b o h => hb.cell (p := ⟨b, o, none⟩) h, fun b o h => hb.frozen (p := ⟨b, o, none⟩) h⟩
def bodyL (m : MsgL) : Bool :=
  if m.kind = 1 then nameB m.name && !badK m.root
  else if m.kind = 2 then sevB m.keys.length && !m.keys.any badK
  else if m.kind = 3 then sevB m.objs.length && !m.objs.any badO
  else decide (m.kind = 4 ∧ 0 ≤ m.err ∧ m.err ≤ 19)
/-- What is left of a message without what its kind has. -/
def restL (m : MsgL) : MsgL :=
  if m.kind = 1 then ⟨m.kind, ⟨#[]⟩, ⟨#[]⟩, m.keys, m.objs, m.err⟩
  else if m.kind = 2 then ⟨m.kind, m.name, m.root, [], m.objs, m.err⟩
  else if m.kind = 3 then ⟨m.kind, m.name, m.root, m.keys, [], m.err⟩
  else if m.kind = 4 then ⟨m.kind, m.name, m.root, m.keys, m.objs, 0⟩
  else m
def kindL (k : Int) : MsgL := ⟨k, ⟨#[]⟩, ⟨#[]⟩, [], [], 0⟩
theorem all_badK (l : List ByteArray) : (l.all fun k => decide (k.size = 32)) = !l.any badK := by
  induction l with
  | nil => rfl
  | cons x l ih =>
    rw [List.all_cons, List.any_cons, Bool.not_or, ih]
    congr 1
    unfold badK
    by_cases h : x.size = 32
    · rw [decide_eq_true h, decide_eq_false (fun h' => h' h)]; rfl
    · rw [decide_eq_false h, decide_eq_true h]; rfl
theorem all_badO (l : List ObjL) : (l.all fun x => decide (x.1.size = 32 ∧ x.2.size ≤ 40000)) = !l.any badO := by
  induction l with
  | nil => rfl
  | cons x l ih =>
    rw [List.all_cons, List.any_cons, Bool.not_or, ih]
    congr 1
    unfold badO
    by_cases h : x.1.size = 32 ∧ x.2.size ≤ 40000
    · rw [decide_eq_true h, decide_eq_false (by rintro (h' | h'); exact h' h.1; have := h.2; omega)]; rfl
    · rw [decide_eq_false h, decide_eq_true (by
        by_cases h1 : x.1.size = 32
        · exact .inr (by
            rcases Nat.lt_or_ge 40000 x.2.size with h2 | h2
            · exact h2
            · exact absurd ⟨h1, h2⟩ h)
        · exact .inl h1)]; rfl
theorem fit_body (m : MsgL) : fitL m = (bodyL m && decide (restL m = kindL m.kind)) := by
  obtain ⟨k, n, r, ks, os, e⟩ := m
  unfold fitL bodyL restL bareL kindL
  dsimp only
  by_cases h1 : k = 1
  · subst h1
    rw [if_pos rfl, if_pos rfl, if_pos rfl, if_pos rfl, Bool.and_comm]
    congr 1
    · unfold badK
      congr 1
      by_cases h : r.size = 32
      · rw [decide_eq_true h, decide_eq_false (fun h' => h' h)]; rfl
      · rw [decide_eq_false h, decide_eq_true h]; rfl
    · rw [decide_eq_decide]; simp
  · rw [if_neg h1, if_neg h1, if_neg h1, if_neg h1]
    by_cases h2 : k = 2
    · subst h2
      rw [if_pos rfl, if_pos rfl, if_pos rfl, if_pos rfl, Bool.and_comm, all_badK, Bool.and_comm (!_)]
      congr 1
      rw [decide_eq_decide]; simp
    · rw [if_neg h2, if_neg h2, if_neg h2, if_neg h2]
      by_cases h3 : k = 3
      · subst h3
        rw [if_pos rfl, if_pos rfl, if_pos rfl, if_pos rfl, Bool.and_comm, all_badO, Bool.and_comm (!_)]
        congr 1
        rw [decide_eq_decide]; simp
      · rw [if_neg h3, if_neg h3, if_neg h3, if_neg h3, Bool.and_comm]
        by_cases h4 : k = 4
        · rw [if_pos h4]
          congr 1
          rw [decide_eq_decide]; simp
        · rw [if_neg h4, decide_eq_false (fun h => h4 h.1)]
          rfl

set_option maxRecDepth 100000 in
set_option maxHeartbeats 2000000 in
theorem mfit_any (u : Value) (m : MsgL) (w : World) (b : Bool) (hb : fitL m = b) (hm : MsgV w w.heap.size u m) (hn : m.name.size ≤ maxLen) :
    Calls Tryd.prog 14 #[u] w fun e w' => e = .returned (.bool b) ∧ Below w.heap.size w w' := by
  obtain ⟨ks, os, rfl, hk, ho⟩ := hm
  have HK := Lib.hid hk
  have HO := Lib.hid ho
  obtain ⟨A1, c1, rfl, a1, b1, r1⟩ := hk
  obtain ⟨A2, c2, rfl, a2, b2, r2⟩ := ho
  have hz1 : m.keys.length ≤ 9223372036854775807 := by unfold maxLen at b1; omega
  have hz2 : m.objs.length ≤ 9223372036854775807 := by unfold maxLen at b2; omega
  clear r1 r2 a1 b1 a2 b2
  rw [fit_body] at hb
  have HB := Lib.hid hb
  have HN := Lib.hid hn
  clear hb hn
  unfold msgA

  by_cases k1 : m.kind = 1
  case pos =>
    have d1 : (m.kind == 1) = true := beq_iff_eq.2 k1
    have HR := Lib.hid (show bodyL m = (nameB m.name && !badK m.root) by unfold bodyL; rw [if_pos k1])
    have HS := Lib.hid (fun W (hW : Below w.heap.size w W) => msm_any (msgA ⟨m.kind, ⟨#[]⟩, ⟨#[]⟩, m.keys, m.objs, m.err⟩ (.slice A1 m.keys.length c1) (.slice A2 m.objs.length c2)) (msgA (kindL m.kind) (.slice none 0 0) (.slice none 0 0)) ⟨m.kind, ⟨#[]⟩, ⟨#[]⟩, m.keys, m.objs, m.err⟩ (kindL m.kind) W ⟨_, _, rfl, HK.out.on hW, HO.out.on hW⟩ ⟨_, _, rfl, Strs.none_, Objs.nil⟩)
    have HQ := Lib.hid (show restL m = ⟨m.kind, ⟨#[]⟩, ⟨#[]⟩, m.keys, m.objs, m.err⟩ by unfold restL; rw [if_pos k1])
    clear k1
    cases hnb : nameB m.name with
    | false =>
      have HNB := Lib.hid hnb
      have HF : Hid (b = false) := Lib.hid (by rw [← HB.out, HR.out, hnb]; rfl)
      clear hnb
      go_enter Tryd.func14, Tryd.ntmps14
      go_wp2_with ((go_at_call 31; refine (pname_any _ _ _ HNB.out HN.out).mono ?_; rintro e w1 ⟨rfl, hb1⟩; have HB1 : Hid (Below w.heap.size w w1) := Lib.hid (bel (by go_grown) hb1); obtain ⟨hc, hf⟩ := bcell hb1; have hz : w.heap.size + 1 < w1.heap.size := (by have := hb1.size; simp at this; omega); clear hb1))
      go_ret
      exact ⟨by rw [HF.out]; rfl, (by first | exact HB1.out | (refine Below.setCell ?_ (by dsimp only; omega) _; exact HB1.out) | (refine Below.setCell ?_ (by dsimp only; omega) _; refine Below.setCell ?_ (by dsimp only; omega) _; exact HB1.out))⟩
    | true =>
      have HNB := Lib.hid hnb
      cases hrb : badK m.root with
      | true =>
        have HRB := Lib.hid hrb
        have HF : Hid (b = false) := Lib.hid (by rw [← HB.out, HR.out, hnb, hrb]; rfl)
        clear hnb hrb
        go_enter Tryd.func14, Tryd.ntmps14
        go_wp2_with (first
          | (go_at_call 31; refine (pname_any _ _ _ HNB.out HN.out).mono ?_; rintro e w1 ⟨rfl, hb1⟩; have HB1 : Hid (Below w.heap.size w w1) := Lib.hid (bel (by go_grown) hb1); obtain ⟨hc, hf⟩ := bcell hb1; have hz : w.heap.size + 1 < w1.heap.size := (by have := hb1.size; simp at this; omega); clear hb1)
          | (go_at_call 32; refine (badk_any _ _ _ HRB.out).mono ?_; rintro e w2 ⟨rfl, rfl⟩))
        go_ret
        exact ⟨by rw [HF.out]; rfl, (by first | exact HB1.out | (refine Below.setCell ?_ (by dsimp only; omega) _; exact HB1.out) | (refine Below.setCell ?_ (by dsimp only; omega) _; refine Below.setCell ?_ (by dsimp only; omega) _; exact HB1.out))⟩
      | false =>
        have HRB := Lib.hid hrb
        have HF : Hid (b = decide (restL m = kindL m.kind)) := Lib.hid (by rw [← HB.out, HR.out, hnb, hrb]; rfl)
        clear hnb hrb
        go_enter Tryd.func14, Tryd.ntmps14
        go_wp2_with (first
          | (go_at_call 31; refine (pname_any _ _ _ HNB.out HN.out).mono ?_; rintro e w1 ⟨rfl, hb1⟩; have HB1 : Hid (Below w.heap.size w w1) := Lib.hid (bel (by go_grown) hb1); obtain ⟨hc, hf⟩ := bcell hb1; have hz : w.heap.size + 1 < w1.heap.size := (by have := hb1.size; simp at this; omega); clear hb1)
          | (go_at_call 32; refine (badk_any _ _ _ HRB.out).mono ?_; rintro e w2 ⟨rfl, rfl⟩)
          | (go_at_call 15; refine Calls.mono (HS.out _ ?_) ?_; (refine Below.setCell ?_ (by dsimp only; omega) _; refine Below.setCell ?_ (by dsimp only; omega) _; exact HB1.out); rintro e w3 ⟨rfl, hb3⟩; have HB3 : Hid (Below w.heap.size w w3) := Lib.hid (bel (by first | exact HB1.out | (refine Below.setCell ?_ (by dsimp only; omega) _; exact HB1.out) | (refine Below.setCell ?_ (by dsimp only; omega) _; refine Below.setCell ?_ (by dsimp only; omega) _; exact HB1.out)) hb3); clear hb3))
        go_ret
        exact ⟨by rw [HF.out, HQ.out]; rfl, HB3.out⟩
  have d1 : (m.kind == 1) = false := beq_eq_false_iff_ne.2 k1
  have K1 := Lib.hid k1
  clear k1

  by_cases k2 : m.kind = 2
  case pos =>
    have d2 : (m.kind == 2) = true := beq_iff_eq.2 k2
    have HR := Lib.hid (show bodyL m = (sevB m.keys.length && !m.keys.any badK) by unfold bodyL; rw [if_neg K1.out, if_pos k2])
    have HS := Lib.hid (fun W (hW : Below w.heap.size w W) => msm_any (msgA ⟨m.kind, m.name, m.root, [], m.objs, m.err⟩ (.slice none 0 0) (.slice A2 m.objs.length c2)) (msgA (kindL m.kind) (.slice none 0 0) (.slice none 0 0)) ⟨m.kind, m.name, m.root, [], m.objs, m.err⟩ (kindL m.kind) W ⟨_, _, rfl, Strs.none_, HO.out.on hW⟩ ⟨_, _, rfl, Strs.none_, Objs.nil⟩)
    have HQ := Lib.hid (show restL m = ⟨m.kind, m.name, m.root, [], m.objs, m.err⟩ by unfold restL; rw [if_neg K1.out, if_pos k2])
    clear k2
    cases hsv : sevB m.keys.length with
    | false =>
      have HSV := Lib.hid hsv
      have HF : Hid (b = false) := Lib.hid (by rw [← HB.out, HR.out, hsv]; rfl)
      clear hsv
      go_enter Tryd.func14, Tryd.ntmps14
      go_wp2_with (go_at_call 33; refine (sev_any _ _ _ HSV.out (by first | exact hz1 | exact hz2)).mono ?_; rintro e w4 ⟨rfl, rfl⟩)
      go_ret
      exact ⟨by rw [HF.out]; rfl, (by first | exact HB1.out | (refine Below.setCell ?_ (by dsimp only; omega) _; exact HB1.out) | go_grown)⟩
    | true =>
      have HSV := Lib.hid hsv
      cases hab : m.keys.any badK with
      | true =>
        have HAB := Lib.hid hab
        have HF : Hid (b = false) := Lib.hid (by rw [← HB.out, HR.out, hsv, hab]; rfl)
        clear hsv hab
        go_enter Tryd.func14, Tryd.ntmps14
        go_wp2_with (first
          | (go_at_call 33; refine (sev_any _ _ _ HSV.out (by first | exact hz1 | exact hz2)).mono ?_; rintro e w4 ⟨rfl, rfl⟩)
          | (go_at_call 34; refine (cfk_any _ _ _ _ HAB.out (HK.out.on ?_)).mono ?_; go_grown; rintro e w5 ⟨rfl, hw5⟩; subst hw5))
        go_ret
        exact ⟨by rw [HF.out]; rfl, (by first | exact HB1.out | (refine Below.setCell ?_ (by dsimp only; omega) _; exact HB1.out) | go_grown)⟩
      | false =>
        have HAB := Lib.hid hab
        have HF : Hid (b = decide (restL m = kindL m.kind)) := Lib.hid (by rw [← HB.out, HR.out, hsv, hab]; rfl)
        clear hsv hab
        go_enter Tryd.func14, Tryd.ntmps14
        go_wp2_with (first
          | (go_at_call 33; refine (sev_any _ _ _ HSV.out (by first | exact hz1 | exact hz2)).mono ?_; rintro e w4 ⟨rfl, rfl⟩)
          | (go_at_call 34; refine (cfk_any _ _ _ _ HAB.out (HK.out.on ?_)).mono ?_; go_grown; rintro e w5 ⟨rfl, hw5⟩; subst hw5)
          | (go_at_call 15; refine Calls.mono (HS.out _ ?_) ?_; (first | exact HB1.out | (refine Below.setCell ?_ (by dsimp only; omega) _; exact HB1.out) | go_grown); rintro e w3 ⟨rfl, hb3⟩; have HB3 : Hid (Below w.heap.size w w3) := Lib.hid (bel (by first | exact HB1.out | (refine Below.setCell ?_ (by dsimp only; omega) _; exact HB1.out) | go_grown) hb3); clear hb3))
        go_ret
        exact ⟨by rw [HF.out, HQ.out]; rfl, HB3.out⟩
  have d2 : (m.kind == 2) = false := beq_eq_false_iff_ne.2 k2
  have K2 := Lib.hid k2
  clear k2

  by_cases k3 : m.kind = 3
  case pos =>
    have d3 : (m.kind == 3) = true := beq_iff_eq.2 k3
    have HR := Lib.hid (show bodyL m = (sevB m.objs.length && !m.objs.any badO) by unfold bodyL; rw [if_neg K1.out, if_neg K2.out, if_pos k3])
    have HS := Lib.hid (fun W (hW : Below w.heap.size w W) => msm_any (msgA ⟨m.kind, m.name, m.root, m.keys, [], m.err⟩ (.slice A1 m.keys.length c1) (.slice none 0 0)) (msgA (kindL m.kind) (.slice none 0 0) (.slice none 0 0)) ⟨m.kind, m.name, m.root, m.keys, [], m.err⟩ (kindL m.kind) W ⟨_, _, rfl, HK.out.on hW, Objs.nil⟩ ⟨_, _, rfl, Strs.none_, Objs.nil⟩)
    have HQ := Lib.hid (show restL m = ⟨m.kind, m.name, m.root, m.keys, [], m.err⟩ by unfold restL; rw [if_neg K1.out, if_neg K2.out, if_pos k3])
    clear k3
    cases hsv : sevB m.objs.length with
    | false =>
      have HSV := Lib.hid hsv
      have HF : Hid (b = false) := Lib.hid (by rw [← HB.out, HR.out, hsv]; rfl)
      clear hsv
      go_enter Tryd.func14, Tryd.ntmps14
      go_wp2_with (go_at_call 33; refine (sev_any _ _ _ HSV.out (by first | exact hz1 | exact hz2)).mono ?_; rintro e w4 ⟨rfl, rfl⟩)
      go_ret
      exact ⟨by rw [HF.out]; rfl, (by first | exact HB1.out | (refine Below.setCell ?_ (by dsimp only; omega) _; exact HB1.out) | go_grown)⟩
    | true =>
      have HSV := Lib.hid hsv
      cases hab : m.objs.any badO with
      | true =>
        have HAB := Lib.hid hab
        have HF : Hid (b = false) := Lib.hid (by rw [← HB.out, HR.out, hsv, hab]; rfl)
        clear hsv hab
        go_enter Tryd.func14, Tryd.ntmps14
        go_wp2_with (first
          | (go_at_call 33; refine (sev_any _ _ _ HSV.out (by first | exact hz1 | exact hz2)).mono ?_; rintro e w4 ⟨rfl, rfl⟩)
          | (go_at_call 35; refine (cfo_any _ _ _ _ HAB.out (HO.out.on ?_)).mono ?_; go_grown; rintro e w1 ⟨rfl, hb1⟩; have HB1 : Hid (Below w.heap.size w w1) := Lib.hid (bel (by go_grown) hb1); obtain ⟨hc, hf⟩ := bcell hb1; have hz : w.heap.size + 1 < w1.heap.size := (by have := hb1.size; simp at this; omega); clear hb1))
        go_ret
        exact ⟨by rw [HF.out]; rfl, (by first | exact HB1.out | (refine Below.setCell ?_ (by dsimp only; omega) _; exact HB1.out) | go_grown)⟩
      | false =>
        have HAB := Lib.hid hab
        have HF : Hid (b = decide (restL m = kindL m.kind)) := Lib.hid (by rw [← HB.out, HR.out, hsv, hab]; rfl)
        clear hsv hab
        go_enter Tryd.func14, Tryd.ntmps14
        go_wp2_with (first
          | (go_at_call 33; refine (sev_any _ _ _ HSV.out (by first | exact hz1 | exact hz2)).mono ?_; rintro e w4 ⟨rfl, rfl⟩)
          | (go_at_call 35; refine (cfo_any _ _ _ _ HAB.out (HO.out.on ?_)).mono ?_; go_grown; rintro e w1 ⟨rfl, hb1⟩; have HB1 : Hid (Below w.heap.size w w1) := Lib.hid (bel (by go_grown) hb1); obtain ⟨hc, hf⟩ := bcell hb1; have hz : w.heap.size + 1 < w1.heap.size := (by have := hb1.size; simp at this; omega); clear hb1)
          | (go_at_call 15; refine Calls.mono (HS.out _ ?_) ?_; (first | exact HB1.out | (refine Below.setCell ?_ (by dsimp only; omega) _; exact HB1.out) | go_grown); rintro e w3 ⟨rfl, hb3⟩; have HB3 : Hid (Below w.heap.size w w3) := Lib.hid (bel (by first | exact HB1.out | (refine Below.setCell ?_ (by dsimp only; omega) _; exact HB1.out) | go_grown) hb3); clear hb3))
        go_ret
        exact ⟨by rw [HF.out, HQ.out]; rfl, HB3.out⟩
  have d3 : (m.kind == 3) = false := beq_eq_false_iff_ne.2 k3
  have K3 := Lib.hid k3
  clear k3

  have HR := Lib.hid (show bodyL m = decide (m.kind = 4 ∧ 0 ≤ m.err ∧ m.err ≤ 19) by unfold bodyL; rw [if_neg K1.out, if_neg K2.out, if_neg K3.out])
  by_cases k4 : m.kind = 4
  case pos =>
    have d4 : (m.kind == 4) = true := beq_iff_eq.2 k4
    have HS := Lib.hid (fun W (hW : Below w.heap.size w W) => msm_any (msgA ⟨m.kind, m.name, m.root, m.keys, m.objs, 0⟩ (.slice A1 m.keys.length c1) (.slice A2 m.objs.length c2)) (msgA (kindL m.kind) (.slice none 0 0) (.slice none 0 0)) ⟨m.kind, m.name, m.root, m.keys, m.objs, 0⟩ (kindL m.kind) W ⟨_, _, rfl, HK.out.on hW, HO.out.on hW⟩ ⟨_, _, rfl, Strs.none_, Objs.nil⟩)
    have HQ := Lib.hid (show restL m = ⟨m.kind, m.name, m.root, m.keys, m.objs, 0⟩ by unfold restL; rw [if_neg K1.out, if_neg K2.out, if_neg K3.out, if_pos k4])
    have K4 := Lib.hid k4
    clear k4
    by_cases h0 : 0 ≤ m.err
    case neg =>
      have q0 : decide (0 ≤ m.err) = false := decide_eq_false h0
      have HF : Hid (b = false) := Lib.hid (by rw [← HB.out, HR.out, decide_eq_false (fun h => h0 h.2.1)]; rfl)
      clear h0
      go_enter Tryd.func14, Tryd.ntmps14
      go_wp2_with fail
      go_ret
      exact ⟨by rw [HF.out]; rfl, (by first | exact HB1.out | (refine Below.setCell ?_ (by dsimp only; omega) _; exact HB1.out) | go_grown)⟩
    have q0 : decide (0 ≤ m.err) = true := decide_eq_true h0
    by_cases h1 : m.err ≤ 19
    case neg =>
      have q1 : decide (m.err ≤ 19) = false := decide_eq_false h1
      have HF : Hid (b = false) := Lib.hid (by rw [← HB.out, HR.out, decide_eq_false (fun h => h1 h.2.2)]; rfl)
      clear h0 h1
      go_enter Tryd.func14, Tryd.ntmps14
      go_wp2_with fail
      go_ret
      exact ⟨by rw [HF.out]; rfl, (by first | exact HB1.out | (refine Below.setCell ?_ (by dsimp only; omega) _; exact HB1.out) | go_grown)⟩
    have q1 : decide (m.err ≤ 19) = true := decide_eq_true h1
    have HF : Hid (b = decide (restL m = kindL m.kind)) := Lib.hid (by rw [← HB.out, HR.out, decide_eq_true ⟨K4.out, h0, h1⟩]; rfl)
    clear h0 h1
    go_enter Tryd.func14, Tryd.ntmps14
    go_wp2_with (go_at_call 15; refine Calls.mono (HS.out _ ?_) ?_; (first | exact HB1.out | (refine Below.setCell ?_ (by dsimp only; omega) _; exact HB1.out) | go_grown); rintro e w3 ⟨rfl, hb3⟩; have HB3 : Hid (Below w.heap.size w w3) := Lib.hid (bel (by first | exact HB1.out | (refine Below.setCell ?_ (by dsimp only; omega) _; exact HB1.out) | go_grown) hb3); clear hb3)
    go_ret
    exact ⟨by rw [HF.out, HQ.out]; rfl, HB3.out⟩
  have d4 : (m.kind == 4) = false := beq_eq_false_iff_ne.2 k4
  have HF : Hid (b = false) := Lib.hid (by rw [← HB.out, HR.out, decide_eq_false (fun h => k4 h.1)]; rfl)
  clear k4
  go_enter Tryd.func14, Tryd.ntmps14
  go_wp2_with fail
  go_ret
  exact ⟨by rw [HF.out]; rfl, (by first | exact HB1.out | (refine Below.setCell ?_ (by dsimp only; omega) _; exact HB1.out) | go_grown)⟩

end Go.Proofs.YthlajcohbpjgkaaDoor
