/-
  MsgDoes' walk. (Printed by gendoes.py.)
-/
import Derived.Test.YthlajcohbpjgkaaDoorMAwk
import Derived.Test.YthlajcohbpjgkaaDoorMBck
import Derived.Test.YthlajcohbpjgkaaDoorMRre
import Derived.Deep.RegionHeld3
namespace Go.Proofs.YthlajcohbpjgkaaDoor
open Go.RowKit Go.Shelf Go.Proofs.Mem
set_option linter.unusedVariables false

/-- A message, and a number, as Read hands them back. -/
def OneP (r : MsgL) (c : Int) (w : World) (e : Ending) (w' : World) : Prop := (∃ v, e = .returned (.tuple #[v, .int .i64 c]) ∧ MsgV w' w'.heap.size v r) ∧ Below w.heap.size w w'
theorem readP_one (s : ByteArray) : ∃ r c, ∀ w e w', ReadP (readM s) w e w' → OneP r c w e w' := by
  cases h : readM s with
  | none => exact ⟨emptyL, 2, fun w e w' h => h⟩
  | some m => exact ⟨m, 0, fun w e w' h => h⟩
theorem msm_self (u v : Value) (m : MsgL) (w : World) (hl : MsgV w w.heap.size u m) (hm : MsgV w w.heap.size v m) :
    Calls Tryd.prog 15 #[u, v] w fun e w' => e = .returned (.bool true) ∧ Below w.heap.size w w' :=
  (msm_any u v m m w hl hm).mono fun e w' ⟨h1, h2⟩ => ⟨by rw [h1, decide_eq_true rfl], h2⟩

set_option maxRecDepth 100000 in
set_option maxHeartbeats 8000000 in
theorem does_walk (u v : Value) (m n : MsgL) (s : ByteArray) (w : World) (hm : MsgV w w.heap.size u m) (hn : MsgV w w.heap.size v n) (he : ErrT w) (m1 : m.name.size ≤ 1000000000000000000) (m2 : m.root.size ≤ 1000000000000000000) (n1 : n.name.size ≤ 1000000000000000000) (n2 : n.root.size ≤ 1000000000000000000) (hsz : s.size ≤ maxLen) :
    Calls Tryd.prog 5 #[u, v, .string s] w fun e w' => e = .returned (.bool true) ∧ Below w.heap.size w w' := by
  have hnm : m.name.size ≤ maxLen := by unfold maxLen; omega
  have hnn : n.name.size ≤ maxLen := by unfold maxLen; omega
  have HFM := Lib.hid (fun W (hb : Below w.heap.size w W) => few_any u m W (hm.on hb) (by omega))
  have HFN := Lib.hid (fun W (hb : Below w.heap.size w W) => few_any v n W (hn.on hb) (by omega))
  have HAW := Lib.hid (fun W (hb : Below w.heap.size w W) => awake_any W (he.on hb))
  obtain ⟨A1, c1, A2, c2, hu⟩ := hm.shape
  subst hu
  obtain ⟨B1, e1, B2, e2, hv⟩ := hn.shape
  subst hv
  unfold maxLen at hsz
  by_cases h5 : s.size ≤ 5000
  case neg =>
    have d1 : decide (5000 < (s.size : Int)) = true := decide_eq_true (by omega)
    have d2 : decide (5000 < s.size) = true := decide_eq_true (by omega)
    clear hm hn he m1 m2 n1 n2 hnm hnn h5
    go_enter Tryd.func5, Tryd.ntmps5
    go_wp2_with (first
      | (go_at_call 7; (with_reducible refine Calls.mono (HFM.out _ ?_) ?_); go_grown; rintro e w1 ⟨b1, rfl, hfw, hb1⟩; have hM1 := (fun (o : Nat) => hb1.cell (p := ⟨w.heap.size, o, none⟩) (by simp; omega)); have hN1 := (fun (o : Nat) => hb1.cell (p := ⟨w.heap.size + 1, o, none⟩) (by simp)); have hz1 : w.heap.size < w1.heap.size ∧ w.heap.size + 1 < w1.heap.size := (by have := hb1.size; simp at this; omega); have HB1 : Hid (Below w.heap.size w w1) := Lib.hid (bel (by go_grown) hb1); clear hb1 hfw)
      | (go_at_call 7; (with_reducible refine Calls.mono (HFN.out _ HB1.out) ?_); rintro e w2 ⟨b2, rfl, hfw, hb2⟩; have hM2 := (fun (o : Nat) => hb2.cell (p := ⟨w.heap.size, o, none⟩) hz1.1); have hN2 := (fun (o : Nat) => hb2.cell (p := ⟨w.heap.size + 1, o, none⟩) hz1.2); have hz2 : w.heap.size < w2.heap.size ∧ w.heap.size + 1 < w2.heap.size := (by have := hb2.size; omega); have HB2 : Hid (Below w.heap.size w w2) := Lib.hid (bel HB1.out hb2); clear hb2 hfw)
      | (go_at_call 9; refine Calls.mono (HAW.out _ ?_) ?_; (first | exact HB2.out | exact HB1.out); rintro e wa ⟨rfl, hba⟩; have HBA : Hid (Below w.heap.size w wa) := Lib.hid (bel (by first | exact HB2.out | exact HB1.out) hba); clear hba))
    any_goals (go_ret; exact ⟨rfl, HBA.out⟩)
  have d1 : decide (5000 < (s.size : Int)) = false := decide_eq_false (by omega)
  have d2 : decide (5000 < s.size) = false := decide_eq_false (by omega)
  obtain ⟨r, c, hrc⟩ := readP_one s
  have HR1 := Lib.hid (fun W (hb : Below w.heap.size w W) => (mread_any s W (he.on hb) (by omega)).mono (fun e w' h => hrc W e w' h))
  have HR2 := Lib.hid (fun W (hb : Below w.heap.size w W) => (rread_any s W h5).mono (fun e w' h => hrc W e w' h))
  have HPF := Lib.hid (fun W (hb : Below w.heap.size w W) => mfit_any _ m W (fitL m) rfl (hm.on hb) hnm)
  have HRF := Lib.hid (fun W (hb : Below w.heap.size w W) => rfit_any _ m W (fitL m) rfl (hm.on hb) hnm)
  have HSP := Lib.hid (fun W (hb : Below w.heap.size w W) => msm_any _ _ m n W (hm.on hb) (hn.on hb))
  have HSR := Lib.hid (fun W (hb : Below w.heap.size w W) => rsm_any _ _ m n W (hm.on hb) (hn.on hb))
  have HSS := Lib.hid (fun W (hb : Below w.heap.size w W) => msm_self _ _ m W (hm.on hb) (hm.on hb))
  have HWP := Lib.hid (fun W (hb : Below w.heap.size w W) => mwrite_any _ m W (hm.on hb) hnm)
  have HWR := Lib.hid (fun W (hb : Below w.heap.size w W) => rwrite_any _ m W (hm.on hb) hnm)
  obtain ⟨t, ht⟩ : ∃ t, t = writeL m := ⟨_, rfl⟩
  rw [← ht] at HWP HWR
  obtain ⟨f, hf⟩ : ∃ f, f = fitL m := ⟨_, rfl⟩
  rw [← hf] at HPF HRF
  obtain ⟨d, hd⟩ : ∃ d, d = decide (m = n) := ⟨_, rfl⟩
  rw [← hd] at HSP HSR
  have q1 : (f == f) = true := beq_self_eq_true _
  have q2 : (d == d) = true := beq_self_eq_true _
  have q3 : (t.toList == t.toList) = true := beq_self_eq_true _
  have q4 : (c == c) = true := beq_self_eq_true _
  clear hm hn he m1 m2 n1 n2 hnm hnn ht hf hd hrc h5
  unfold OneP at HR1 HR2
  go_enter Tryd.func5, Tryd.ntmps5
  go_wp2_with (first
    | (go_at_call 7; (with_reducible refine Calls.mono (HFM.out _ ?_) ?_); go_grown; rintro e w1 ⟨b1, rfl, hfw, hb1⟩; have hM1 := (fun (o : Nat) => hb1.cell (p := ⟨w.heap.size, o, none⟩) (by simp; omega)); have hN1 := (fun (o : Nat) => hb1.cell (p := ⟨w.heap.size + 1, o, none⟩) (by simp)); have hz1 : w.heap.size < w1.heap.size ∧ w.heap.size + 1 < w1.heap.size := (by have := hb1.size; simp at this; omega); have HB1 : Hid (Below w.heap.size w w1) := Lib.hid (bel (by go_grown) hb1); clear hb1 hfw)
    | (go_at_call 7; (with_reducible refine Calls.mono (HFN.out _ HB1.out) ?_); rintro e w2 ⟨b2, rfl, hfw, hb2⟩; have hM2 := (fun (o : Nat) => hb2.cell (p := ⟨w.heap.size, o, none⟩) hz1.1); have hN2 := (fun (o : Nat) => hb2.cell (p := ⟨w.heap.size + 1, o, none⟩) hz1.2); have hz2 : w.heap.size < w2.heap.size ∧ w.heap.size + 1 < w2.heap.size := (by have := hb2.size; omega); have HB2 : Hid (Below w.heap.size w w2) := Lib.hid (bel HB1.out hb2); clear hb2 hfw)
    | (go_at_call 11; (with_reducible refine Calls.mono (HR1.out _ HB2.out) ?_); rintro e w3 ⟨⟨v3, rfl, hv3⟩, hb3⟩; obtain ⟨C1, g1, C2, g2, rfl⟩ := hv3.shape; have HV3 := Lib.hid hv3; have hM3 := (fun (o : Nat) => hb3.cell (p := ⟨w.heap.size, o, none⟩) hz2.1); have hN3 := (fun (o : Nat) => hb3.cell (p := ⟨w.heap.size + 1, o, none⟩) hz2.2); have hz3 : w.heap.size < w3.heap.size ∧ w.heap.size + 1 < w3.heap.size := (by have := hb3.size; omega); have hy3 : ¬ w.heap.size = w3.heap.size ∧ ¬ w.heap.size + 1 = w3.heap.size := (by omega); have HB3 : Hid (Below w.heap.size w w3) := Lib.hid (bel HB2.out hb3); clear hv3 hb3)
    | (go_at_call 13; (with_reducible refine Calls.mono (HR2.out _ ?_) ?_); (exact HB3.out.alloc HB3.out.size _); rintro e w4 ⟨⟨v4, rfl, hv4⟩, hb4⟩; obtain ⟨D1, h1, D2, h2, rfl⟩ := hv4.shape; have HV4 := Lib.hid hv4; have hM4 := (fun (o : Nat) => hb4.cell (p := ⟨w.heap.size, o, none⟩) (by simp; omega)); have hN4 := (fun (o : Nat) => hb4.cell (p := ⟨w.heap.size + 1, o, none⟩) (by simp; omega)); have hA4 := (fun (o : Nat) => hb4.cell (p := ⟨w3.heap.size, o, none⟩) (by simp)); have hz4 : w.heap.size < w4.heap.size ∧ w.heap.size + 1 < w4.heap.size ∧ w3.heap.size < w4.heap.size := (by have := hb4.size; simp at this; omega); have hy4 : ¬ w.heap.size = w4.heap.size ∧ ¬ w.heap.size + 1 = w4.heap.size ∧ ¬ w3.heap.size = w4.heap.size := (by omega); have HB4 : Hid (Below w.heap.size w w4) := Lib.hid (bel (HB3.out.alloc HB3.out.size _) hb4); have HK4 : Hid (Below w3.heap.size w3 w4) := Lib.hid (bel (by go_grown) hb4); clear hv4 hb4)
    | (go_at_call 9; refine Calls.mono (HAW.out _ ?_) ?_; (first | exact HB2.out | exact HB1.out); rintro e wa ⟨rfl, hba⟩; have HBA : Hid (Below w.heap.size w wa) := Lib.hid (bel (by first | exact HB2.out | exact HB1.out) hba); clear hba))
  any_goals (go_ret; exact ⟨rfl, HBA.out⟩)
  obtain ⟨W0, hg⟩ : ∃ W0, W0 = w4.alloc (.cells #[.int .i64 r.kind, .string r.name, .string r.root, .slice D1 r.keys.length h1, .slice D2 r.objs.length h2, .int .i64 r.err] 26) := ⟨_, rfl⟩
  have HB0 : Hid (Below w.heap.size w W0) := Lib.hid (by rw [hg]; exact HB4.out.alloc HB4.out.size _)
  have HK0 : Hid (Below w3.heap.size w3 W0) := Lib.hid (by rw [hg]; exact HK4.out.alloc HK4.out.size _)
  have HL0 : Hid (Below w4.heap.size w4 W0) := Lib.hid (by rw [hg]; go_grown)
  have HZ0 : Hid (w.heap.size < W0.heap.size ∧ w.heap.size + 1 < W0.heap.size ∧ w3.heap.size < W0.heap.size ∧ w4.heap.size < W0.heap.size) := Lib.hid (by rw [hg]; simp only [World.size_alloc]; omega)
  have HC0 : Hid (W0.cell? ⟨w.heap.size, 0, none⟩ = some (.int .i64 m.kind) ∧ W0.cell? ⟨w.heap.size, 1, none⟩ = some (.string m.name) ∧ W0.cell? ⟨w.heap.size, 2, none⟩ = some (.string m.root) ∧ W0.cell? ⟨w.heap.size, 3, none⟩ = some (.slice A1 m.keys.length c1) ∧ W0.cell? ⟨w.heap.size, 4, none⟩ = some (.slice A2 m.objs.length c2) ∧ W0.cell? ⟨w.heap.size, 5, none⟩ = some (.int .i64 m.err) ∧ W0.cell? ⟨w.heap.size + 1, 0, none⟩ = some (.int .i64 n.kind) ∧ W0.cell? ⟨w.heap.size + 1, 1, none⟩ = some (.string n.name) ∧ W0.cell? ⟨w.heap.size + 1, 2, none⟩ = some (.string n.root) ∧ W0.cell? ⟨w.heap.size + 1, 3, none⟩ = some (.slice B1 n.keys.length e1) ∧ W0.cell? ⟨w.heap.size + 1, 4, none⟩ = some (.slice B2 n.objs.length e2) ∧ W0.cell? ⟨w.heap.size + 1, 5, none⟩ = some (.int .i64 n.err) ∧ W0.cell? ⟨w3.heap.size, 0, none⟩ = some (.int .i64 r.kind) ∧ W0.cell? ⟨w3.heap.size, 1, none⟩ = some (.string r.name) ∧ W0.cell? ⟨w3.heap.size, 2, none⟩ = some (.string r.root) ∧ W0.cell? ⟨w3.heap.size, 3, none⟩ = some (.slice C1 r.keys.length g1) ∧ W0.cell? ⟨w3.heap.size, 4, none⟩ = some (.slice C2 r.objs.length g2) ∧ W0.cell? ⟨w3.heap.size, 5, none⟩ = some (.int .i64 r.err) ∧ W0.cell? ⟨w4.heap.size, 0, none⟩ = some (.int .i64 r.kind) ∧ W0.cell? ⟨w4.heap.size, 1, none⟩ = some (.string r.name) ∧ W0.cell? ⟨w4.heap.size, 2, none⟩ = some (.string r.root) ∧ W0.cell? ⟨w4.heap.size, 3, none⟩ = some (.slice D1 r.keys.length h1) ∧ W0.cell? ⟨w4.heap.size, 4, none⟩ = some (.slice D2 r.objs.length h2) ∧ W0.cell? ⟨w4.heap.size, 5, none⟩ = some (.int .i64 r.err)) := Lib.hid (by rw [hg]; refine ⟨?_, ?_, ?_, ?_, ?_, ?_, ?_, ?_, ?_, ?_, ?_, ?_, ?_, ?_, ?_, ?_, ?_, ?_, ?_, ?_, ?_, ?_, ?_, ?_⟩ <;> go_simp)
  rw [← hg]
  have HAB := Lib.hid (fun W (hb : Below W0.heap.size W0 W) => rsm_self (.agg #[.int .i64 r.kind, .string r.name, .string r.root, .slice C1 r.keys.length g1, .slice C2 r.objs.length g2, .int .i64 r.err]) (.agg #[.int .i64 r.kind, .string r.name, .string r.root, .slice D1 r.keys.length h1, .slice D2 r.objs.length h2, .int .i64 r.err]) r W (HV3.out.on (bel HK0.out hb)) (HV4.out.on (bel HL0.out hb)))
  clear hg hM1 hM2 hM3 hM4 hN1 hN2 hN3 hN4 hA4 hz1 hz2 hz3 hz4 hy3 hy4 HB1 HB2 HB3 HB4 HK4 HV3 HV4 HK0 HL0
  have HS : Hid (∀ W : World, Below W0.heap.size W0 W → (W.cell? ⟨w.heap.size, 0, none⟩ = some (.int .i64 m.kind) ∧ W.cell? ⟨w.heap.size, 1, none⟩ = some (.string m.name) ∧ W.cell? ⟨w.heap.size, 2, none⟩ = some (.string m.root) ∧ W.cell? ⟨w.heap.size, 3, none⟩ = some (.slice A1 m.keys.length c1) ∧ W.cell? ⟨w.heap.size, 4, none⟩ = some (.slice A2 m.objs.length c2) ∧ W.cell? ⟨w.heap.size, 5, none⟩ = some (.int .i64 m.err) ∧ W.cell? ⟨w.heap.size + 1, 0, none⟩ = some (.int .i64 n.kind) ∧ W.cell? ⟨w.heap.size + 1, 1, none⟩ = some (.string n.name) ∧ W.cell? ⟨w.heap.size + 1, 2, none⟩ = some (.string n.root) ∧ W.cell? ⟨w.heap.size + 1, 3, none⟩ = some (.slice B1 n.keys.length e1) ∧ W.cell? ⟨w.heap.size + 1, 4, none⟩ = some (.slice B2 n.objs.length e2) ∧ W.cell? ⟨w.heap.size + 1, 5, none⟩ = some (.int .i64 n.err) ∧ W.cell? ⟨w3.heap.size, 0, none⟩ = some (.int .i64 r.kind) ∧ W.cell? ⟨w3.heap.size, 1, none⟩ = some (.string r.name) ∧ W.cell? ⟨w3.heap.size, 2, none⟩ = some (.string r.root) ∧ W.cell? ⟨w3.heap.size, 3, none⟩ = some (.slice C1 r.keys.length g1) ∧ W.cell? ⟨w3.heap.size, 4, none⟩ = some (.slice C2 r.objs.length g2) ∧ W.cell? ⟨w3.heap.size, 5, none⟩ = some (.int .i64 r.err) ∧ W.cell? ⟨w4.heap.size, 0, none⟩ = some (.int .i64 r.kind) ∧ W.cell? ⟨w4.heap.size, 1, none⟩ = some (.string r.name) ∧ W.cell? ⟨w4.heap.size, 2, none⟩ = some (.string r.root) ∧ W.cell? ⟨w4.heap.size, 3, none⟩ = some (.slice D1 r.keys.length h1) ∧ W.cell? ⟨w4.heap.size, 4, none⟩ = some (.slice D2 r.objs.length h2) ∧ W.cell? ⟨w4.heap.size, 5, none⟩ = some (.int .i64 r.err) ∧ Hid (Below W0.heap.size W0 W))) := Lib.hid (fun W hW => by
    obtain ⟨l0, l1, l2, l3⟩ := HZ0.out
    obtain ⟨y0, y1, y2, y3, y4, y5, y6, y7, y8, y9, y10, y11, y12, y13, y14, y15, y16, y17, y18, y19, y20, y21, y22, y23⟩ := HC0.out
    exact ⟨(hW.cell (p := ⟨w.heap.size, 0, none⟩) l0).trans y0, (hW.cell (p := ⟨w.heap.size, 1, none⟩) l0).trans y1, (hW.cell (p := ⟨w.heap.size, 2, none⟩) l0).trans y2, (hW.cell (p := ⟨w.heap.size, 3, none⟩) l0).trans y3, (hW.cell (p := ⟨w.heap.size, 4, none⟩) l0).trans y4, (hW.cell (p := ⟨w.heap.size, 5, none⟩) l0).trans y5, (hW.cell (p := ⟨w.heap.size + 1, 0, none⟩) l1).trans y6, (hW.cell (p := ⟨w.heap.size + 1, 1, none⟩) l1).trans y7, (hW.cell (p := ⟨w.heap.size + 1, 2, none⟩) l1).trans y8, (hW.cell (p := ⟨w.heap.size + 1, 3, none⟩) l1).trans y9, (hW.cell (p := ⟨w.heap.size + 1, 4, none⟩) l1).trans y10, (hW.cell (p := ⟨w.heap.size + 1, 5, none⟩) l1).trans y11, (hW.cell (p := ⟨w3.heap.size, 0, none⟩) l2).trans y12, (hW.cell (p := ⟨w3.heap.size, 1, none⟩) l2).trans y13, (hW.cell (p := ⟨w3.heap.size, 2, none⟩) l2).trans y14, (hW.cell (p := ⟨w3.heap.size, 3, none⟩) l2).trans y15, (hW.cell (p := ⟨w3.heap.size, 4, none⟩) l2).trans y16, (hW.cell (p := ⟨w3.heap.size, 5, none⟩) l2).trans y17, (hW.cell (p := ⟨w4.heap.size, 0, none⟩) l3).trans y18, (hW.cell (p := ⟨w4.heap.size, 1, none⟩) l3).trans y19, (hW.cell (p := ⟨w4.heap.size, 2, none⟩) l3).trans y20, (hW.cell (p := ⟨w4.heap.size, 3, none⟩) l3).trans y21, (hW.cell (p := ⟨w4.heap.size, 4, none⟩) l3).trans y22, (hW.cell (p := ⟨w4.heap.size, 5, none⟩) l3).trans y23, Lib.hid hW⟩)
  have hS0 := HS.out _ (Below.refl W0.heap.size W0).drew
  go_region_held3 (fun w' => w'.cell? ⟨w.heap.size, 0, none⟩ = some (.int .i64 m.kind) ∧ w'.cell? ⟨w.heap.size, 1, none⟩ = some (.string m.name) ∧ w'.cell? ⟨w.heap.size, 2, none⟩ = some (.string m.root) ∧ w'.cell? ⟨w.heap.size, 3, none⟩ = some (.slice A1 m.keys.length c1) ∧ w'.cell? ⟨w.heap.size, 4, none⟩ = some (.slice A2 m.objs.length c2) ∧ w'.cell? ⟨w.heap.size, 5, none⟩ = some (.int .i64 m.err) ∧ w'.cell? ⟨w.heap.size + 1, 0, none⟩ = some (.int .i64 n.kind) ∧ w'.cell? ⟨w.heap.size + 1, 1, none⟩ = some (.string n.name) ∧ w'.cell? ⟨w.heap.size + 1, 2, none⟩ = some (.string n.root) ∧ w'.cell? ⟨w.heap.size + 1, 3, none⟩ = some (.slice B1 n.keys.length e1) ∧ w'.cell? ⟨w.heap.size + 1, 4, none⟩ = some (.slice B2 n.objs.length e2) ∧ w'.cell? ⟨w.heap.size + 1, 5, none⟩ = some (.int .i64 n.err) ∧ w'.cell? ⟨w3.heap.size, 0, none⟩ = some (.int .i64 r.kind) ∧ w'.cell? ⟨w3.heap.size, 1, none⟩ = some (.string r.name) ∧ w'.cell? ⟨w3.heap.size, 2, none⟩ = some (.string r.root) ∧ w'.cell? ⟨w3.heap.size, 3, none⟩ = some (.slice C1 r.keys.length g1) ∧ w'.cell? ⟨w3.heap.size, 4, none⟩ = some (.slice C2 r.objs.length g2) ∧ w'.cell? ⟨w3.heap.size, 5, none⟩ = some (.int .i64 r.err) ∧ w'.cell? ⟨w4.heap.size, 0, none⟩ = some (.int .i64 r.kind) ∧ w'.cell? ⟨w4.heap.size, 1, none⟩ = some (.string r.name) ∧ w'.cell? ⟨w4.heap.size, 2, none⟩ = some (.string r.root) ∧ w'.cell? ⟨w4.heap.size, 3, none⟩ = some (.slice D1 r.keys.length h1) ∧ w'.cell? ⟨w4.heap.size, 4, none⟩ = some (.slice D2 r.objs.length h2) ∧ w'.cell? ⟨w4.heap.size, 5, none⟩ = some (.int .i64 r.err) ∧ Hid (Below W0.heap.size W0 w'))
    (first
      | exact hS0
      | assumption
      | (go_split_ands; exact HS.out _ (bel (Hid.out ‹Hid (Below W0.heap.size W0 _)›) ‹_›)))
    (first
      | (go_at_call 14; (with_reducible refine Calls.mono (HPF.out _ ?_) ?_); exact bel HB0.out (Hid.out (by first | assumption | (go_split_ands; assumption))); rintro e wx0 ⟨rfl, hBx0⟩)
      | (go_at_call 8; (with_reducible refine Calls.mono (HRF.out _ ?_) ?_); exact bel HB0.out (Hid.out (by first | assumption | (go_split_ands; assumption))); rintro e wx1 ⟨rfl, hBx1⟩)
      | (go_at_call 15; (with_reducible refine Calls.mono (HSP.out _ ?_) ?_); exact bel HB0.out (Hid.out (by first | assumption | (go_split_ands; assumption))); rintro e wx2 ⟨rfl, hBx2⟩)
      | (go_at_call 12; (with_reducible refine Calls.mono (HSR.out _ ?_) ?_); exact bel HB0.out (Hid.out (by first | assumption | (go_split_ands; assumption))); rintro e wx3 ⟨rfl, hBx3⟩)
      | (go_at_call 15; (with_reducible refine Calls.mono (HSS.out _ ?_) ?_); exact bel HB0.out (Hid.out (by first | assumption | (go_split_ands; assumption))); rintro e wx4 ⟨rfl, hBx4⟩)
      | (go_at_call 10; (with_reducible refine Calls.mono (HWP.out _ ?_) ?_); exact bel HB0.out (Hid.out (by first | assumption | (go_split_ands; assumption))); rintro e wx5 ⟨rfl, hBx5⟩)
      | (go_at_call 16; (with_reducible refine Calls.mono (HWR.out _ ?_) ?_); exact bel HB0.out (Hid.out (by first | assumption | (go_split_ands; assumption))); rintro e wx6 ⟨rfl, hBx6⟩)
      | (go_at_call 12; (with_reducible refine Calls.mono (HAB.out _ ?_) ?_); exact Hid.out (by first | assumption | (go_split_ands; assumption)); rintro e wx7 ⟨rfl, hBx7⟩)
      | (go_at_call 9; (with_reducible refine Calls.mono (HAW.out _ ?_) ?_); exact bel HB0.out (Hid.out (by first | assumption | (go_split_ands; assumption))); rintro e wx8 ⟨rfl, hBx8⟩))
  go_split_ands
  have HBF : Hid (Below w.heap.size w _) := Lib.hid (bel HB0.out (Hid.out ‹Hid (Below W0.heap.size W0 _)›))
  go_wp2_with fail
  go_ret
  exact ⟨rfl, HBF.out⟩

end Go.Proofs.YthlajcohbpjgkaaDoor
