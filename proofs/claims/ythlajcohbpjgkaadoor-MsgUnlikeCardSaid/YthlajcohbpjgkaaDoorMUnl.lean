/-
  MsgUnlike's walk.
-/
import Derived.Test.YthlajcohbpjgkaaDoorMAwk
namespace Go.Proofs.YthlajcohbpjgkaaDoor
open Go.RowKit Go.Shelf Go.Proofs.Mem
set_option linter.unusedVariables false

theorem kind_small (m : MsgL) (h : fitL m = true) : IntKind.i64.wrap m.kind = m.kind := by
  rcases fit_cases m h with ⟨n, r, rfl, _⟩ | ⟨l, rfl, _⟩ | ⟨l, rfl, _⟩ | ⟨e, rfl, _⟩
  · exact (by decide : IntKind.i64.wrap 1 = 1)
  · exact (by decide : IntKind.i64.wrap 2 = 2)
  · exact (by decide : IntKind.i64.wrap 3 = 3)
  · exact (by decide : IntKind.i64.wrap 4 = 4)
theorem head_at (t : ByteArray) (k : Int) (h : (byteAt t 0 : Nat) = k) : ∀ h0 : 0 < t.size, (t[0].toNat : Int) = k := by
  intro h0
  rw [← h, byteAt_eq t 0 h0]

set_option maxRecDepth 100000 in
set_option maxHeartbeats 4000000 in
theorem unlike_walk (u v : Value) (m n : MsgL) (w : World) (hm : MsgV w w.heap.size u m) (hn : MsgV w w.heap.size v n) (he : ErrT w) (m1 : m.name.size ≤ 1000000000000000000) (m2 : m.root.size ≤ 1000000000000000000) (n1 : n.name.size ≤ 1000000000000000000) (n2 : n.root.size ≤ 1000000000000000000) :
    Calls Tryd.prog 4 #[u, v] w fun e w' => e = .returned (.bool true) ∧ Below w.heap.size w w' := by
  have hnm : m.name.size ≤ maxLen := by unfold maxLen; omega
  have hnn : n.name.size ≤ maxLen := by unfold maxLen; omega
  have HFM := Lib.hid (fun W (hb : Below w.heap.size w W) => few_any u m W (hm.on hb) (by omega))
  have HFN := Lib.hid (fun W (hb : Below w.heap.size w W) => few_any v n W (hn.on hb) (by omega))
  have HAW := Lib.hid (fun W (hb : Below w.heap.size w W) => awake_any W (he.on hb))
  obtain ⟨A1, c1, A2, c2, hu⟩ := hm.shape
  subst hu
  obtain ⟨B1, e1, B2, e2, hv⟩ := hn.shape
  subst hv
  cases hfm : fitL m with
  | false =>
    have HIM := Lib.hid (fun W (hb : Below w.heap.size w W) => rfit_any _ m W false hfm (hm.on hb) hnm)
    clear hm hn he m1 m2 n1 n2 hnm hnn hfm
    go_enter Tryd.func4, Tryd.ntmps4
    go_wp2_with (first
      | (go_at_call 7; (with_reducible refine Calls.mono (HFM.out _ ?_) ?_); go_grown; rintro e w1 ⟨b1, rfl, hfw, hb1⟩; have hM1 := (fun (o : Nat) => hb1.cell (p := ⟨w.heap.size, o, none⟩) (by simp; omega)); have hN1 := (fun (o : Nat) => hb1.cell (p := ⟨w.heap.size + 1, o, none⟩) (by simp)); have hz1 : w.heap.size < w1.heap.size ∧ w.heap.size + 1 < w1.heap.size := (by have := hb1.size; simp at this; omega); have HB1 : Hid (Below w.heap.size w w1) := Lib.hid (bel (by go_grown) hb1); clear hb1 hfw)
      | (go_at_call 7; (with_reducible refine Calls.mono (HFN.out _ HB1.out) ?_); rintro e w2 ⟨b2, rfl, hfw, hb2⟩; have hM2 := (fun (o : Nat) => hb2.cell (p := ⟨w.heap.size, o, none⟩) hz1.1); have hN2 := (fun (o : Nat) => hb2.cell (p := ⟨w.heap.size + 1, o, none⟩) hz1.2); have hz2 : w.heap.size < w2.heap.size ∧ w.heap.size + 1 < w2.heap.size := (by have := hb2.size; omega); have HB2 : Hid (Below w.heap.size w w2) := Lib.hid (bel HB1.out hb2); clear hb2 hfw)
      | (go_at_call 8; (with_reducible refine Calls.mono (HIM.out _ HB2.out) ?_); rintro e w3 ⟨rfl, hb3⟩; have hM3 := (fun (o : Nat) => hb3.cell (p := ⟨w.heap.size, o, none⟩) hz2.1); have hN3 := (fun (o : Nat) => hb3.cell (p := ⟨w.heap.size + 1, o, none⟩) hz2.2); have hz3 : w.heap.size < w3.heap.size ∧ w.heap.size + 1 < w3.heap.size := (by have := hb3.size; omega); have HB3 : Hid (Below w.heap.size w w3) := Lib.hid (bel HB2.out hb3); clear hb3)
      | (go_at_call 9; refine Calls.mono (HAW.out _ ?_) ?_; (first | exact HB4.out | exact HB3.out | exact HB2.out | exact HB1.out); rintro e wa ⟨rfl, hba⟩; have HBA : Hid (Below w.heap.size w wa) := Lib.hid (bel (by first | exact HB4.out | exact HB3.out | exact HB2.out | exact HB1.out) hba); clear hba))
    any_goals (go_ret; exact ⟨rfl, HBA.out⟩)
  | true =>
  have HIM := Lib.hid (fun W (hb : Below w.heap.size w W) => rfit_any _ m W true hfm (hm.on hb) hnm)
  cases hfn : fitL n with
  | false =>
    have HIN := Lib.hid (fun W (hb : Below w.heap.size w W) => rfit_any _ n W false hfn (hn.on hb) hnn)
    clear hm hn he m1 m2 n1 n2 hnm hnn hfm hfn
    go_enter Tryd.func4, Tryd.ntmps4
    go_wp2_with (first
      | (go_at_call 7; (with_reducible refine Calls.mono (HFM.out _ ?_) ?_); go_grown; rintro e w1 ⟨b1, rfl, hfw, hb1⟩; have hM1 := (fun (o : Nat) => hb1.cell (p := ⟨w.heap.size, o, none⟩) (by simp; omega)); have hN1 := (fun (o : Nat) => hb1.cell (p := ⟨w.heap.size + 1, o, none⟩) (by simp)); have hz1 : w.heap.size < w1.heap.size ∧ w.heap.size + 1 < w1.heap.size := (by have := hb1.size; simp at this; omega); have HB1 : Hid (Below w.heap.size w w1) := Lib.hid (bel (by go_grown) hb1); clear hb1 hfw)
      | (go_at_call 7; (with_reducible refine Calls.mono (HFN.out _ HB1.out) ?_); rintro e w2 ⟨b2, rfl, hfw, hb2⟩; have hM2 := (fun (o : Nat) => hb2.cell (p := ⟨w.heap.size, o, none⟩) hz1.1); have hN2 := (fun (o : Nat) => hb2.cell (p := ⟨w.heap.size + 1, o, none⟩) hz1.2); have hz2 : w.heap.size < w2.heap.size ∧ w.heap.size + 1 < w2.heap.size := (by have := hb2.size; omega); have HB2 : Hid (Below w.heap.size w w2) := Lib.hid (bel HB1.out hb2); clear hb2 hfw)
      | (go_at_call 8; (with_reducible refine Calls.mono (HIM.out _ HB2.out) ?_); rintro e w3 ⟨rfl, hb3⟩; have hM3 := (fun (o : Nat) => hb3.cell (p := ⟨w.heap.size, o, none⟩) hz2.1); have hN3 := (fun (o : Nat) => hb3.cell (p := ⟨w.heap.size + 1, o, none⟩) hz2.2); have hz3 : w.heap.size < w3.heap.size ∧ w.heap.size + 1 < w3.heap.size := (by have := hb3.size; omega); have HB3 : Hid (Below w.heap.size w w3) := Lib.hid (bel HB2.out hb3); clear hb3)
      | (go_at_call 8; (with_reducible refine Calls.mono (HIN.out _ HB3.out) ?_); rintro e w4 ⟨rfl, hb4⟩; have hM4 := (fun (o : Nat) => hb4.cell (p := ⟨w.heap.size, o, none⟩) hz3.1); have hN4 := (fun (o : Nat) => hb4.cell (p := ⟨w.heap.size + 1, o, none⟩) hz3.2); have hz4 : w.heap.size < w4.heap.size ∧ w.heap.size + 1 < w4.heap.size := (by have := hb4.size; omega); have HB4 : Hid (Below w.heap.size w w4) := Lib.hid (bel HB3.out hb4); clear hb4)
      | (go_at_call 9; refine Calls.mono (HAW.out _ ?_) ?_; (first | exact HB4.out | exact HB3.out | exact HB2.out | exact HB1.out); rintro e wa ⟨rfl, hba⟩; have HBA : Hid (Below w.heap.size w wa) := Lib.hid (bel (by first | exact HB4.out | exact HB3.out | exact HB2.out | exact HB1.out) hba); clear hba))
    any_goals (go_ret; exact ⟨rfl, HBA.out⟩)
  | true =>
    have HIN := Lib.hid (fun W (hb : Below w.heap.size w W) => rfit_any _ n W true hfn (hn.on hb) hnn)
    have HWM := Lib.hid (fun W (hb : Below w.heap.size w W) => mwrite_any _ m W (hm.on hb) hnm)
    have HWN := Lib.hid (fun W (hb : Below w.heap.size w W) => mwrite_any _ n W (hn.on hb) hnn)
    have HSA := Lib.hid (fun W (hb : Below w.heap.size w W) => rsm_any _ _ m n W (hm.on hb) (hn.on hb))
    obtain ⟨d, hd⟩ : ∃ d, d = decide (m = n) := ⟨_, rfl⟩
    rw [← hd] at HSA
    obtain ⟨t, ht⟩ : ∃ t, t = writeL m := ⟨_, rfl⟩
    obtain ⟨q, hq⟩ : ∃ q, q = writeL n := ⟨_, rfl⟩
    rw [← ht] at HWM
    rw [← hq] at HWN
    have ts : 1 < t.size := by rw [ht]; exact (write_head m hfm).1
    have ts0 : 0 < t.size := by omega
    have tz : t.size ≤ 170000 := by rw [ht]; exact write_size m
    have tk := head_at t m.kind (by rw [ht]; exact (write_head m hfm).2)
    have wk := kind_small m hfm
    have e3 : (t.toList == q.toList) = d := by rw [str_beq, hd, ht, hq]; exact decide_eq_decide.2 (write_inj m n hfm hfn)
    have dt : decide (1 < (t.size : Int)) = true := decide_eq_true (by omega)
    clear hm hn he m1 m2 n1 n2 hnm hnn hfm hfn ht hq hd
    have wk2 : (IntKind.i64.wrap m.kind == m.kind) = true := by rw [wk, beq_self_eq_true]
    obtain ⟨dn, hdn⟩ : ∃ dn, dn = d := ⟨_, rfl⟩
    have e4 : (d == d) = true := beq_self_eq_true _
    go_enter Tryd.func4, Tryd.ntmps4
    go_wp2_with (first
      | (go_at_call 7; (with_reducible refine Calls.mono (HFM.out _ ?_) ?_); go_grown; rintro e w1 ⟨b1, rfl, hfw, hb1⟩; have hM1 := (fun (o : Nat) => hb1.cell (p := ⟨w.heap.size, o, none⟩) (by simp; omega)); have hN1 := (fun (o : Nat) => hb1.cell (p := ⟨w.heap.size + 1, o, none⟩) (by simp)); have hz1 : w.heap.size < w1.heap.size ∧ w.heap.size + 1 < w1.heap.size := (by have := hb1.size; simp at this; omega); have HB1 : Hid (Below w.heap.size w w1) := Lib.hid (bel (by go_grown) hb1); clear hb1 hfw)
      | (go_at_call 7; (with_reducible refine Calls.mono (HFN.out _ HB1.out) ?_); rintro e w2 ⟨b2, rfl, hfw, hb2⟩; have hM2 := (fun (o : Nat) => hb2.cell (p := ⟨w.heap.size, o, none⟩) hz1.1); have hN2 := (fun (o : Nat) => hb2.cell (p := ⟨w.heap.size + 1, o, none⟩) hz1.2); have hz2 : w.heap.size < w2.heap.size ∧ w.heap.size + 1 < w2.heap.size := (by have := hb2.size; omega); have HB2 : Hid (Below w.heap.size w w2) := Lib.hid (bel HB1.out hb2); clear hb2 hfw)
      | (go_at_call 8; (with_reducible refine Calls.mono (HIM.out _ HB2.out) ?_); rintro e w3 ⟨rfl, hb3⟩; have hM3 := (fun (o : Nat) => hb3.cell (p := ⟨w.heap.size, o, none⟩) hz2.1); have hN3 := (fun (o : Nat) => hb3.cell (p := ⟨w.heap.size + 1, o, none⟩) hz2.2); have hz3 : w.heap.size < w3.heap.size ∧ w.heap.size + 1 < w3.heap.size := (by have := hb3.size; omega); have HB3 : Hid (Below w.heap.size w w3) := Lib.hid (bel HB2.out hb3); clear hb3)
      | (go_at_call 8; (with_reducible refine Calls.mono (HIN.out _ HB3.out) ?_); rintro e w4 ⟨rfl, hb4⟩; have hM4 := (fun (o : Nat) => hb4.cell (p := ⟨w.heap.size, o, none⟩) hz3.1); have hN4 := (fun (o : Nat) => hb4.cell (p := ⟨w.heap.size + 1, o, none⟩) hz3.2); have hz4 : w.heap.size < w4.heap.size ∧ w.heap.size + 1 < w4.heap.size := (by have := hb4.size; omega); have HB4 : Hid (Below w.heap.size w w4) := Lib.hid (bel HB3.out hb4); clear hb4)
      | (go_at_call 9; refine Calls.mono (HAW.out _ ?_) ?_; (first | exact HB4.out | exact HB3.out | exact HB2.out | exact HB1.out); rintro e wa ⟨rfl, hba⟩; have HBA : Hid (Below w.heap.size w wa) := Lib.hid (bel (by first | exact HB4.out | exact HB3.out | exact HB2.out | exact HB1.out) hba); clear hba))
    any_goals (go_ret; exact ⟨rfl, HBA.out⟩)
    obtain ⟨W0, hg⟩ : ∃ W0, W0 = w4 := ⟨_, rfl⟩
    have HB0 : Hid (Below w.heap.size w W0) := Lib.hid (by rw [hg]; exact HB4.out)
    have HZ0 : Hid (w.heap.size < W0.heap.size ∧ w.heap.size + 1 < W0.heap.size) := Lib.hid (by rw [hg]; exact hz4)
    have HC0 : Hid (W0.cell? ⟨w.heap.size, 0, none⟩ = some (.int .i64 m.kind) ∧ W0.cell? ⟨w.heap.size, 1, none⟩ = some (.string m.name) ∧ W0.cell? ⟨w.heap.size, 2, none⟩ = some (.string m.root) ∧ W0.cell? ⟨w.heap.size, 3, none⟩ = some (.slice A1 m.keys.length c1) ∧ W0.cell? ⟨w.heap.size, 4, none⟩ = some (.slice A2 m.objs.length c2) ∧ W0.cell? ⟨w.heap.size, 5, none⟩ = some (.int .i64 m.err) ∧ W0.cell? ⟨w.heap.size + 1, 0, none⟩ = some (.int .i64 n.kind) ∧ W0.cell? ⟨w.heap.size + 1, 1, none⟩ = some (.string n.name) ∧ W0.cell? ⟨w.heap.size + 1, 2, none⟩ = some (.string n.root) ∧ W0.cell? ⟨w.heap.size + 1, 3, none⟩ = some (.slice B1 n.keys.length e1) ∧ W0.cell? ⟨w.heap.size + 1, 4, none⟩ = some (.slice B2 n.objs.length e2) ∧ W0.cell? ⟨w.heap.size + 1, 5, none⟩ = some (.int .i64 n.err)) := Lib.hid (by rw [hg]; refine ⟨?_, ?_, ?_, ?_, ?_, ?_, ?_, ?_, ?_, ?_, ?_, ?_⟩ <;> go_simp)
    rw [← hg]
    clear hg hM1 hM2 hM3 hM4 hN1 hN2 hN3 hN4 hz1 hz2 hz3 hz4 HB1 HB2 HB3 HB4
    have HS : Hid (∀ W : World, Below W0.heap.size W0 W → (W.cell? ⟨w.heap.size, 0, none⟩ = some (.int .i64 m.kind) ∧ W.cell? ⟨w.heap.size, 1, none⟩ = some (.string m.name) ∧ W.cell? ⟨w.heap.size, 2, none⟩ = some (.string m.root) ∧ W.cell? ⟨w.heap.size, 3, none⟩ = some (.slice A1 m.keys.length c1) ∧ W.cell? ⟨w.heap.size, 4, none⟩ = some (.slice A2 m.objs.length c2) ∧ W.cell? ⟨w.heap.size, 5, none⟩ = some (.int .i64 m.err) ∧ W.cell? ⟨w.heap.size + 1, 0, none⟩ = some (.int .i64 n.kind) ∧ W.cell? ⟨w.heap.size + 1, 1, none⟩ = some (.string n.name) ∧ W.cell? ⟨w.heap.size + 1, 2, none⟩ = some (.string n.root) ∧ W.cell? ⟨w.heap.size + 1, 3, none⟩ = some (.slice B1 n.keys.length e1) ∧ W.cell? ⟨w.heap.size + 1, 4, none⟩ = some (.slice B2 n.objs.length e2) ∧ W.cell? ⟨w.heap.size + 1, 5, none⟩ = some (.int .i64 n.err) ∧ Hid (Below W0.heap.size W0 W))) := Lib.hid (fun W hW => by
      obtain ⟨l1, l2⟩ := HZ0.out
      obtain ⟨y0, y1, y2, y3, y4, y5, y6, y7, y8, y9, y10, y11⟩ := HC0.out
      exact ⟨(hW.cell (p := ⟨w.heap.size, 0, none⟩) l1).trans y0, (hW.cell (p := ⟨w.heap.size, 1, none⟩) l1).trans y1, (hW.cell (p := ⟨w.heap.size, 2, none⟩) l1).trans y2, (hW.cell (p := ⟨w.heap.size, 3, none⟩) l1).trans y3, (hW.cell (p := ⟨w.heap.size, 4, none⟩) l1).trans y4, (hW.cell (p := ⟨w.heap.size, 5, none⟩) l1).trans y5, (hW.cell (p := ⟨w.heap.size + 1, 0, none⟩) l2).trans y6, (hW.cell (p := ⟨w.heap.size + 1, 1, none⟩) l2).trans y7, (hW.cell (p := ⟨w.heap.size + 1, 2, none⟩) l2).trans y8, (hW.cell (p := ⟨w.heap.size + 1, 3, none⟩) l2).trans y9, (hW.cell (p := ⟨w.heap.size + 1, 4, none⟩) l2).trans y10, (hW.cell (p := ⟨w.heap.size + 1, 5, none⟩) l2).trans y11, Lib.hid hW⟩)
    have hS0 := HS.out _ (Below.refl W0.heap.size W0).drew
    go_region_held3 (fun w' => w'.cell? ⟨w.heap.size, 0, none⟩ = some (.int .i64 m.kind) ∧ w'.cell? ⟨w.heap.size, 1, none⟩ = some (.string m.name) ∧ w'.cell? ⟨w.heap.size, 2, none⟩ = some (.string m.root) ∧ w'.cell? ⟨w.heap.size, 3, none⟩ = some (.slice A1 m.keys.length c1) ∧ w'.cell? ⟨w.heap.size, 4, none⟩ = some (.slice A2 m.objs.length c2) ∧ w'.cell? ⟨w.heap.size, 5, none⟩ = some (.int .i64 m.err) ∧ w'.cell? ⟨w.heap.size + 1, 0, none⟩ = some (.int .i64 n.kind) ∧ w'.cell? ⟨w.heap.size + 1, 1, none⟩ = some (.string n.name) ∧ w'.cell? ⟨w.heap.size + 1, 2, none⟩ = some (.string n.root) ∧ w'.cell? ⟨w.heap.size + 1, 3, none⟩ = some (.slice B1 n.keys.length e1) ∧ w'.cell? ⟨w.heap.size + 1, 4, none⟩ = some (.slice B2 n.objs.length e2) ∧ w'.cell? ⟨w.heap.size + 1, 5, none⟩ = some (.int .i64 n.err) ∧ Hid (Below W0.heap.size W0 w'))
      (first
        | exact hS0
        | assumption
        | (go_split_ands; exact HS.out _ (bel (Hid.out ‹Hid (Below W0.heap.size W0 _)›) ‹_›)))
      (first
        | (go_at_call 10; (with_reducible refine Calls.mono (HWM.out _ ?_) ?_); exact bel HB0.out (Hid.out (by first | assumption | (go_split_ands; assumption))); rintro e wx ⟨rfl, hBx⟩)
        | (go_at_call 10; (with_reducible refine Calls.mono (HWN.out _ ?_) ?_); exact bel HB0.out (Hid.out (by first | assumption | (go_split_ands; assumption))); rintro e wy ⟨rfl, hBy⟩))
    go_split_ands
    have HBI : Hid (Below W0.heap.size W0 _) := ‹Hid (Below W0.heap.size W0 _)›
    go_wp2_with fail
    have hS0 := HS.out _ HBI.out.drew
    go_region_held3 (fun w' => w'.cell? ⟨w.heap.size, 0, none⟩ = some (.int .i64 m.kind) ∧ w'.cell? ⟨w.heap.size, 1, none⟩ = some (.string m.name) ∧ w'.cell? ⟨w.heap.size, 2, none⟩ = some (.string m.root) ∧ w'.cell? ⟨w.heap.size, 3, none⟩ = some (.slice A1 m.keys.length c1) ∧ w'.cell? ⟨w.heap.size, 4, none⟩ = some (.slice A2 m.objs.length c2) ∧ w'.cell? ⟨w.heap.size, 5, none⟩ = some (.int .i64 m.err) ∧ w'.cell? ⟨w.heap.size + 1, 0, none⟩ = some (.int .i64 n.kind) ∧ w'.cell? ⟨w.heap.size + 1, 1, none⟩ = some (.string n.name) ∧ w'.cell? ⟨w.heap.size + 1, 2, none⟩ = some (.string n.root) ∧ w'.cell? ⟨w.heap.size + 1, 3, none⟩ = some (.slice B1 n.keys.length e1) ∧ w'.cell? ⟨w.heap.size + 1, 4, none⟩ = some (.slice B2 n.objs.length e2) ∧ w'.cell? ⟨w.heap.size + 1, 5, none⟩ = some (.int .i64 n.err) ∧ Hid (Below W0.heap.size W0 w'))
      (first
        | exact hS0
        | assumption
        | (go_split_ands; exact HS.out _ (bel (Hid.out ‹Hid (Below W0.heap.size W0 _)›) ‹_›)))
      (first
        | (go_at_call 12; (with_reducible refine Calls.mono (HSA.out _ ?_) ?_); exact bel HB0.out (Hid.out (by first | assumption | (go_split_ands; assumption))); rintro e wx ⟨rfl, hBx⟩)
        | (go_at_call 9; (with_reducible refine Calls.mono (HAW.out _ ?_) ?_); exact bel HB0.out (Hid.out (by first | assumption | (go_split_ands; assumption))); rintro e wy ⟨rfl, hBy⟩))
    go_split_ands
    have HBF : Hid (Below w.heap.size w _) := Lib.hid (bel HB0.out (Hid.out ‹Hid (Below W0.heap.size W0 _)›))
    go_wp2_with fail
    go_ret
    exact ⟨rfl, HBF.out⟩

end Go.Proofs.YthlajcohbpjgkaaDoor
