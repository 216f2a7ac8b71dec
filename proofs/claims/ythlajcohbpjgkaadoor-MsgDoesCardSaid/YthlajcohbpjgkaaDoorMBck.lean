/-
  MsgBack's walk.
-/
import Derived.Test.YthlajcohbpjgkaaDoorMAwk
import Derived.Test.YthlajcohbpjgkaaDoorMFit
namespace Go.Proofs.YthlajcohbpjgkaaDoor
open Go.RowKit Go.Shelf Go.Proofs.Mem
set_option linter.unusedVariables false

theorem fit_name (m : MsgL) (h : fitL m = true) : m.name.size ≤ maxLen := by
  rcases fit_cases m h with ⟨n, r, rfl, hn, _⟩ | ⟨l, rfl, _⟩ | ⟨l, rfl, _⟩ | ⟨e, rfl, _⟩
  · unfold nameB at hn
    simp only [Bool.and_eq_true, decide_eq_true_eq] at hn
    have := hn.2.1
    show n.size ≤ maxLen
    unfold maxLen
    omega
  · exact Nat.zero_le _
  · exact Nat.zero_le _
  · exact Nat.zero_le _
theorem write_unfit (m : MsgL) (h : fitL m = false) : writeL m = ⟨#[]⟩ := by
  unfold writeL
  rw [if_pos h]
theorem rsm_self (u v : Value) (m : MsgL) (w : World) (hl : MsgV w w.heap.size u m) (hm : MsgV w w.heap.size v m) :
    Calls Tryd.prog 12 #[u, v] w fun e w' => e = .returned (.bool true) ∧ Below w.heap.size w w' :=
  (rsm_any u v m m w hl hm).mono fun e w' ⟨h1, h2⟩ => ⟨by rw [h1, decide_eq_true rfl], h2⟩

set_option maxRecDepth 100000 in
set_option maxHeartbeats 4000000 in
theorem back_walk (u : Value) (m : MsgL) (s : ByteArray) (w : World) (hm : MsgV w w.heap.size u m) (he : ErrT w) (hn : m.name.size ≤ 1000000000000000000) (hr : m.root.size ≤ 1000000000000000000) (hsz : s.size ≤ maxLen) :
    Calls Tryd.prog 6 #[u, .string s] w fun e w' => e = .returned (.bool true) ∧ Below w.heap.size w w' := by
  have hnm : m.name.size ≤ maxLen := by unfold maxLen; omega
  have HFEW := Lib.hid (fun W (hb : Below w.heap.size w W) => few_any u m W (hm.on hb) (by omega))
  have HAW := Lib.hid (fun W (hb : Below w.heap.size w W) => awake_any W (he.on hb))
  obtain ⟨A1, c1, A2, c2, hu⟩ := hm.shape
  subst hu
  have HM := Lib.hid hm
  unfold maxLen at hsz
  by_cases h5 : s.size ≤ 5000
  case neg =>
    have d1 : decide (5000 < (s.size : Int)) = true := decide_eq_true (by omega)
    have d2 : decide (5000 < s.size) = true := decide_eq_true (by omega)
    clear hm he hn hr hnm h5
    go_enter Tryd.func6, Tryd.ntmps6
    go_wp2_with (first
      | (go_at_call 7; refine Calls.mono (HFEW.out _ ?_) ?_; go_grown; rintro e w1 ⟨b1, rfl, hfw, hb1⟩; obtain ⟨hc1, hf1⟩ := bcell hb1; have hz1 : w.heap.size < w1.heap.size := (by have := hb1.size; simp at this; omega); have HB1 : Hid (Below w.heap.size w w1) := Lib.hid (bel (by go_grown) hb1); clear hb1 hfw)
      | (go_at_call 9; refine Calls.mono (HAW.out _ ?_) ?_; (first | exact HB1.out); rintro e wa ⟨rfl, hba⟩; have HBA : Hid (Below w.heap.size w wa) := Lib.hid (bel (by first | exact HB1.out) hba); clear hba))
    all_goals
      go_ret
      exact ⟨rfl, HBA.out⟩
  have d1 : decide (5000 < (s.size : Int)) = false := decide_eq_false (by omega)
  have d2 : decide (5000 < s.size) = false := decide_eq_false (by omega)
  have HR1 := Lib.hid (fun W (hb : Below w.heap.size w W) => mread_any s W (he.on hb) (by omega))
  have HWR := Lib.hid (fun W (hb : Below w.heap.size w W) => mwrite_any _ m W (hm.on hb) hnm)
  obtain ⟨t, ht⟩ : ∃ t, t = writeL m := ⟨_, rfl⟩
  have htz : t.size ≤ 170000 := by rw [ht]; exact write_size m
  rw [← ht] at HWR
  have HR2 := Lib.hid (fun W (hb : Below w.heap.size w W) => mread_any t W (he.on hb) (by omega))
  cases hrs : readM s with
  | none =>
    rw [hrs] at HR1
    cases hf : fitL m with
    | false =>
      have HFI := Lib.hid (fun W (hb : Below w.heap.size w W) => rfit_any _ m W false hf (hm.on hb) hnm)
      have z1 : t.toList.isEmpty = true := by rw [List.isEmpty_iff, str_nil, ht, write_unfit m hf]; rfl
      clear hm he hn hr hf hnm h5 ht htz hrs
      go_enter Tryd.func6, Tryd.ntmps6
      go_wp2_with (first
        | (go_at_call 7; refine Calls.mono (HFEW.out _ ?_) ?_; go_grown; rintro e w1 ⟨b1, rfl, hfw, hb1⟩; obtain ⟨hc1, hf1⟩ := bcell hb1; have hz1 : w.heap.size < w1.heap.size := (by have := hb1.size; simp at this; omega); have HB1 : Hid (Below w.heap.size w w1) := Lib.hid (bel (by go_grown) hb1); clear hb1 hfw)
        | (go_at_call 9; refine Calls.mono (HAW.out _ ?_) ?_; (first | exact HB6.out | exact HB1.out); rintro e wa ⟨rfl, hba⟩; have HBA : Hid (Below w.heap.size w wa) := Lib.hid (bel (by first | exact HB6.out | exact HB1.out) hba); clear hba)
        | (go_at_call 11; (with_reducible refine Calls.mono (HR1.out _ HB1.out) ?_); rintro e w2 ⟨⟨v, rfl, hv⟩, hb2⟩; obtain ⟨B1, d1', B2, d2', rfl⟩ := hv.shape; have HV : Hid (MsgV w2 w2.heap.size (.agg #[.int .i64 0, .string ⟨#[]⟩, .string ⟨#[]⟩, .slice B1 0 d1', .slice B2 0 d2', .int .i64 0]) emptyL) := Lib.hid hv; unfold emptyL; dsimp only [List.length_nil]; have hM2 := (fun (o : Nat) => hb2.cell (p := ⟨w.heap.size, o, none⟩) hz1); have hz2 : w.heap.size < w2.heap.size := (by have := hb2.size; omega); have hy2 : ¬ w.heap.size = w2.heap.size := (by omega); have HB2 : Hid (Below w.heap.size w w2) := Lib.hid (bel HB1.out hb2); have HS1 := Lib.hid (fun W (hb : Below w2.heap.size w2 W) => rsm_self (.agg #[.int .i64 0, .string ⟨#[]⟩, .string ⟨#[]⟩, .slice B1 0 d1', .slice B2 0 d2', .int .i64 0]) (.agg #[.int .i64 0, .string ⟨#[]⟩, .string ⟨#[]⟩, .slice none 0 0, .slice none 0 0, .int .i64 0]) emptyL W (HV.out.on hb) (MsgV.bare 0 0 _ _)); clear hv hb2)
        | (go_at_call 12; (with_reducible refine Calls.mono (HS1.out _ ?_) ?_); go_grown; rintro e w3 ⟨rfl, hb3⟩; have hM3 := (fun (o : Nat) => hb3.cell (p := ⟨w.heap.size, o, none⟩) (by simp; omega)); have hz3 : w.heap.size < w3.heap.size := (by have := hb3.size; simp at this; omega); have HB3 : Hid (Below w.heap.size w w3) := Lib.hid (bel (HB2.out.alloc HB2.out.size _) hb3); clear hb3)
        | (go_at_call 10; (with_reducible refine Calls.mono (HWR.out _ HB3.out) ?_); rintro e w5 ⟨rfl, hb5⟩; have hM5 := (fun (o : Nat) => hb5.cell (p := ⟨w.heap.size, o, none⟩) hz3); have hz5 : w.heap.size < w5.heap.size := (by have := hb5.size; omega); have HB5 : Hid (Below w.heap.size w w5) := Lib.hid (bel HB3.out hb5); clear hb5)
        | (go_at_call 8; (with_reducible refine Calls.mono (HFI.out _ HB5.out) ?_); rintro e w6 ⟨rfl, hb6⟩; have hM6 := (fun (o : Nat) => hb6.cell (p := ⟨w.heap.size, o, none⟩) hz5); have hz6 : w.heap.size < w6.heap.size := (by have := hb6.size; omega); have HB6 : Hid (Below w.heap.size w w6) := Lib.hid (bel HB5.out hb6); clear hb6))
      all_goals
        go_ret
        exact ⟨rfl, HBA.out⟩
    | true =>
      have HFI := Lib.hid (fun W (hb : Below w.heap.size w W) => rfit_any _ m W true hf (hm.on hb) hnm)
      rw [show readM t = some m by rw [ht]; exact read_write m hf] at HR2
      clear hm he hn hr hf hnm h5 ht htz hrs
      go_enter Tryd.func6, Tryd.ntmps6
      go_wp2_with (first
        | (go_at_call 7; refine Calls.mono (HFEW.out _ ?_) ?_; go_grown; rintro e w1 ⟨b1, rfl, hfw, hb1⟩; obtain ⟨hc1, hf1⟩ := bcell hb1; have hz1 : w.heap.size < w1.heap.size := (by have := hb1.size; simp at this; omega); have HB1 : Hid (Below w.heap.size w w1) := Lib.hid (bel (by go_grown) hb1); clear hb1 hfw)
        | (go_at_call 9; refine Calls.mono (HAW.out _ ?_) ?_; (first | exact HB8.out | exact HB1.out); rintro e wa ⟨rfl, hba⟩; have HBA : Hid (Below w.heap.size w wa) := Lib.hid (bel (by first | exact HB8.out | exact HB1.out) hba); clear hba)
        | (go_at_call 11; (with_reducible refine Calls.mono (HR1.out _ HB1.out) ?_); rintro e w2 ⟨⟨v, rfl, hv⟩, hb2⟩; obtain ⟨B1, d1', B2, d2', rfl⟩ := hv.shape; have HV : Hid (MsgV w2 w2.heap.size (.agg #[.int .i64 0, .string ⟨#[]⟩, .string ⟨#[]⟩, .slice B1 0 d1', .slice B2 0 d2', .int .i64 0]) emptyL) := Lib.hid hv; unfold emptyL; dsimp only [List.length_nil]; have hM2 := (fun (o : Nat) => hb2.cell (p := ⟨w.heap.size, o, none⟩) hz1); have hz2 : w.heap.size < w2.heap.size := (by have := hb2.size; omega); have hy2 : ¬ w.heap.size = w2.heap.size := (by omega); have HB2 : Hid (Below w.heap.size w w2) := Lib.hid (bel HB1.out hb2); have HS1 := Lib.hid (fun W (hb : Below w2.heap.size w2 W) => rsm_self (.agg #[.int .i64 0, .string ⟨#[]⟩, .string ⟨#[]⟩, .slice B1 0 d1', .slice B2 0 d2', .int .i64 0]) (.agg #[.int .i64 0, .string ⟨#[]⟩, .string ⟨#[]⟩, .slice none 0 0, .slice none 0 0, .int .i64 0]) emptyL W (HV.out.on hb) (MsgV.bare 0 0 _ _)); clear hv hb2)
        | (go_at_call 12; (with_reducible refine Calls.mono (HS1.out _ ?_) ?_); go_grown; rintro e w3 ⟨rfl, hb3⟩; have hM3 := (fun (o : Nat) => hb3.cell (p := ⟨w.heap.size, o, none⟩) (by simp; omega)); have hz3 : w.heap.size < w3.heap.size := (by have := hb3.size; simp at this; omega); have HB3 : Hid (Below w.heap.size w w3) := Lib.hid (bel (HB2.out.alloc HB2.out.size _) hb3); clear hb3)
        | (go_at_call 10; (with_reducible refine Calls.mono (HWR.out _ HB3.out) ?_); rintro e w5 ⟨rfl, hb5⟩; have hM5 := (fun (o : Nat) => hb5.cell (p := ⟨w.heap.size, o, none⟩) hz3); have hz5 : w.heap.size < w5.heap.size := (by have := hb5.size; omega); have HB5 : Hid (Below w.heap.size w w5) := Lib.hid (bel HB3.out hb5); clear hb5)
        | (go_at_call 8; (with_reducible refine Calls.mono (HFI.out _ HB5.out) ?_); rintro e w6 ⟨rfl, hb6⟩; have hM6 := (fun (o : Nat) => hb6.cell (p := ⟨w.heap.size, o, none⟩) hz5); have hz6 : w.heap.size < w6.heap.size := (by have := hb6.size; omega); have HB6 : Hid (Below w.heap.size w w6) := Lib.hid (bel HB5.out hb6); clear hb6)
        | (go_at_call 11; (with_reducible refine Calls.mono (HR2.out _ HB6.out) ?_); rintro e w7 ⟨⟨v7, rfl, hv7⟩, hb7⟩; obtain ⟨C1, e1', C2, e2', rfl⟩ := hv7.shape; have HV7 := Lib.hid hv7; have hM7 := (fun (o : Nat) => hb7.cell (p := ⟨w.heap.size, o, none⟩) hz6); have hz7 : w.heap.size < w7.heap.size := (by have := hb7.size; omega); have hy7 : ¬ w.heap.size = w7.heap.size := (by omega); have HB7 : Hid (Below w.heap.size w w7) := Lib.hid (bel HB6.out hb7); have HS2 := Lib.hid (fun W (hb : Below w7.heap.size w7 W) => rsm_self _ _ m W (HV7.out.on hb) (HM.out.on (bel HB7.out hb))); clear hv7 hb7)
        | (go_at_call 12; (with_reducible refine Calls.mono (HS2.out _ ?_) ?_); go_grown; rintro e w8 ⟨rfl, hb8⟩; have HB8 : Hid (Below w.heap.size w w8) := Lib.hid (bel (HB7.out.alloc HB7.out.size _) hb8); clear hb8))
      all_goals
        go_ret
        exact ⟨rfl, HBA.out⟩
  | some a =>
    rw [hrs] at HR1
    obtain ⟨hfa, hwa⟩ := write_readM s a hrs
    have hna := fit_name a hfa
    have HWA0 := Lib.hid (fun u W (hu : MsgV W W.heap.size u a) => mwrite_any u a W hu hna)
    rw [hwa] at HWA0
    have HFA0 := Lib.hid (fun u W (hu : MsgV W W.heap.size u a) => mfit_any u a W true hfa hu hna)
    have q1 : (s.toList == s.toList) = true := beq_self_eq_true _
    clear hfa hwa hna
    cases hf : fitL m with
    | false =>
      have HFI := Lib.hid (fun W (hb : Below w.heap.size w W) => rfit_any _ m W false hf (hm.on hb) hnm)
      have z1 : t.toList.isEmpty = true := by rw [List.isEmpty_iff, str_nil, ht, write_unfit m hf]; rfl
      clear hm he hn hr hf hnm h5 ht htz hrs
      go_enter Tryd.func6, Tryd.ntmps6
      go_wp2_with (first
        | (go_at_call 7; refine Calls.mono (HFEW.out _ ?_) ?_; go_grown; rintro e w1 ⟨b1, rfl, hfw, hb1⟩; obtain ⟨hc1, hf1⟩ := bcell hb1; have hz1 : w.heap.size < w1.heap.size := (by have := hb1.size; simp at this; omega); have HB1 : Hid (Below w.heap.size w w1) := Lib.hid (bel (by go_grown) hb1); clear hb1 hfw)
        | (go_at_call 9; refine Calls.mono (HAW.out _ ?_) ?_; (first | exact HB6.out | exact HB1.out); rintro e wa ⟨rfl, hba⟩; have HBA : Hid (Below w.heap.size w wa) := Lib.hid (bel (by first | exact HB6.out | exact HB1.out) hba); clear hba)
        | (go_at_call 11; (with_reducible refine Calls.mono (HR1.out _ HB1.out) ?_); rintro e w2 ⟨⟨v, rfl, hv⟩, hb2⟩; obtain ⟨B1, d1', B2, d2', rfl⟩ := hv.shape; have HV := Lib.hid hv; have hM2 := (fun (o : Nat) => hb2.cell (p := ⟨w.heap.size, o, none⟩) hz1); have hz2 : w.heap.size < w2.heap.size := (by have := hb2.size; omega); have hy2 : ¬ w.heap.size = w2.heap.size := (by omega); have HB2 : Hid (Below w.heap.size w w2) := Lib.hid (bel HB1.out hb2); have HWA := Lib.hid (fun W (hb : Below w2.heap.size w2 W) => HWA0.out _ W (HV.out.on hb)); have HFA := Lib.hid (fun W (hb : Below w2.heap.size w2 W) => HFA0.out _ W (HV.out.on hb)); clear hv hb2)
        | (go_at_call 10; (with_reducible refine Calls.mono (HWA.out _ ?_) ?_); go_grown; rintro e w3 ⟨rfl, hb3⟩; have hM3 := (fun (o : Nat) => hb3.cell (p := ⟨w.heap.size, o, none⟩) (by simp; omega)); have hA3 := (fun (o : Nat) => hb3.cell (p := ⟨w2.heap.size, o, none⟩) (by simp)); have hz3 : w.heap.size < w3.heap.size := (by have := hb3.size; simp at this; omega); have HB3 : Hid (Below w.heap.size w w3) := Lib.hid (bel (HB2.out.alloc HB2.out.size _) hb3); have HK3 : Hid (Below w2.heap.size w2 w3) := Lib.hid (bel (by go_grown) hb3); clear hb3)
        | (go_at_call 14; (with_reducible refine Calls.mono (HFA.out _ HK3.out) ?_); rintro e w4 ⟨rfl, hb4⟩; have hM4 := (fun (o : Nat) => hb4.cell (p := ⟨w.heap.size, o, none⟩) hz3); have hz4 : w.heap.size < w4.heap.size := (by have := hb4.size; omega); have HB4 : Hid (Below w.heap.size w w4) := Lib.hid (bel HB3.out hb4); clear hb4)
        | (go_at_call 10; (with_reducible refine Calls.mono (HWR.out _ HB4.out) ?_); rintro e w5 ⟨rfl, hb5⟩; have hM5 := (fun (o : Nat) => hb5.cell (p := ⟨w.heap.size, o, none⟩) hz4); have hz5 : w.heap.size < w5.heap.size := (by have := hb5.size; omega); have HB5 : Hid (Below w.heap.size w w5) := Lib.hid (bel HB4.out hb5); clear hb5)
        | (go_at_call 8; (with_reducible refine Calls.mono (HFI.out _ HB5.out) ?_); rintro e w6 ⟨rfl, hb6⟩; have hM6 := (fun (o : Nat) => hb6.cell (p := ⟨w.heap.size, o, none⟩) hz5); have hz6 : w.heap.size < w6.heap.size := (by have := hb6.size; omega); have HB6 : Hid (Below w.heap.size w w6) := Lib.hid (bel HB5.out hb6); clear hb6))
      all_goals
        go_ret
        exact ⟨rfl, HBA.out⟩
    | true =>
      have HFI := Lib.hid (fun W (hb : Below w.heap.size w W) => rfit_any _ m W true hf (hm.on hb) hnm)
      rw [show readM t = some m by rw [ht]; exact read_write m hf] at HR2
      clear hm he hn hr hf hnm h5 ht htz hrs
      go_enter Tryd.func6, Tryd.ntmps6
      go_wp2_with (first
        | (go_at_call 7; refine Calls.mono (HFEW.out _ ?_) ?_; go_grown; rintro e w1 ⟨b1, rfl, hfw, hb1⟩; obtain ⟨hc1, hf1⟩ := bcell hb1; have hz1 : w.heap.size < w1.heap.size := (by have := hb1.size; simp at this; omega); have HB1 : Hid (Below w.heap.size w w1) := Lib.hid (bel (by go_grown) hb1); clear hb1 hfw)
        | (go_at_call 9; refine Calls.mono (HAW.out _ ?_) ?_; (first | exact HB8.out | exact HB1.out); rintro e wa ⟨rfl, hba⟩; have HBA : Hid (Below w.heap.size w wa) := Lib.hid (bel (by first | exact HB8.out | exact HB1.out) hba); clear hba)
        | (go_at_call 11; (with_reducible refine Calls.mono (HR1.out _ HB1.out) ?_); rintro e w2 ⟨⟨v, rfl, hv⟩, hb2⟩; obtain ⟨B1, d1', B2, d2', rfl⟩ := hv.shape; have HV := Lib.hid hv; have hM2 := (fun (o : Nat) => hb2.cell (p := ⟨w.heap.size, o, none⟩) hz1); have hz2 : w.heap.size < w2.heap.size := (by have := hb2.size; omega); have hy2 : ¬ w.heap.size = w2.heap.size := (by omega); have HB2 : Hid (Below w.heap.size w w2) := Lib.hid (bel HB1.out hb2); have HWA := Lib.hid (fun W (hb : Below w2.heap.size w2 W) => HWA0.out _ W (HV.out.on hb)); have HFA := Lib.hid (fun W (hb : Below w2.heap.size w2 W) => HFA0.out _ W (HV.out.on hb)); clear hv hb2)
        | (go_at_call 10; (with_reducible refine Calls.mono (HWA.out _ ?_) ?_); go_grown; rintro e w3 ⟨rfl, hb3⟩; have hM3 := (fun (o : Nat) => hb3.cell (p := ⟨w.heap.size, o, none⟩) (by simp; omega)); have hA3 := (fun (o : Nat) => hb3.cell (p := ⟨w2.heap.size, o, none⟩) (by simp)); have hz3 : w.heap.size < w3.heap.size := (by have := hb3.size; simp at this; omega); have HB3 : Hid (Below w.heap.size w w3) := Lib.hid (bel (HB2.out.alloc HB2.out.size _) hb3); have HK3 : Hid (Below w2.heap.size w2 w3) := Lib.hid (bel (by go_grown) hb3); clear hb3)
        | (go_at_call 14; (with_reducible refine Calls.mono (HFA.out _ HK3.out) ?_); rintro e w4 ⟨rfl, hb4⟩; have hM4 := (fun (o : Nat) => hb4.cell (p := ⟨w.heap.size, o, none⟩) hz3); have hz4 : w.heap.size < w4.heap.size := (by have := hb4.size; omega); have HB4 : Hid (Below w.heap.size w w4) := Lib.hid (bel HB3.out hb4); clear hb4)
        | (go_at_call 10; (with_reducible refine Calls.mono (HWR.out _ HB4.out) ?_); rintro e w5 ⟨rfl, hb5⟩; have hM5 := (fun (o : Nat) => hb5.cell (p := ⟨w.heap.size, o, none⟩) hz4); have hz5 : w.heap.size < w5.heap.size := (by have := hb5.size; omega); have HB5 : Hid (Below w.heap.size w w5) := Lib.hid (bel HB4.out hb5); clear hb5)
        | (go_at_call 8; (with_reducible refine Calls.mono (HFI.out _ HB5.out) ?_); rintro e w6 ⟨rfl, hb6⟩; have hM6 := (fun (o : Nat) => hb6.cell (p := ⟨w.heap.size, o, none⟩) hz5); have hz6 : w.heap.size < w6.heap.size := (by have := hb6.size; omega); have HB6 : Hid (Below w.heap.size w w6) := Lib.hid (bel HB5.out hb6); clear hb6)
        | (go_at_call 11; (with_reducible refine Calls.mono (HR2.out _ HB6.out) ?_); rintro e w7 ⟨⟨v7, rfl, hv7⟩, hb7⟩; obtain ⟨C1, e1', C2, e2', rfl⟩ := hv7.shape; have HV7 := Lib.hid hv7; have hM7 := (fun (o : Nat) => hb7.cell (p := ⟨w.heap.size, o, none⟩) hz6); have hz7 : w.heap.size < w7.heap.size := (by have := hb7.size; omega); have hy7 : ¬ w.heap.size = w7.heap.size := (by omega); have HB7 : Hid (Below w.heap.size w w7) := Lib.hid (bel HB6.out hb7); have HS2 := Lib.hid (fun W (hb : Below w7.heap.size w7 W) => rsm_self _ _ m W (HV7.out.on hb) (HM.out.on (bel HB7.out hb))); clear hv7 hb7)
        | (go_at_call 12; (with_reducible refine Calls.mono (HS2.out _ ?_) ?_); go_grown; rintro e w8 ⟨rfl, hb8⟩; have HB8 : Hid (Below w.heap.size w w8) := Lib.hid (bel (HB7.out.alloc HB7.out.size _) hb8); clear hb8))
      all_goals
        go_ret
        exact ⟨rfl, HBA.out⟩

end Go.Proofs.YthlajcohbpjgkaaDoor
