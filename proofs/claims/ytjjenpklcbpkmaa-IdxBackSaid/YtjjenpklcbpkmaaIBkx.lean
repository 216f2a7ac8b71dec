/-
  IdxBack: the ways out ahead, and the whole.
-/
import Derived.Test.YtjjenpklcbpkmaaIBkw
namespace Go.Proofs.Ytjjenpklcbpkmaa
open Go.RowKit Go.Proofs.Mem
set_option linter.unusedVariables false

set_option maxRecDepth 100000 in
set_option maxHeartbeats 4000000 in
theorem back_out (u v : Value) (l m : List Slt) (s key : ByteArray) (w : World) (hu : Slots w w.heap.size u l) (hv : Slots w w.heap.size v m) (hzl : ∀ x ∈ l, x.k.size ≤ 9223372036854775807) (hzm : ∀ x ∈ m, x.k.size ≤ 9223372036854775807)
    (hs : s.size ≤ 9223372036854775807) (hk : key.size ≤ 9223372036854775807)
    (h : ¬ ((decide (l.length ≤ 40) && l.all smallS) = true ∧ (decide (m.length ≤ 40) && m.all smallS) = true ∧ s.size ≤ 4000 ∧ key.size ≤ 100)) :
    Calls Try.prog 5 #[u, v, .string s, .string key] w fun e w' => e = .returned (.bool true) ∧ Below w.heap.size w w' := by
  have HU := Lib.hid hu
  have HV := Lib.hid hv
  have HFL := Lib.hid (fun W (h : Slots W W.heap.size u l) => few_any _ l W h hzl)
  have HFM := Lib.hid (fun W (h : Slots W W.heap.size v m) => few_any _ m W h hzm)
  have HAW := Lib.hid (fun W => awake_any W)
  obtain ⟨fl, hfl⟩ : ∃ b, b = (decide (l.length ≤ 40) && l.all smallS) := ⟨_, rfl⟩
  obtain ⟨fm, hfm⟩ : ∃ b, b = (decide (m.length ≤ 40) && m.all smallS) := ⟨_, rfl⟩
  rw [← hfl] at HFL h
  rw [← hfm] at HFM h
  clear hu hv hzl hzm hfl hfm
  cases fl with
  | false =>
    clear h
    go_enter Try.func5, Try.ntmps5
    go_wp2_with (first
      | (go_at_call 6; (with_reducible refine Calls.mono (HFL.out _ HU.out) ?_); rintro e w1 ⟨rfl, hB1⟩; have HB1 := Lib.hid hB1; clear hB1)
      | (go_at_call 7; refine Calls.mono (HAW.out _) ?_; rintro e w2 ⟨rfl, hB2⟩; have HB2 := Lib.hid (bel HB1.out hB2); clear hB2))
    go_ret
    exact ⟨rfl, HB2.out⟩
  | true =>
    cases fm with
    | false =>
      clear h
      go_enter Try.func5, Try.ntmps5
      go_wp2_with (first
        | (go_at_call 6; (with_reducible refine Calls.mono (HFL.out _ HU.out) ?_); rintro e w1 ⟨rfl, hB1⟩; have HB1 := Lib.hid hB1; have HV1 := Lib.hid (HV.out.on hB1); clear hB1)
        | (go_at_call 6; (with_reducible refine Calls.mono (HFM.out _ HV1.out) ?_); rintro e w2 ⟨rfl, hB2⟩; have HB2 := Lib.hid (bel HB1.out hB2); clear hB2)
        | (go_at_call 7; refine Calls.mono (HAW.out _) ?_; rintro e w3 ⟨rfl, hB3⟩; have HB3 := Lib.hid (bel HB2.out hB3); clear hB3))
      go_ret
      exact ⟨rfl, HB3.out⟩
    | true =>
      by_cases h4 : s.size ≤ 4000
      case neg =>
        have q1 : (4000 : Int) < (s.size : Int) := by omega
        clear h h4
        go_enter Try.func5, Try.ntmps5
        go_wp2_with (first
          | (go_at_call 6; (with_reducible refine Calls.mono (HFL.out _ HU.out) ?_); rintro e w1 ⟨rfl, hB1⟩; have HB1 := Lib.hid hB1; have HV1 := Lib.hid (HV.out.on hB1); clear hB1)
          | (go_at_call 6; (with_reducible refine Calls.mono (HFM.out _ HV1.out) ?_); rintro e w2 ⟨rfl, hB2⟩; have HB2 := Lib.hid (bel HB1.out hB2); clear hB2)
          | (go_at_call 7; refine Calls.mono (HAW.out _) ?_; rintro e w3 ⟨rfl, hB3⟩; have HB3 := Lib.hid (bel HB2.out hB3); clear hB3))
        go_ret
        exact ⟨rfl, HB3.out⟩
      have q1 : ((4000 : Int) < (s.size : Int)) = False := by simp; omega
      have h1 : ¬ key.size ≤ 100 := fun h1 => h ⟨rfl, rfl, h4, h1⟩
      have q2 : (100 : Int) < (key.size : Int) := by omega
      clear h h1 h4
      go_enter Try.func5, Try.ntmps5
      go_wp2_with (first
        | (go_at_call 6; (with_reducible refine Calls.mono (HFL.out _ HU.out) ?_); rintro e w1 ⟨rfl, hB1⟩; have HB1 := Lib.hid hB1; have HV1 := Lib.hid (HV.out.on hB1); clear hB1)
        | (go_at_call 6; (with_reducible refine Calls.mono (HFM.out _ HV1.out) ?_); rintro e w2 ⟨rfl, hB2⟩; have HB2 := Lib.hid (bel HB1.out hB2); clear hB2)
        | (go_at_call 7; refine Calls.mono (HAW.out _) ?_; rintro e w3 ⟨rfl, hB3⟩; have HB3 := Lib.hid (bel HB2.out hB3); clear hB3))
      go_ret
      exact ⟨rfl, HB3.out⟩

set_option maxRecDepth 100000 in
set_option maxHeartbeats 4000000 in
theorem back_unfit (u v : Value) (l m : List Slt) (s key : ByteArray) (w : World) (hu : Slots w w.heap.size u l) (hv : Slots w w.heap.size v m) (hzl : ∀ x ∈ l, x.k.size ≤ 9223372036854775807) (hzm : ∀ x ∈ m, x.k.size ≤ 9223372036854775807)
    (h4 : s.size ≤ 4000) (h1 : key.size ≤ 100) (hfl : (decide (l.length ≤ 40) && l.all smallS) = true) (hfm : (decide (m.length ≤ 40) && m.all smallS) = true) (h : ¬ (fitP l = true ∧ fitP m = true)) :
    Calls Try.prog 5 #[u, v, .string s, .string key] w fun e w' => e = .returned (.bool true) ∧ Below w.heap.size w w' := by
  have HU := Lib.hid hu
  have HV := Lib.hid hv
  have q1 : ((4000 : Int) < (s.size : Int)) = False := by simp; omega
  have q2 : ((100 : Int) < (key.size : Int)) = False := by simp; omega
  have HFL := Lib.hid (fun W (h : Slots W W.heap.size u l) => few_any _ l W h hzl)
  have HFM := Lib.hid (fun W (h : Slots W W.heap.size v m) => few_any _ m W h hzm)
  rw [hfl] at HFL
  rw [hfm] at HFM
  have HAW := Lib.hid (fun W => awake_any W)
  have HRS := Lib.hid (fun W => read_any s W (by omega))
  have hsw : codeOf s = 0 → writeB (readL s) = s := fun h => by unfold readL; rw [if_pos h]; exact (code_zero h).2
  have HWD := Lib.hid (fun W D (h : Slots W W.heap.size D (readL s)) => write_any D (readL s) W h (fun x hx => by rw [readL_32 x hx]; decide))
  obtain ⟨cs, hcs⟩ : ∃ n, n = codeOf s := ⟨_, rfl⟩
  rw [← hcs] at HRS hsw
  have HTL := Lib.hid (fun W (h : Slots W W.heap.size u l) => rfit_any _ l W h hzl)
  have HTM := Lib.hid (fun W (h : Slots W W.heap.size v m) => rfit_any _ m W h hzm)
  obtain ⟨pl, hpl⟩ : ∃ b, b = fitP l := ⟨_, rfl⟩
  obtain ⟨pm, hpm⟩ : ∃ b, b = fitP m := ⟨_, rfl⟩
  rw [← hpl] at HTL h
  rw [← hpm] at HTM h
  have HSW := Lib.hid hsw
  have hpp : pl = false ∨ (pl = true ∧ pm = false) := by
    cases pl <;> cases pm <;> simp_all
  have hsz : s.size ≤ 9223372036854775807 := by omega
  have hkz : key.size ≤ 9223372036854775807 := by omega
  clear hu hv hzl hzm hfl hfm hpl hpm h4 h1 h hsw
  by_cases h0 : cs = 0
  case' pos =>
    subst h0
    rw [HSW.out rfl] at HWD
    clear hcs
  case' neg =>
    have hq : ((cs : Int) == 0) = false := by rw [beq_eq_false_iff_ne]; omega
    clear hcs h0
  all_goals
    rcases hpp with rfl | ⟨rfl, rfl⟩
    all_goals
      go_enter Try.func5, Try.ntmps5
      go_wp2_with (first
        | (go_at_call 6; (with_reducible refine Calls.mono (HFL.out _ HU.out) ?_); rintro e w1 ⟨rfl, hB1⟩; have HB1 := Lib.hid hB1; have HV1 := Lib.hid (HV.out.on hB1); clear hB1)
        | (go_at_call 6; (with_reducible refine Calls.mono (HFM.out _ HV1.out) ?_); rintro e w2 ⟨rfl, hB2⟩; have HB2 := Lib.hid (bel HB1.out hB2); clear hB2)
        | (go_at_call 8; (with_reducible refine Calls.mono (HRS.out _) ?_); rintro e w3 ⟨D3, rfl, hD3, hB3⟩; have HD3 := Lib.hid hD3; have HB3 := Lib.hid (bel HB2.out hB3); have HB4 := HB3; have HU4 := Lib.hid (HU.out.on HB3.out); clear hB3 hD3)
        | (go_at_call 10; (with_reducible refine Calls.mono (HWD.out _ _ HD3.out) ?_); rintro e w4 ⟨rfl, hB4⟩; clear HB4 HU4; have HB4 := Lib.hid (bel HB3.out hB4); have HU4 := Lib.hid (HU.out.on HB4.out); clear hB4)
        | (go_at_call 22; (with_reducible refine Calls.mono (HTL.out _ HU4.out) ?_); rintro e w5 ⟨rfl, hB5⟩; have HB5 := Lib.hid (bel HB4.out hB5); have HB6 := HB5; have HV5 := Lib.hid (HV.out.on HB5.out); clear hB5)
        | (go_at_call 22; (with_reducible refine Calls.mono (HTM.out _ HV5.out) ?_); rintro e w6 ⟨rfl, hB6⟩; clear HB6; have HB6 := Lib.hid (bel HB5.out hB6); clear hB6)
        | (go_at_call 7; refine Calls.mono (HAW.out _) ?_; rintro e w7 ⟨rfl, hB7⟩; have HB7 := Lib.hid (bel HB6.out hB7); clear hB7))
      go_ret
      exact ⟨rfl, HB7.out⟩

theorem back_any (u v : Value) (l m : List Slt) (s key : ByteArray) (w : World) (hu : Slots w w.heap.size u l) (hv : Slots w w.heap.size v m) (hzl : ∀ x ∈ l, x.k.size ≤ 9223372036854775807) (hzm : ∀ x ∈ m, x.k.size ≤ 9223372036854775807)
    (hs : s.size ≤ 9223372036854775807) (hk : key.size ≤ 9223372036854775807) :
    Calls Try.prog 5 #[u, v, .string s, .string key] w fun e w' => e = .returned (.bool true) ∧ Below w.heap.size w w' := by
  by_cases h : (decide (l.length ≤ 40) && l.all smallS) = true ∧ (decide (m.length ≤ 40) && m.all smallS) = true ∧ s.size ≤ 4000 ∧ key.size ≤ 100
  · obtain ⟨hfl, hfm, h4, h1⟩ := h
    by_cases hf : fitP l = true ∧ fitP m = true
    · exact back_walk u v l m s key w hu hv hzl hzm h4 h1 hfl hfm hf.1 hf.2
    · exact back_unfit u v l m s key w hu hv hzl hzm h4 h1 hfl hfm hf
  · exact back_out u v l m s key w hu hv hzl hzm hs hk h

end Go.Proofs.Ytjjenpklcbpkmaa
