/-
  The walk of NetTwice: each side.
-/
import Derived.Test.YtgllojpeggmleaaFit2
import Derived.Deep.QuietTactic
import Derived.BigQuiet
namespace Go.Proofs.Ytgllojpeggmleaa
open Go.RowKit Go.Proofs.Mem
set_option linter.unusedVariables false

set_option maxHeartbeats 4000000 in
theorem twice_walk0 (D0 D1 : Value) (S0 S1 : List ByteArray) (ch raw : ByteArray) (l0 l1 l2 l3 l4 l5 l6 l7 fair to : Int) (w : World) (h0 : Strs w w.heap.size D0 S0) (h1 : Strs w w.heap.size D1 S1) (hch : ch.size ≤ 9223372036854775807) (hraw : raw.size ≤ 9223372036854775807) (hz0 : S0.length ≤ 9223372036854775807) (hz1 : S1.length ≤ 9223372036854775807)
    (ht0 : 0 ≤ to) (ht : to ≤ 255) (hto : to % 2 = 0) :
    Calls Try.prog 5 #[.agg #[D0, D1, .string ch, .int .i64 l0, .int .i64 l1, .int .i64 l2, .int .i64 l3, .int .i64 l4, .int .i64 l5, .int .i64 l6, .int .i64 l7, .int .i64 fair], .int .u8 to, .string raw] w fun e w' => e = .returned (.bool true) ∧ Below w.heap.size w w' := by
  have H0 := Lib.hid h0
  have H1 := Lib.hid h1
  obtain ⟨A0, c0, rfl, hc0a, hc0b, _⟩ := h0
  obtain ⟨A1, c1, rfl, hc1a, hc1b, _⟩ := h1
  by_cases hfew : S0.length ≤ 70 ∧ S1.length ≤ 70 ∧ ch.size ≤ 1000
  case neg =>
    have hd : decide (S0.length ≤ 70 ∧ S1.length ≤ 70 ∧ ch.size ≤ 1000) = false := by simpa using hfew
    have HD := Lib.hid hd
    clear hd hfew hto
    go_enter Try.func5, Try.ntmps5
    go_wp2_with fail
    apply Calls.mono
    · exact few_x _ _ S0 S1 ch _ _ _ _ _ _ _ _ _ _ (by exact H0.out.alloc _) (by exact H1.out.alloc _)
    rintro e w1 ⟨rfl, hb1⟩
    rw [HD.out]
    go_wp2_with fail
    refine (awake_any _).mono ?_
    rintro e w2 ⟨rfl, hb2⟩
    go_wp2_with fail
    go_ret
    exact ⟨rfl, bel (bel (by go_grown) hb1) hb2⟩
  have hd : decide (S0.length ≤ 70 ∧ S1.length ≤ 70 ∧ ch.size ≤ 1000) = true := by simpa using hfew
  have HD := Lib.hid hd
  obtain ⟨hf0, hf1, hf2⟩ := hfew
  clear hd
  by_cases hr : 100 < raw.size
  · clear hto
    go_enter Try.func5, Try.ntmps5
    go_wp2_with fail
    apply Calls.mono
    · exact few_x _ _ S0 S1 ch _ _ _ _ _ _ _ _ _ _ (by exact H0.out.alloc _) (by exact H1.out.alloc _)
    rintro e w1 ⟨rfl, hb1⟩
    rw [HD.out]
    go_wp2_with fail
    refine (awake_any _).mono ?_
    rintro e w2 ⟨rfl, hb2⟩
    go_wp2_with fail
    go_ret
    exact ⟨rfl, bel (bel (by go_grown) hb1) hb2⟩
  go_enter Try.func5, Try.ntmps5
  go_wp2_with fail
  apply Calls.mono
  · exact few_x _ _ S0 S1 ch _ _ _ _ _ _ _ _ _ _ (by exact H0.out.alloc _) (by exact H1.out.alloc _)
  rintro e w1 ⟨rfl, hb1⟩
  rw [HD.out]
  have hlt1 : w.heap.size < w1.heap.size := by have := hb1.size; simp at this; omega
  have hB1 : Below w.heap.size w w1 := bel (by go_grown) hb1
  have k0 : w1.cell? ⟨w.heap.size, 0, none⟩ = some (.slice A0 S0.length c0) := (hb1.cell (p := ⟨w.heap.size, 0, none⟩) (by go_simp)).trans (by go_simp)
  have k1 : w1.cell? ⟨w.heap.size, 1, none⟩ = some (.slice A1 S1.length c1) := (hb1.cell (p := ⟨w.heap.size, 1, none⟩) (by go_simp)).trans (by go_simp)
  have k2 : w1.cell? ⟨w.heap.size, 2, none⟩ = some (.string ch) := (hb1.cell (p := ⟨w.heap.size, 2, none⟩) (by go_simp)).trans (by go_simp)
  have k3 : w1.cell? ⟨w.heap.size, 3, none⟩ = some (.int .i64 l0) := (hb1.cell (p := ⟨w.heap.size, 3, none⟩) (by go_simp)).trans (by go_simp)
  have k4 : w1.cell? ⟨w.heap.size, 4, none⟩ = some (.int .i64 l1) := (hb1.cell (p := ⟨w.heap.size, 4, none⟩) (by go_simp)).trans (by go_simp)
  have k5 : w1.cell? ⟨w.heap.size, 5, none⟩ = some (.int .i64 l2) := (hb1.cell (p := ⟨w.heap.size, 5, none⟩) (by go_simp)).trans (by go_simp)
  have k6 : w1.cell? ⟨w.heap.size, 6, none⟩ = some (.int .i64 l3) := (hb1.cell (p := ⟨w.heap.size, 6, none⟩) (by go_simp)).trans (by go_simp)
  have k7 : w1.cell? ⟨w.heap.size, 7, none⟩ = some (.int .i64 l4) := (hb1.cell (p := ⟨w.heap.size, 7, none⟩) (by go_simp)).trans (by go_simp)
  have k8 : w1.cell? ⟨w.heap.size, 8, none⟩ = some (.int .i64 l5) := (hb1.cell (p := ⟨w.heap.size, 8, none⟩) (by go_simp)).trans (by go_simp)
  have k9 : w1.cell? ⟨w.heap.size, 9, none⟩ = some (.int .i64 l6) := (hb1.cell (p := ⟨w.heap.size, 9, none⟩) (by go_simp)).trans (by go_simp)
  have k10 : w1.cell? ⟨w.heap.size, 10, none⟩ = some (.int .i64 l7) := (hb1.cell (p := ⟨w.heap.size, 10, none⟩) (by go_simp)).trans (by go_simp)
  have k11 : w1.cell? ⟨w.heap.size, 11, none⟩ = some (.int .i64 fair) := (hb1.cell (p := ⟨w.heap.size, 11, none⟩) (by go_simp)).trans (by go_simp)
  have f1 : ∀ o, w1.frozen? ⟨w.heap.size, o, none⟩ = false := fun o => (hb1.frozen (p := ⟨w.heap.size, o, none⟩) (by go_simp)).trans (by go_simp)
  have HB1 := Lib.hid hB1
  clear hb1 hB1
  go_wp2_with fail
  apply Calls.mono
  · exact fit_x _ _ S0 S1 ch _ _ _ _ _ _ _ _ _ _ ((H0.out.below HB1.out).more HB1.out.size) ((H1.out.below HB1.out).more HB1.out.size) (by omega) (by omega)
  rintro e w2 ⟨b, rfl, hb, hb2⟩
  cases b with
  | false =>
    clear hto
    go_wp2_with fail
    refine (awake_any _).mono ?_
    rintro e w3 ⟨rfl, hb3⟩
    go_wp2_with fail
    go_ret
    exact ⟨rfl, bel (HB1.out.trans (hb2.mono HB1.out.size)) hb3⟩
  | true =>
    have hF := fits_of (hb.1 rfl)
    have hs0 := hF.s0
    have hs1 := hF.s1
    have HF := Lib.hid hF
    have hlt2 : w.heap.size < w2.heap.size := by have := hb2.size; omega
    have HB2 := Lib.hid (HB1.out.trans (hb2.mono HB1.out.size))
    have m0 : w2.cell? ⟨w.heap.size, 0, none⟩ = some (.slice A0 S0.length c0) := (hb2.cell (p := ⟨w.heap.size, 0, none⟩) hlt1).trans k0
    have m1 : w2.cell? ⟨w.heap.size, 1, none⟩ = some (.slice A1 S1.length c1) := (hb2.cell (p := ⟨w.heap.size, 1, none⟩) hlt1).trans k1
    have m2 : w2.cell? ⟨w.heap.size, 2, none⟩ = some (.string ch) := (hb2.cell (p := ⟨w.heap.size, 2, none⟩) hlt1).trans k2
    have m3 : w2.cell? ⟨w.heap.size, 3, none⟩ = some (.int .i64 l0) := (hb2.cell (p := ⟨w.heap.size, 3, none⟩) hlt1).trans k3
    have m4 : w2.cell? ⟨w.heap.size, 4, none⟩ = some (.int .i64 l1) := (hb2.cell (p := ⟨w.heap.size, 4, none⟩) hlt1).trans k4
    have m5 : w2.cell? ⟨w.heap.size, 5, none⟩ = some (.int .i64 l2) := (hb2.cell (p := ⟨w.heap.size, 5, none⟩) hlt1).trans k5
    have m6 : w2.cell? ⟨w.heap.size, 6, none⟩ = some (.int .i64 l3) := (hb2.cell (p := ⟨w.heap.size, 6, none⟩) hlt1).trans k6
    have m7 : w2.cell? ⟨w.heap.size, 7, none⟩ = some (.int .i64 l4) := (hb2.cell (p := ⟨w.heap.size, 7, none⟩) hlt1).trans k7
    have m8 : w2.cell? ⟨w.heap.size, 8, none⟩ = some (.int .i64 l5) := (hb2.cell (p := ⟨w.heap.size, 8, none⟩) hlt1).trans k8
    have m9 : w2.cell? ⟨w.heap.size, 9, none⟩ = some (.int .i64 l6) := (hb2.cell (p := ⟨w.heap.size, 9, none⟩) hlt1).trans k9
    have m10 : w2.cell? ⟨w.heap.size, 10, none⟩ = some (.int .i64 l7) := (hb2.cell (p := ⟨w.heap.size, 10, none⟩) hlt1).trans k10
    have m11 : w2.cell? ⟨w.heap.size, 11, none⟩ = some (.int .i64 fair) := (hb2.cell (p := ⟨w.heap.size, 11, none⟩) hlt1).trans k11
    have f2 : ∀ o, w2.frozen? ⟨w.heap.size, o, none⟩ = false := fun o => (hb2.frozen (p := ⟨w.heap.size, o, none⟩) hlt1).trans (f1 o)
    clear hb hF hb2 k0 k1 k2 k3 k4 k5 k6 k7 k8 k9 k10 k11 f1
    go_wp2_with fail
    have HB2' := Lib.hid (HB2.out.setCell (p := ⟨w.heap.size, 2, none⟩) (Nat.le_refl _) (.string ⟨#[3, 2]⟩))
    apply Calls.mono
    · exact core_00_3 (.slice A0 S0.length c0) (.slice A1 S1.length c1) S0 ⟨#[3, 2]⟩ raw l0 l1 l2 l3 l4 l5 l6 l7 fair _ (by omega) (show (2 : Nat) ≤ 9223372036854775807 by omega) (by exact (H0.out.below HB2'.out).more HB2'.out.size) ⟨_, _, _, rfl⟩ (by omega) (by have := HF.out.a0; omega) (by have := HF.out.a0; have := HF.out.f8; omega) way_3
    rintro e w3 ⟨V, rfl, hV, _, hb3⟩
    rw [rest_3]
    obtain ⟨q, hq⟩ : ∃ q, (last60 (S0 ++ [raw, raw])).length = q + 2 := ⟨(last60 (S0 ++ [raw, raw])).length - 2, by rw [last60_length]; simp; omega⟩
    have hqn : q + 2 = min (S0.length + 2) 60 := by rw [← hq, last60_length]; simp
    have HV := Lib.hid hV
    obtain ⟨AV, cV, rfl, hcV1, hcV2, hrV⟩ := hV
    have hg1 : (last60 (S0 ++ [raw, raw]))[q + 1]? = some raw := by
      have h1 := congrArg List.length (rfl : last60 (S0 ++ [raw, raw]) = last60 (S0 ++ [raw, raw]))
      rw [last60_get]
      have e : (S0 ++ [raw, raw]).length - 60 + (q + 1) = S0.length + 1 := by simp; omega
      rw [e, List.getElem?_append_right (by omega)]
      simp
    have hg2 : (last60 (S0 ++ [raw, raw]))[q]? = some raw := by
      rw [last60_get]
      have e : (S0 ++ [raw, raw]).length - 60 + q = S0.length := by simp; omega
      rw [e, List.getElem?_append_right (by omega)]
      simp
    obtain ⟨bv, ov, rfl, hbv, hcv⟩ := hrV.at_ (by rw [List.length_map, hq]; omega)
    have u1 := hcv (q + 1) (.string raw) (by rw [List.getElem?_map, hg1]; rfl)
    have u0 := hcv q (.string raw) (by rw [List.getElem?_map, hg2]; rfl)
    obtain ⟨LV, hLV⟩ : ∃ LV, LV = last60 (S0 ++ [raw, raw]) := ⟨_, rfl⟩
    rw [← hLV] at HV hq hcV1 ⊢
    clear hcv hrV hg1 hg2 hLV
    rw [hq] at HV hcV1 ⊢
    have HQ := Lib.hid hq
    have HQN := Lib.hid hqn
    have hq58 : q ≤ 58 := by omega
    have HB3 := Lib.hid (bel (w1 := w2.setCell ⟨w.heap.size, 2, none⟩ (.string ⟨#[3, 2]⟩)) HB2'.out hb3)
    clear hb3 hq hqn
    go_wp2_with fail
    apply Calls.mono
    · exact core_01_2 (.slice (some ⟨bv, ov, none⟩) (q + 2) cV) (.slice A1 S1.length c1) LV ⟨#[2]⟩ ⟨#[102, 105, 114, 115, 116]⟩ 0 l1 l2 l3 l4 l5 l6 l7 fair _ (show (5 : Nat) ≤ 65536 by omega) (show (1 : Nat) ≤ 9223372036854775807 by omega) (by exact HV.out.alloc _) ⟨_, _, _, rfl⟩ (by have := HQ.out; omega) (by have := HF.out.a1; omega) (by have := HF.out.a1; have := HF.out.f8; omega) way_2
    rintro e w4 ⟨V2, rfl, hV2, _, hb4⟩
    rw [rest_2]
    obtain ⟨A2, c2, rfl, hc21, hc22, hr2⟩ := hV2
    obtain ⟨n2, hn2⟩ : ∃ n2, n2 = (last60 ([⟨#[102, 105, 114, 115, 116]⟩] ++ LV)).length := ⟨_, rfl⟩
    have hn3 : n2 = min (q + 3) 60 := by rw [hn2, last60_length]; have := HQ.out; simp; omega
    rw [← hn2] at hc21 ⊢
    have hlt4 : w3.heap.size < w4.heap.size := by have := hb4.size; simp at this; omega
    have hne2 : ((n2 : Int) == (n2 : Int)) = true := by simp
    have v1 := (hb4.cell (p := ⟨bv, ov + (q + 1), none⟩) (by simp only [World.size_alloc]; omega)).trans ((World.cell?_alloc_lt w3 _ ⟨bv, ov + (q + 1), none⟩ hbv).trans u1)
    have v0 := (hb4.cell (p := ⟨bv, ov + q, none⟩) (by simp only [World.size_alloc]; omega)).trans ((World.cell?_alloc_lt w3 _ ⟨bv, ov + q, none⟩ hbv).trans u0)
    have t0 : w4.cell? ⟨w3.heap.size, 0, none⟩ = some (.slice (some ⟨bv, ov, none⟩) (q + 2) cV) := (hb4.cell (p := ⟨w3.heap.size, 0, none⟩) (by go_simp)).trans (by go_simp)
    have t2 : w4.cell? ⟨w3.heap.size, 2, none⟩ = some (.string ⟨#[2]⟩) := (hb4.cell (p := ⟨w3.heap.size, 2, none⟩) (by go_simp)).trans (by go_simp)
    have hbv4 : bv < w4.heap.size := by omega
    have HB4 := Lib.hid (bel (w1 := w3) HB3.out (bel (by go_grown) hb4))
    have HN3 := Lib.hid hn3
    have HR2 := Lib.hid hr2
    have HL2 := Lib.hid hn2
    clear hn2 hn3 hb4 hr2
    by_cases hc : S0.length ≤ 57
    · obtain rfl : q = S0.length := by have := HQN.out; omega
      obtain rfl : n2 = S0.length + 3 := by have := HN3.out; omega
      obtain ⟨b2, o2, rfl, hb2', hc2'⟩ := HR2.out.at_ (by rw [List.length_map, ← HL2.out]; omega)
      have hh : (last60 ([(⟨#[102, 105, 114, 115, 116]⟩ : ByteArray)] ++ LV))[0]? = some ⟨#[102, 105, 114, 115, 116]⟩ := by
        rw [last60_get]
        have e : ([(⟨#[102, 105, 114, 115, 116]⟩ : ByteArray)] ++ LV).length - 60 + 0 = 0 := by have := HQ.out; simp; omega
        rw [e]
        rfl
      have x0 := hc2' 0 (.string ⟨#[102, 105, 114, 115, 116]⟩) (by rw [List.getElem?_map, hh]; rfl)
      rw [Nat.add_zero] at x0
      clear hc2' hh
      go_wp2_with fail
      refine (awake_any _).mono ?_
      rintro e w5 ⟨rfl, hb5⟩
      go_wp2_with fail
      go_ret
      exact ⟨rfl, bel (bel HB4.out (by go_grown)) hb5⟩
    · obtain rfl : n2 = 60 := by have := HN3.out; have := HQN.out; omega
      by_cases hd : S0.length ≤ 58
      · obtain rfl : q = S0.length := by have := HQN.out; omega
        go_wp2_with fail
        refine (awake_any _).mono ?_
        rintro e w5 ⟨rfl, hb5⟩
        go_wp2_with fail
        go_ret
        exact ⟨rfl, bel (bel HB4.out (by go_grown)) hb5⟩
      · obtain rfl : q = 58 := by have := HQN.out; omega
        have h60 : (60 : Int) < (S0.length : Int) + 2 := by omega
        go_wp2_with fail
        refine (awake_any _).mono ?_
        rintro e w5 ⟨rfl, hb5⟩
        go_wp2_with fail
        go_ret
        exact ⟨rfl, bel (bel HB4.out (by go_grown)) hb5⟩

set_option maxHeartbeats 4000000 in
theorem twice_walk1 (D0 D1 : Value) (S0 S1 : List ByteArray) (ch raw : ByteArray) (l0 l1 l2 l3 l4 l5 l6 l7 fair to : Int) (w : World) (h0 : Strs w w.heap.size D0 S0) (h1 : Strs w w.heap.size D1 S1) (hch : ch.size ≤ 9223372036854775807) (hraw : raw.size ≤ 9223372036854775807) (hz0 : S0.length ≤ 9223372036854775807) (hz1 : S1.length ≤ 9223372036854775807)
    (ht0 : 0 ≤ to) (ht : to ≤ 255) (hto : to % 2 = 1) :
    Calls Try.prog 5 #[.agg #[D0, D1, .string ch, .int .i64 l0, .int .i64 l1, .int .i64 l2, .int .i64 l3, .int .i64 l4, .int .i64 l5, .int .i64 l6, .int .i64 l7, .int .i64 fair], .int .u8 to, .string raw] w fun e w' => e = .returned (.bool true) ∧ Below w.heap.size w w' := by
  have H0 := Lib.hid h0
  have H1 := Lib.hid h1
  obtain ⟨A0, c0, rfl, hc0a, hc0b, _⟩ := h0
  obtain ⟨A1, c1, rfl, hc1a, hc1b, _⟩ := h1
  by_cases hfew : S0.length ≤ 70 ∧ S1.length ≤ 70 ∧ ch.size ≤ 1000
  case neg =>
    have hd : decide (S0.length ≤ 70 ∧ S1.length ≤ 70 ∧ ch.size ≤ 1000) = false := by simpa using hfew
    have HD := Lib.hid hd
    clear hd hfew hto
    go_enter Try.func5, Try.ntmps5
    go_wp2_with fail
    apply Calls.mono
    · exact few_x _ _ S0 S1 ch _ _ _ _ _ _ _ _ _ _ (by exact H0.out.alloc _) (by exact H1.out.alloc _)
    rintro e w1 ⟨rfl, hb1⟩
    rw [HD.out]
    go_wp2_with fail
    refine (awake_any _).mono ?_
    rintro e w2 ⟨rfl, hb2⟩
    go_wp2_with fail
    go_ret
    exact ⟨rfl, bel (bel (by go_grown) hb1) hb2⟩
  have hd : decide (S0.length ≤ 70 ∧ S1.length ≤ 70 ∧ ch.size ≤ 1000) = true := by simpa using hfew
  have HD := Lib.hid hd
  obtain ⟨hf0, hf1, hf2⟩ := hfew
  clear hd
  by_cases hr : 100 < raw.size
  · clear hto
    go_enter Try.func5, Try.ntmps5
    go_wp2_with fail
    apply Calls.mono
    · exact few_x _ _ S0 S1 ch _ _ _ _ _ _ _ _ _ _ (by exact H0.out.alloc _) (by exact H1.out.alloc _)
    rintro e w1 ⟨rfl, hb1⟩
    rw [HD.out]
    go_wp2_with fail
    refine (awake_any _).mono ?_
    rintro e w2 ⟨rfl, hb2⟩
    go_wp2_with fail
    go_ret
    exact ⟨rfl, bel (bel (by go_grown) hb1) hb2⟩
  go_enter Try.func5, Try.ntmps5
  go_wp2_with fail
  apply Calls.mono
  · exact few_x _ _ S0 S1 ch _ _ _ _ _ _ _ _ _ _ (by exact H0.out.alloc _) (by exact H1.out.alloc _)
  rintro e w1 ⟨rfl, hb1⟩
  rw [HD.out]
  have hlt1 : w.heap.size < w1.heap.size := by have := hb1.size; simp at this; omega
  have hB1 : Below w.heap.size w w1 := bel (by go_grown) hb1
  have k0 : w1.cell? ⟨w.heap.size, 0, none⟩ = some (.slice A0 S0.length c0) := (hb1.cell (p := ⟨w.heap.size, 0, none⟩) (by go_simp)).trans (by go_simp)
  have k1 : w1.cell? ⟨w.heap.size, 1, none⟩ = some (.slice A1 S1.length c1) := (hb1.cell (p := ⟨w.heap.size, 1, none⟩) (by go_simp)).trans (by go_simp)
  have k2 : w1.cell? ⟨w.heap.size, 2, none⟩ = some (.string ch) := (hb1.cell (p := ⟨w.heap.size, 2, none⟩) (by go_simp)).trans (by go_simp)
  have k3 : w1.cell? ⟨w.heap.size, 3, none⟩ = some (.int .i64 l0) := (hb1.cell (p := ⟨w.heap.size, 3, none⟩) (by go_simp)).trans (by go_simp)
  have k4 : w1.cell? ⟨w.heap.size, 4, none⟩ = some (.int .i64 l1) := (hb1.cell (p := ⟨w.heap.size, 4, none⟩) (by go_simp)).trans (by go_simp)
  have k5 : w1.cell? ⟨w.heap.size, 5, none⟩ = some (.int .i64 l2) := (hb1.cell (p := ⟨w.heap.size, 5, none⟩) (by go_simp)).trans (by go_simp)
  have k6 : w1.cell? ⟨w.heap.size, 6, none⟩ = some (.int .i64 l3) := (hb1.cell (p := ⟨w.heap.size, 6, none⟩) (by go_simp)).trans (by go_simp)
  have k7 : w1.cell? ⟨w.heap.size, 7, none⟩ = some (.int .i64 l4) := (hb1.cell (p := ⟨w.heap.size, 7, none⟩) (by go_simp)).trans (by go_simp)
  have k8 : w1.cell? ⟨w.heap.size, 8, none⟩ = some (.int .i64 l5) := (hb1.cell (p := ⟨w.heap.size, 8, none⟩) (by go_simp)).trans (by go_simp)
  have k9 : w1.cell? ⟨w.heap.size, 9, none⟩ = some (.int .i64 l6) := (hb1.cell (p := ⟨w.heap.size, 9, none⟩) (by go_simp)).trans (by go_simp)
  have k10 : w1.cell? ⟨w.heap.size, 10, none⟩ = some (.int .i64 l7) := (hb1.cell (p := ⟨w.heap.size, 10, none⟩) (by go_simp)).trans (by go_simp)
  have k11 : w1.cell? ⟨w.heap.size, 11, none⟩ = some (.int .i64 fair) := (hb1.cell (p := ⟨w.heap.size, 11, none⟩) (by go_simp)).trans (by go_simp)
  have f1 : ∀ o, w1.frozen? ⟨w.heap.size, o, none⟩ = false := fun o => (hb1.frozen (p := ⟨w.heap.size, o, none⟩) (by go_simp)).trans (by go_simp)
  have HB1 := Lib.hid hB1
  clear hb1 hB1
  go_wp2_with fail
  apply Calls.mono
  · exact fit_x _ _ S0 S1 ch _ _ _ _ _ _ _ _ _ _ ((H0.out.below HB1.out).more HB1.out.size) ((H1.out.below HB1.out).more HB1.out.size) (by omega) (by omega)
  rintro e w2 ⟨b, rfl, hb, hb2⟩
  cases b with
  | false =>
    clear hto
    go_wp2_with fail
    refine (awake_any _).mono ?_
    rintro e w3 ⟨rfl, hb3⟩
    go_wp2_with fail
    go_ret
    exact ⟨rfl, bel (HB1.out.trans (hb2.mono HB1.out.size)) hb3⟩
  | true =>
    have hF := fits_of (hb.1 rfl)
    have hs0 := hF.s0
    have hs1 := hF.s1
    have HF := Lib.hid hF
    have hlt2 : w.heap.size < w2.heap.size := by have := hb2.size; omega
    have HB2 := Lib.hid (HB1.out.trans (hb2.mono HB1.out.size))
    have m0 : w2.cell? ⟨w.heap.size, 0, none⟩ = some (.slice A0 S0.length c0) := (hb2.cell (p := ⟨w.heap.size, 0, none⟩) hlt1).trans k0
    have m1 : w2.cell? ⟨w.heap.size, 1, none⟩ = some (.slice A1 S1.length c1) := (hb2.cell (p := ⟨w.heap.size, 1, none⟩) hlt1).trans k1
    have m2 : w2.cell? ⟨w.heap.size, 2, none⟩ = some (.string ch) := (hb2.cell (p := ⟨w.heap.size, 2, none⟩) hlt1).trans k2
    have m3 : w2.cell? ⟨w.heap.size, 3, none⟩ = some (.int .i64 l0) := (hb2.cell (p := ⟨w.heap.size, 3, none⟩) hlt1).trans k3
    have m4 : w2.cell? ⟨w.heap.size, 4, none⟩ = some (.int .i64 l1) := (hb2.cell (p := ⟨w.heap.size, 4, none⟩) hlt1).trans k4
    have m5 : w2.cell? ⟨w.heap.size, 5, none⟩ = some (.int .i64 l2) := (hb2.cell (p := ⟨w.heap.size, 5, none⟩) hlt1).trans k5
    have m6 : w2.cell? ⟨w.heap.size, 6, none⟩ = some (.int .i64 l3) := (hb2.cell (p := ⟨w.heap.size, 6, none⟩) hlt1).trans k6
    have m7 : w2.cell? ⟨w.heap.size, 7, none⟩ = some (.int .i64 l4) := (hb2.cell (p := ⟨w.heap.size, 7, none⟩) hlt1).trans k7
    have m8 : w2.cell? ⟨w.heap.size, 8, none⟩ = some (.int .i64 l5) := (hb2.cell (p := ⟨w.heap.size, 8, none⟩) hlt1).trans k8
    have m9 : w2.cell? ⟨w.heap.size, 9, none⟩ = some (.int .i64 l6) := (hb2.cell (p := ⟨w.heap.size, 9, none⟩) hlt1).trans k9
    have m10 : w2.cell? ⟨w.heap.size, 10, none⟩ = some (.int .i64 l7) := (hb2.cell (p := ⟨w.heap.size, 10, none⟩) hlt1).trans k10
    have m11 : w2.cell? ⟨w.heap.size, 11, none⟩ = some (.int .i64 fair) := (hb2.cell (p := ⟨w.heap.size, 11, none⟩) hlt1).trans k11
    have f2 : ∀ o, w2.frozen? ⟨w.heap.size, o, none⟩ = false := fun o => (hb2.frozen (p := ⟨w.heap.size, o, none⟩) hlt1).trans (f1 o)
    clear hb hF hb2 k0 k1 k2 k3 k4 k5 k6 k7 k8 k9 k10 k11 f1
    go_wp2_with fail
    have HB2' := Lib.hid (HB2.out.setCell (p := ⟨w.heap.size, 2, none⟩) (Nat.le_refl _) (.string ⟨#[3, 2]⟩))
    apply Calls.mono
    · exact core_10_3 (.slice A0 S0.length c0) (.slice A1 S1.length c1) S1 ⟨#[3, 2]⟩ raw l0 l1 l2 l3 l4 l5 l6 l7 fair _ (by omega) (show (2 : Nat) ≤ 9223372036854775807 by omega) (by exact (H1.out.below HB2'.out).more HB2'.out.size) ⟨_, _, _, rfl⟩ (by omega) (by have := HF.out.a4; omega) (by have := HF.out.a4; have := HF.out.f8; omega) way_3
    rintro e w3 ⟨V, rfl, hV, _, hb3⟩
    rw [rest_3]
    obtain ⟨q, hq⟩ : ∃ q, (last60 (S1 ++ [raw, raw])).length = q + 2 := ⟨(last60 (S1 ++ [raw, raw])).length - 2, by rw [last60_length]; simp; omega⟩
    have hqn : q + 2 = min (S1.length + 2) 60 := by rw [← hq, last60_length]; simp
    have HV := Lib.hid hV
    obtain ⟨AV, cV, rfl, hcV1, hcV2, hrV⟩ := hV
    have hg1 : (last60 (S1 ++ [raw, raw]))[q + 1]? = some raw := by
      have h1 := congrArg List.length (rfl : last60 (S1 ++ [raw, raw]) = last60 (S1 ++ [raw, raw]))
      rw [last60_get]
      have e : (S1 ++ [raw, raw]).length - 60 + (q + 1) = S1.length + 1 := by simp; omega
      rw [e, List.getElem?_append_right (by omega)]
      simp
    have hg2 : (last60 (S1 ++ [raw, raw]))[q]? = some raw := by
      rw [last60_get]
      have e : (S1 ++ [raw, raw]).length - 60 + q = S1.length := by simp; omega
      rw [e, List.getElem?_append_right (by omega)]
      simp
    obtain ⟨bv, ov, rfl, hbv, hcv⟩ := hrV.at_ (by rw [List.length_map, hq]; omega)
    have u1 := hcv (q + 1) (.string raw) (by rw [List.getElem?_map, hg1]; rfl)
    have u0 := hcv q (.string raw) (by rw [List.getElem?_map, hg2]; rfl)
    obtain ⟨LV, hLV⟩ : ∃ LV, LV = last60 (S1 ++ [raw, raw]) := ⟨_, rfl⟩
    rw [← hLV] at HV hq hcV1 ⊢
    clear hcv hrV hg1 hg2 hLV
    rw [hq] at HV hcV1 ⊢
    have HQ := Lib.hid hq
    have HQN := Lib.hid hqn
    have hq58 : q ≤ 58 := by omega
    have HB3 := Lib.hid (bel (w1 := w2.setCell ⟨w.heap.size, 2, none⟩ (.string ⟨#[3, 2]⟩)) HB2'.out hb3)
    clear hb3 hq hqn
    go_wp2_with fail
    apply Calls.mono
    · exact core_11_2 (.slice A0 S0.length c0) (.slice (some ⟨bv, ov, none⟩) (q + 2) cV) LV ⟨#[2]⟩ ⟨#[102, 105, 114, 115, 116]⟩ l0 l1 l2 l3 0 l5 l6 l7 fair _ (show (5 : Nat) ≤ 65536 by omega) (show (1 : Nat) ≤ 9223372036854775807 by omega) (by exact HV.out.alloc _) ⟨_, _, _, rfl⟩ (by have := HQ.out; omega) (by have := HF.out.a5; omega) (by have := HF.out.a5; have := HF.out.f8; omega) way_2
    rintro e w4 ⟨V2, rfl, hV2, _, hb4⟩
    rw [rest_2]
    obtain ⟨A2, c2, rfl, hc21, hc22, hr2⟩ := hV2
    obtain ⟨n2, hn2⟩ : ∃ n2, n2 = (last60 ([⟨#[102, 105, 114, 115, 116]⟩] ++ LV)).length := ⟨_, rfl⟩
    have hn3 : n2 = min (q + 3) 60 := by rw [hn2, last60_length]; have := HQ.out; simp; omega
    rw [← hn2] at hc21 ⊢
    have hlt4 : w3.heap.size < w4.heap.size := by have := hb4.size; simp at this; omega
    have hne2 : ((n2 : Int) == (n2 : Int)) = true := by simp
    have v1 := (hb4.cell (p := ⟨bv, ov + (q + 1), none⟩) (by simp only [World.size_alloc]; omega)).trans ((World.cell?_alloc_lt w3 _ ⟨bv, ov + (q + 1), none⟩ hbv).trans u1)
    have v0 := (hb4.cell (p := ⟨bv, ov + q, none⟩) (by simp only [World.size_alloc]; omega)).trans ((World.cell?_alloc_lt w3 _ ⟨bv, ov + q, none⟩ hbv).trans u0)
    have t0 : w4.cell? ⟨w3.heap.size, 1, none⟩ = some (.slice (some ⟨bv, ov, none⟩) (q + 2) cV) := (hb4.cell (p := ⟨w3.heap.size, 1, none⟩) (by go_simp)).trans (by go_simp)
    have t2 : w4.cell? ⟨w3.heap.size, 2, none⟩ = some (.string ⟨#[2]⟩) := (hb4.cell (p := ⟨w3.heap.size, 2, none⟩) (by go_simp)).trans (by go_simp)
    have hbv4 : bv < w4.heap.size := by omega
    have HB4 := Lib.hid (bel (w1 := w3) HB3.out (bel (by go_grown) hb4))
    have HN3 := Lib.hid hn3
    have HR2 := Lib.hid hr2
    have HL2 := Lib.hid hn2
    clear hn2 hn3 hb4 hr2
    by_cases hc : S1.length ≤ 57
    · obtain rfl : q = S1.length := by have := HQN.out; omega
      obtain rfl : n2 = S1.length + 3 := by have := HN3.out; omega
      obtain ⟨b2, o2, rfl, hb2', hc2'⟩ := HR2.out.at_ (by rw [List.length_map, ← HL2.out]; omega)
      have hh : (last60 ([(⟨#[102, 105, 114, 115, 116]⟩ : ByteArray)] ++ LV))[0]? = some ⟨#[102, 105, 114, 115, 116]⟩ := by
        rw [last60_get]
        have e : ([(⟨#[102, 105, 114, 115, 116]⟩ : ByteArray)] ++ LV).length - 60 + 0 = 0 := by have := HQ.out; simp; omega
        rw [e]
        rfl
      have x0 := hc2' 0 (.string ⟨#[102, 105, 114, 115, 116]⟩) (by rw [List.getElem?_map, hh]; rfl)
      rw [Nat.add_zero] at x0
      clear hc2' hh
      go_wp2_with fail
      refine (awake_any _).mono ?_
      rintro e w5 ⟨rfl, hb5⟩
      go_wp2_with fail
      go_ret
      exact ⟨rfl, bel (bel HB4.out (by go_grown)) hb5⟩
    · obtain rfl : n2 = 60 := by have := HN3.out; have := HQN.out; omega
      by_cases hd : S1.length ≤ 58
      · obtain rfl : q = S1.length := by have := HQN.out; omega
        go_wp2_with fail
        refine (awake_any _).mono ?_
        rintro e w5 ⟨rfl, hb5⟩
        go_wp2_with fail
        go_ret
        exact ⟨rfl, bel (bel HB4.out (by go_grown)) hb5⟩
      · obtain rfl : q = 58 := by have := HQN.out; omega
        have h60 : (60 : Int) < (S1.length : Int) + 2 := by omega
        go_wp2_with fail
        refine (awake_any _).mono ?_
        rintro e w5 ⟨rfl, hb5⟩
        go_wp2_with fail
        go_ret
        exact ⟨rfl, bel (bel HB4.out (by go_grown)) hb5⟩

end Go.Proofs.Ytgllojpeggmleaa
