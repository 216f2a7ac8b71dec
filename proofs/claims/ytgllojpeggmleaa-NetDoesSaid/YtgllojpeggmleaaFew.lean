/-
  few, siloref24.Fit: what they tell of a sky.
-/
import Derived.Test.YtgllojpeggmleaaChoose
import Derived.Deep.QuietTactic
import Derived.BigQuiet
namespace Go.Proofs.Ytgllojpeggmleaa
open Go.RowKit Go.Proofs.Mem

theorem few_any (D : Nat → Value) (S : Nat → List ByteArray) (ch : ByteArray) (L : Nat → Int) (fair : Int) (w : World) (h0 : ∃ A c, D 0 = .slice A (S 0).length c) (h1 : ∃ A c, D 1 = .slice A (S 1).length c) :
    Calls Try.prog 7 #[skyV D ch L fair] w fun e w' => e = .returned (.bool (decide ((S 0).length ≤ 70 ∧ (S 1).length ≤ 70 ∧ ch.size ≤ 1000))) ∧ Below w.heap.size w w' := by
  obtain ⟨A0, c0, h0⟩ := h0
  obtain ⟨A1, c1, h1⟩ := h1
  unfold skyV
  rw [h0, h1]
  clear h0 h1
  generalize L 0 = l0
  generalize L 1 = l1
  generalize L 2 = l2
  generalize L 3 = l3
  generalize L 4 = l4
  generalize L 5 = l5
  generalize L 6 = l6
  generalize L 7 = l7
  generalize (S 0).length = n0
  generalize (S 1).length = n1
  obtain ⟨b, hb⟩ : ∃ b, b = decide (n0 ≤ 70 ∧ n1 ≤ 70 ∧ ch.size ≤ 1000) := ⟨_, rfl⟩
  rw [← hb]
  have HB := Lib.hid hb
  clear hb
  by_cases k0 : n0 ≤ 70
  · by_cases k1 : n1 ≤ 70
    · by_cases k2 : ch.size ≤ 1000
      all_goals
        go_enter Try.func7, Try.ntmps7
        go_wp2_with fail
        go_ret
        refine ⟨?_, by go_grown⟩
        rw [HB.out]
        simp [k0, k1, k2]
        try omega
    · go_enter Try.func7, Try.ntmps7
      go_wp2_with fail
      go_ret
      refine ⟨?_, by go_grown⟩
      rw [HB.out]
      simp [k0, k1]
      try omega
  · go_enter Try.func7, Try.ntmps7
    go_wp2_with fail
    go_ret
    refine ⟨?_, by go_grown⟩
    rw [HB.out]
    simp [k0]
    try omega

/-- A sky that can be. -/
def FitS (S : Nat → List ByteArray) (L : Nat → Int) (fair : Int) : Prop :=
  1 ≤ fair ∧ fair ≤ 8 ∧ ∀ i, i < 2 → (S i).length ≤ 60 ∧ (∀ k, k < 4 → 0 ≤ L (4 * i + k) ∧ L (4 * i + k) < fair) ∧ ∀ x ∈ S i, x.size ≤ 65536

def FitX (w : World) (S : Nat → List ByteArray) (L : Nat → Int) (fair : Int) (e : Ending) (w' : World) : Prop :=
  ∃ b : Bool, e = .returned (.bool b) ∧ (b = true ↔ FitS S L fair) ∧ Below w.heap.size w w'

theorem below_drewN {B : Nat} {a w : World} (h : Below B a w) (n : Nat) : Below B a (w.drewN n) := ⟨h.os, h.tape, h.output, h.size, h.block⟩

def OkS (S : Nat → List ByteArray) (L : Nat → Int) (fair : Int) (i : Nat) : Prop := (S i).length ≤ 60 ∧ (∀ k, k < 4 → 0 ≤ L (4 * i + k) ∧ L (4 * i + k) < fair) ∧ ∀ x ∈ S i, x.size ≤ 65536

theorem fit_no {S : Nat → List ByteArray} {L : Nat → Int} {fair : Int} (i : Nat) (hi : i < 2) (h : ¬ OkS S L fair i) : (false = true ↔ FitS S L fair) := ⟨(fun e => by cases e), fun f => absurd (f.2.2 i hi) h⟩

set_option maxHeartbeats 4000000 in
theorem rfit_any (D : Nat → Value) (S : Nat → List ByteArray) (ch : ByteArray) (L : Nat → Int) (fair : Int) (w : World) (h0 : Strs w w.heap.size (D 0) (S 0)) (h1 : Strs w w.heap.size (D 1) (S 1)) (hl0 : (S 0).length ≤ 1000) (hl1 : (S 1).length ≤ 1000) :
    Calls Try.prog 8 #[skyV D ch L fair] w (FitX w S L fair) := by
  obtain ⟨A0, c0, e0, _, _, r0⟩ := h0
  obtain ⟨A1, c1, e1, _, _, r1⟩ := h1
  unfold skyV
  rw [e0, e1]
  clear e0 e1
  by_cases hf : 1 ≤ fair ∧ fair ≤ 8
  · obtain ⟨hf1, hf8⟩ := hf
    have R0 := Lib.hid r0
    have R1 := Lib.hid r1
    clear r0 r1
    go_enter Try.func8, Try.ntmps8
    go_wp2_with fail
    obtain ⟨W, hW⟩ : ∃ W, W = w.alloc (.cells #[.slice A0 (S 0).length c0, .slice A1 (S 1).length c1, .string ch, .int .i64 (L 0), .int .i64 (L 1), .int .i64 (L 2), .int .i64 (L 3), .int .i64 (L 4), .int .i64 (L 5), .int .i64 (L 6), .int .i64 (L 7), .int .i64 fair] 27) := ⟨_, rfl⟩
    rw [← hW]
    have f11 : W.cell? ⟨w.heap.size, 11, none⟩ = some (.int .i64 fair) := by rw [hW]; go_simp
    have FK : Hid (∀ i k, i < 2 → k < 4 → W.cell? ⟨w.heap.size, 3 + i * 4 + k, none⟩ = some (.int .i64 (L (4 * i + k)))) := by
      intro i k hi hk
      have h1 : i = 0 ∨ i = 1 := by omega
      have h2 : k = 0 ∨ k = 1 ∨ k = 2 ∨ k = 3 := by omega
      rw [hW]
      rcases h1 with rfl | rfl <;> rcases h2 with rfl | rfl | rfl | rfl <;> go_simp
    have hBW : Below w.heap.size w W := by rw [hW]; go_grown
    have FD : Hid (∀ i, i < 2 → ∃ A c, W.cell? ⟨w.heap.size, i, none⟩ = some (.slice A (S i).length c) ∧ Row W w.heap.size A ((S i).map .string)) := by
      intro i hi
      have h1 : i = 0 ∨ i = 1 := by omega
      rcases h1 with rfl | rfl
      · exact ⟨A0, c0, by rw [hW]; go_simp, R0.out.below hBW⟩
      · exact ⟨A1, c1, by rw [hW]; go_simp, R1.out.below hBW⟩
    have FL : Hid (∀ i, i < 2 → (S i).length ≤ 1000) := by
      intro i hi
      have h1 : i = 0 ∨ i = 1 := by omega
      rcases h1 with rfl | rfl
      · exact hl0
      · exact hl1
    have HBW := Lib.hid hBW
    clear hW hBW hl0 hl1
    go_loopw [3, 4, 5] (fun i _ _ wr => ∃ (k n : Nat), k ≤ 2 ∧ i = .int .i64 k ∧ wr = W.drewN n ∧ Hid (∀ j, j < k → OkS S L fair j)) (fun i _ _ _ => 2 - (intOf i).toNat)
    case atStart => exact ⟨0, 0, by omega, rfl, rfl, Lib.hid (fun j hj => by omega)⟩
    case round =>
      obtain ⟨i, n, hi, rfl, rfl, hI⟩ := hrel
      by_cases hi2 : i < 2
      · obtain ⟨A, c, hA, hRow⟩ := FD.out i hi2
        have hi2b : decide ((i : Int) < 2) = true := by simp; omega
        have hl1 := FL.out i hi2
        have HR := Lib.hid hRow
        clear hRow
        by_cases k0 : (S i).length ≤ 60
        · go_wp2_with fail
          go_loopw [4] (fun v wr => ∃ (k m : Nat), k ≤ 4 ∧ v = .int .i64 k ∧ wr = W.drewN m ∧ Hid (∀ j, j < k → 0 ≤ L (4 * i + j) ∧ L (4 * i + j) < fair)) (fun v _ => 4 - (intOf v).toNat)
          case atStart => exact ⟨0, n, by omega, rfl, rfl, Lib.hid (fun j hj => by omega)⟩
          case round =>
            obtain ⟨k, m, hk, rfl, rfl, hj⟩ := hrel
            by_cases hlt : k < 4
            · have hc := FK.out i k hi2 hlt
              by_cases hL : L (4 * i + k) < 0
              · go_wp2_with fail
                go_quiet (fail)
                go_wp2_with fail
                go_ret
                exact ⟨false, rfl, fit_no i hi2 (fun h => by have := (h.2.1 k hlt).1; omega), by repeat (first | exact HBW.out | apply below_drewN)⟩
              · have hd : decide (L (4 * i + k) < 0) = false := by simpa using hL
                by_cases hG : fair ≤ L (4 * i + k)
                · go_wp2_with fail
                  go_quiet (fail)
                  go_wp2_with fail
                  go_ret
                  exact ⟨false, rfl, fit_no i hi2 (fun h => by have := (h.2.1 k hlt).2; omega), by repeat (first | exact HBW.out | apply below_drewN)⟩
                · go_wp2_with fail
                  go_quiet (fail)
                  clear hd
                  go_wp2_with fail
                  go_roundw
                  case rel =>
                    have HJ : Hid (∀ j, j < k + 1 → 0 ≤ L (4 * i + j) ∧ L (4 * i + j) < fair) := Lib.hid (fun j hj' => by
                      by_cases e : j = k
                      · subst e; exact ⟨by omega, by omega⟩
                      · exact hj.out j (by omega))
                    exact ⟨k + 1, _, by omega, by go_num, rfl, HJ⟩
                  case measure => simp [intOf]; omega
            · obtain rfl : k = 4 := by omega
              go_wp2_with fail
              go_loopw [5] (fun v wr => ∃ (k m : Nat), k ≤ (S i).length ∧ v = .int .i64 k ∧ wr = W.drewN m ∧ Hid (∀ x ∈ (S i).take k, x.size ≤ 65536)) (fun v _ => (S i).length - (intOf v).toNat)
              case atStart => exact ⟨0, m, by omega, rfl, rfl, Lib.hid (by simp)⟩
              case round =>
                obtain ⟨k, m, hk, rfl, rfl, hx⟩ := hrel
                by_cases hlt : k < (S i).length
                · obtain ⟨b, off, rfl, hb, hcell⟩ := HR.out.at_ (by simp; omega)
                  obtain ⟨x, hxe⟩ : ∃ x, x = (S i)[k] := ⟨_, rfl⟩
                  have hc := hcell k (.string x) (by simp [hlt, hxe])
                  have HX := Lib.hid hxe
                  clear hcell hxe
                  by_cases hs : 65536 < x.size
                  · go_wp2_with fail
                    go_ret
                    exact ⟨false, rfl, fit_no i hi2 (fun h => by have := h.2.2 x (by rw [HX.out]; exact List.getElem_mem _); omega), by repeat (first | exact HBW.out | apply below_drewN)⟩
                  · go_wp2_with fail
                    go_roundw
                    case rel => exact ⟨k + 1, _, by omega, by go_num, rfl, Lib.hid (fun y hy => by
                      rw [List.take_succ_eq_append_getElem hlt, List.mem_append] at hy
                      rcases hy with hy | hy
                      · exact hx.out y hy
                      · have : y = x := by rw [HX.out]; simpa using hy
                        subst this; omega)⟩
                    case measure => simp [intOf]; omega
                · obtain rfl : k = (S i).length := by omega
                  have hx' : Hid (∀ x ∈ S i, x.size ≤ 65536) := by have := hx.out; rw [List.take_length] at this; exact this
                  go_wp2_with fail
                  go_roundw
                  case rel => exact ⟨i + 1, _, by omega, by go_num, rfl, Lib.hid (fun j hj' => by
                    by_cases e : j = i
                    · subst e; exact ⟨k0, hj.out, hx'.out⟩
                    · exact hI.out j (by omega))⟩
                  case measure => simp [intOf]; omega
        · go_wp2_with fail
          go_ret
          exact ⟨false, rfl, fit_no i hi2 (fun h => k0 h.1), by repeat (first | exact HBW.out | apply below_drewN)⟩
      · obtain rfl : i = 2 := by omega
        go_wp2_with fail
        go_ret
        exact ⟨true, rfl, ⟨fun _ => ⟨hf1, hf8, fun j hj => hI.out j hj⟩, fun _ => rfl⟩, by repeat (first | exact HBW.out | apply below_drewN)⟩
  · have hno : (false = true ↔ FitS S L fair) := ⟨(fun e => by cases e), fun f => absurd ⟨f.1, f.2.1⟩ hf⟩
    have HNO := Lib.hid hno
    by_cases hf1 : fair < 1
    · clear hno hf
      go_enter Try.func8, Try.ntmps8
      go_wp2_with fail
      go_ret
      exact ⟨false, rfl, HNO.out, by go_grown⟩
    · have hf9 : 8 < fair := by omega
      clear hno hf
      go_enter Try.func8, Try.ntmps8
      go_wp2_with fail
      go_ret
      exact ⟨false, rfl, HNO.out, by go_grown⟩

end Go.Proofs.Ytgllojpeggmleaa
