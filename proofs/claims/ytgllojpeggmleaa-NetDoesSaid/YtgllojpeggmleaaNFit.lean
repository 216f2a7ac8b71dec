/-
  net.Fit.
-/
import Derived.Test.YtgllojpeggmleaaFew
namespace Go.Proofs.Ytgllojpeggmleaa
open Go.RowKit Go.Proofs.Mem
set_option linter.unusedVariables false

theorem long_any (raw : ByteArray) (hr : raw.size ≤ 9223372036854775807) (w : World) : Calls Try.prog 19 #[.string raw] w fun e w' => e = .returned (.bool (decide (65536 < raw.size))) ∧ w' = w := by
  obtain ⟨b, hb⟩ : ∃ b, b = decide (65536 < raw.size) := ⟨_, rfl⟩
  rw [← hb]
  have hb2 : decide ((65536 : Int) < (raw.size : Int)) = b := by rw [hb]; exact decide_eq_decide.2 (by omega)
  have HB := Lib.hid hb
  clear hb
  go_enter Try.func19, Try.ntmps19
  go_wp2_with fail
  go_ret
  refine ⟨?_, rfl⟩
  first | rfl | (rw [HB.out]; congr 3; exact decide_eq_decide.2 (by omega))

theorem odd_any (n fair : Int) (B : Nat) (w : World) (hf : w.cell? ⟨B, 11, none⟩ = some (.int .i64 fair)) : Calls Try.prog 20 #[.int .i64 n, .pointer (some ⟨B, 0, none⟩)] w fun e w' => e = .returned (.bool (decide (n < 0 ∨ fair ≤ n))) ∧ w' = w := by
  by_cases h0 : n < 0
  · rw [decide_eq_true (show n < 0 ∨ fair ≤ n from .inl h0)]
    go_enter Try.func20, Try.ntmps20
    go_wp2_with fail
    go_ret
    exact ⟨rfl, rfl⟩
  · have hd : decide (n < 0) = false := decide_eq_false h0
    by_cases h1 : fair ≤ n
    · rw [decide_eq_true (show n < 0 ∨ fair ≤ n from .inr h1)]
      go_enter Try.func20, Try.ntmps20
      go_wp2_with fail
      go_ret
      exact ⟨rfl, rfl⟩
    · rw [decide_eq_false (show ¬ (n < 0 ∨ fair ≤ n) from fun h => h.elim h0 h1)]
      have hd1 : decide (fair ≤ n) = false := decide_eq_false h1
      go_enter Try.func20, Try.ntmps20
      go_wp2_with fail
      go_ret
      exact ⟨rfl, rfl⟩

set_option maxHeartbeats 1000000 in
theorem idxLong (a : List ByteArray) (u : Value) (w : World) (h1 : Strs w w.heap.size u a) (hz : ∀ x ∈ a, x.size ≤ 9223372036854775807) :
    Calls Try.prog 27 #[u, .func (.func 19) #[] #[]] w fun e w' => (∃ r : Int, e = .returned (.int .i64 r) ∧ (0 ≤ r ↔ ∃ x ∈ a, 65536 < x.size)) ∧ Below w.heap.size w w' := by
  obtain ⟨A1, c1, rfl, hm1, hm2, hr1⟩ := h1
  have hla : a.length ≤ 9223372036854775807 := Nat.le_trans hm1 (Nat.le_trans hm2 (by unfold maxLen; omega))
  have HR1 := Lib.hid hr1
  have HZ := Lib.hid hz
  clear hr1 hm1 hm2 hz
  go_enter Try.func27, Try.ntmps27
  go_wp2_with fail
  go_loopw [5, 8] (fun _ i wr => ∃ k : Nat, i = .int .i64 k ∧ k ≤ a.length ∧ Hid (∀ x ∈ a.take k, ¬ 65536 < x.size) ∧ Hid (Below w.heap.size w wr)) (fun _ i _ => a.length + 1 - (intOf i).toNat)
  case atStart => exact ⟨0, rfl, Nat.zero_le _, Lib.hid (by simp), Lib.hid (Below.refl _ _)⟩
  case round =>
    obtain ⟨k, rfl, hk, hE, hBr⟩ := hrel
    by_cases hlt : k < a.length
    · obtain ⟨b1, o1, rfl, hb1, hcl1⟩ := HR1.out.at_ (by simp; omega)
      obtain ⟨x, hx⟩ : ∃ x, a[k]? = some x := ⟨a[k], List.getElem?_eq_getElem (by omega)⟩
      have hxa : x ∈ a := List.mem_of_getElem? hx
      have q1 := (hBr.out.cell (p := ⟨b1, o1 + k, none⟩) hb1).trans (hcl1 k (.string x) (by rw [List.getElem?_map, hx]; rfl))
      have HX := Lib.hid hx
      have HXA := Lib.hid hxa
      clear hcl1 hx hxa
      have i1 : (k : Int) < (a.length : Int) := by omega
      have i3 : (0 : Int) ≤ (k : Int) := by omega
      obtain ⟨b, hb⟩ : ∃ b, b = decide (65536 < x.size) := ⟨_, rfl⟩
      have HB := Lib.hid hb
      clear hb
      cases b with
      | true =>
        go_wp2_with (go_at_call 19; refine (long_any x (HZ.out x HXA.out) _).mono ?_; rintro e w' ⟨rfl, rfl⟩; rw [← HB.out])
        go_ret
        exact ⟨⟨k, rfl, ⟨fun _ => ⟨x, HXA.out, of_decide_eq_true HB.out.symm⟩, fun _ => by omega⟩⟩, hBr.out⟩
      | false =>
        go_wp2_with (go_at_call 19; refine (long_any x (HZ.out x HXA.out) _).mono ?_; rintro e w' ⟨rfl, rfl⟩; rw [← HB.out])
        go_roundw
        case rel => exact ⟨k + 1, by go_num, by omega, Lib.hid (by
          intro y hy
          rw [List.take_add_one, HX.out] at hy
          rcases List.mem_append.1 hy with h | h
          · exact hE.out y h
          · obtain rfl : y = x := by simpa using h
            exact of_decide_eq_false HB.out.symm), Lib.hid hBr.out⟩
        case measure => simp [intOf]; omega
    · obtain rfl : k = a.length := by omega
      go_wp2_with fail
      go_ret
      refine ⟨⟨-1, rfl, ⟨fun h => absurd h (by omega), fun ⟨x, hx, hl⟩ => absurd hl (hE.out x (by rw [List.take_length]; exact hx))⟩⟩, hBr.out⟩

theorem hasLong (a : List ByteArray) (u : Value) (w : World) (h1 : Strs w w.heap.size u a) (hz : ∀ x ∈ a, x.size ≤ 9223372036854775807) :
    Calls Try.prog 22 #[u, .func (.func 19) #[] #[]] w fun e w' => (∃ b : Bool, e = .returned (.bool b) ∧ (b = true ↔ ∃ x ∈ a, 65536 < x.size)) ∧ Below w.heap.size w w' := by
  obtain ⟨P, hP⟩ : ∃ P : Prop, P = (∃ x ∈ a, 65536 < x.size) := ⟨_, rfl⟩
  have C := Lib.hid (idxLong a u w h1 hz)
  rw [← hP] at C ⊢
  clear h1 hz hP
  go_enter Try.func22, Try.ntmps22
  go_wp2_with (go_at_call 27; refine C.out.mono ?_; rintro e w' ⟨⟨r, rfl, hr⟩, hb⟩; have HR := Lib.hid hr; have HB := Lib.hid hb; clear hr hb)
  go_ret
  exact ⟨⟨decide (0 ≤ r), rfl, by rw [decide_eq_true_iff]; exact HR.out⟩, HB.out⟩

set_option maxHeartbeats 1000000 in
theorem idxOdd (B off c : Nat) (L : Nat → Int) (fair : Int) (w : World) (hB : B < w.heap.size) (hL : ∀ k, k < 4 → w.cell? ⟨B, off + k, none⟩ = some (.int .i64 (L k))) (hf : w.cell? ⟨B, 11, none⟩ = some (.int .i64 fair)) :
    Calls Try.prog 26 #[.slice (some ⟨B, off, none⟩) 4 c, .func (.func 20) #[] #[.pointer (some ⟨B, 0, none⟩)]] w fun e w' => (∃ r : Int, e = .returned (.int .i64 r) ∧ (0 ≤ r ↔ ∃ k, k < 4 ∧ (L k < 0 ∨ fair ≤ L k))) ∧ Below w.heap.size w w' := by
  have HL := Lib.hid hL
  clear hL
  go_enter Try.func26, Try.ntmps26
  go_wp2_with fail
  go_loopw [5, 8] (fun _ i wr => ∃ k : Nat, i = .int .i64 k ∧ k ≤ 4 ∧ Hid (∀ j, j < k → ¬ (L j < 0 ∨ fair ≤ L j)) ∧ Hid (Below w.heap.size w wr)) (fun _ i _ => 5 - (intOf i).toNat)
  case atStart => exact ⟨0, rfl, Nat.zero_le _, Lib.hid (fun j hj => by omega), Lib.hid (Below.refl _ _)⟩
  case round =>
    obtain ⟨k, rfl, hk, hE, hBr⟩ := hrel
    by_cases hlt : k < 4
    · have q1 := (hBr.out.cell (p := ⟨B, off + k, none⟩) hB).trans (HL.out k hlt)
      have HF := Lib.hid ((hBr.out.cell (p := ⟨B, 11, none⟩) hB).trans hf)
      have i1 : (k : Int) < 4 := by omega
      have i3 : (0 : Int) ≤ (k : Int) := by omega
      have i4 : decide ((k : Int) < 4) = true := decide_eq_true i1
      obtain ⟨b, hb⟩ : ∃ b, b = decide (L k < 0 ∨ fair ≤ L k) := ⟨_, rfl⟩
      have HB := Lib.hid hb
      clear hb
      cases b with
      | true =>
        go_wp2_with (go_at_call 20; refine (odd_any _ fair B _ (by first | exact HF.out | exact (by go_simp; exact HF.out))).mono ?_; rintro e w' ⟨rfl, rfl⟩; rw [← HB.out])
        go_ret
        exact ⟨⟨k, rfl, ⟨fun _ => ⟨k, hlt, of_decide_eq_true HB.out.symm⟩, fun _ => by omega⟩⟩, hBr.out⟩
      | false =>
        go_wp2_with (go_at_call 20; refine (odd_any _ fair B _ (by first | exact HF.out | exact (by go_simp; exact HF.out))).mono ?_; rintro e w' ⟨rfl, rfl⟩; rw [← HB.out])
        go_roundw
        case rel => exact ⟨k + 1, by go_num, by omega, Lib.hid (by
          intro j hj
          by_cases e : j = k
          · subst e; exact of_decide_eq_false HB.out.symm
          · exact hE.out j (by omega)), Lib.hid hBr.out⟩
        case measure => simp [intOf]; omega
    · obtain rfl : k = 4 := by omega
      go_wp2_with fail
      go_ret
      refine ⟨⟨-1, rfl, ⟨fun h => absurd h (by omega), fun ⟨j, hj, hl⟩ => absurd hl (hE.out j hj)⟩⟩, hBr.out⟩

theorem hasOdd (B off c : Nat) (L : Nat → Int) (fair : Int) (w : World) (hB : B < w.heap.size) (hL : ∀ k, k < 4 → w.cell? ⟨B, off + k, none⟩ = some (.int .i64 (L k))) (hf : w.cell? ⟨B, 11, none⟩ = some (.int .i64 fair)) :
    Calls Try.prog 21 #[.slice (some ⟨B, off, none⟩) 4 c, .func (.func 20) #[] #[.pointer (some ⟨B, 0, none⟩)]] w fun e w' => (∃ b : Bool, e = .returned (.bool b) ∧ (b = true ↔ ∃ k, k < 4 ∧ (L k < 0 ∨ fair ≤ L k))) ∧ Below w.heap.size w w' := by
  have C := Lib.hid (idxOdd B off c L fair w hB hL hf)
  clear hL hf
  go_enter Try.func21, Try.ntmps21
  go_wp2_with (go_at_call 26; refine C.out.mono ?_; rintro e w' ⟨⟨r, rfl, hr⟩, hb⟩; have HR := Lib.hid hr; have HB := Lib.hid hb; clear hr hb)
  go_ret
  exact ⟨⟨decide (0 ≤ r), rfl, by rw [decide_eq_true_iff]; exact HR.out⟩, HB.out⟩

theorem two0 (A0 A1 : Option Addr) (n0 n1 c0 c1 : Nat) (w : World) : (Instr.index 23 (.agg #[.slice A0 n0 c0, .slice A1 n1 c1]) (.int .i64 0)).run Try.prog w = .ok (.slice A0 n0 c0) w := by kernel_rfl
theorem two1 (A0 A1 : Option Addr) (n0 n1 c0 c1 : Nat) (w : World) : (Instr.index 23 (.agg #[.slice A0 n0 c0, .slice A1 n1 c1]) (.int .i64 1)).run Try.prog w = .ok (.slice A1 n1 c1) w := by kernel_rfl

set_option maxHeartbeats 4000000 in
theorem nfit_any (D : Nat → Value) (S : Nat → List ByteArray) (ch : ByteArray) (L : Nat → Int) (fair : Int) (w : World) (h0 : Strs w w.heap.size (D 0) (S 0)) (h1 : Strs w w.heap.size (D 1) (S 1)) (hl0 : (S 0).length ≤ 1000) (hl1 : (S 1).length ≤ 1000)
    (hz0 : ∀ x ∈ S 0, x.size ≤ 9223372036854775807) (hz1 : ∀ x ∈ S 1, x.size ≤ 9223372036854775807) :
    Calls Try.prog 12 #[skyV D ch L fair] w (FitX w S L fair) := by
  have K0 := Lib.hid h0
  have K1 := Lib.hid h1
  obtain ⟨A0, c0, e0, _, _, r0⟩ := h0
  obtain ⟨A1, c1, e1, _, _, r1⟩ := h1
  unfold skyV
  rw [e0] at K0 ⊢
  rw [e1] at K1 ⊢
  clear e0 e1 r0 r1
  by_cases hf : 1 ≤ fair ∧ fair ≤ 8
  · obtain ⟨hf1, hf8⟩ := hf
    go_enter Try.func12, Try.ntmps12
    go_wp2_with fail
    obtain ⟨W, hW⟩ : ∃ W, W = w.alloc (.cells #[.slice A0 (S 0).length c0, .slice A1 (S 1).length c1, .string ch, .int .i64 (L 0), .int .i64 (L 1), .int .i64 (L 2), .int .i64 (L 3), .int .i64 (L 4), .int .i64 (L 5), .int .i64 (L 6), .int .i64 (L 7), .int .i64 fair] 27) := ⟨_, rfl⟩
    rw [← hW]
    have f11 : W.cell? ⟨w.heap.size, 11, none⟩ = some (.int .i64 fair) := by rw [hW]; go_simp
    have hlt : w.heap.size < W.heap.size := by rw [hW]; simp
    have FK : Hid (∀ i, i < 2 → ∀ k, k < 4 → W.cell? ⟨w.heap.size, 3 + i * 4 + k, none⟩ = some (.int .i64 (L (4 * i + k)))) := by
      intro i hi k hk
      have h1 : i = 0 ∨ i = 1 := by omega
      have h2 : k = 0 ∨ k = 1 ∨ k = 2 ∨ k = 3 := by omega
      rw [hW]
      rcases h1 with rfl | rfl <;> rcases h2 with rfl | rfl | rfl | rfl <;> go_simp
    have hBW : Below w.heap.size w W := by rw [hW]; go_grown
    have K0' := Lib.hid (K0.out.on hBW)
    have K1' := Lib.hid (K1.out.on hBW)
    have HBW := Lib.hid hBW
    have HZ0 := Lib.hid hz0
    have HZ1 := Lib.hid hz1
    have F11 := Lib.hid f11
    clear hW hBW K0 K1 hz0 hz1 f11
    go_loopw [3, 4, 5, 6, 17] (fun _ _ _ _ i wr => ∃ k : Nat, k ≤ 2 ∧ i = .int .i64 k ∧ Hid (Below W.heap.size W wr) ∧ Hid (∀ j, j < k → OkS S L fair j)) (fun _ _ _ _ i _ => 2 - (intOf i).toNat)
    case atStart => exact ⟨0, by omega, rfl, Lib.hid (Below.refl _ _), Lib.hid (fun j hj => by omega)⟩
    case round =>
      obtain ⟨i, hi, rfl, hBr, hI⟩ := hrel
      have hltr : w.heap.size < wr.heap.size := Nat.lt_of_lt_of_le hlt hBr.out.size
      have FR : Hid (∀ i, i < 2 → ∀ k, k < 4 → wr.cell? ⟨w.heap.size, 3 + i * 4 + k, none⟩ = some (.int .i64 (L (4 * i + k)))) := Lib.hid fun i hi k hk => (hBr.out.cell (p := ⟨w.heap.size, 3 + i * 4 + k, none⟩) hlt).trans (FK.out i hi k hk)
      have F11r : Hid (wr.cell? ⟨w.heap.size, 11, none⟩ = some (.int .i64 fair)) := Lib.hid ((hBr.out.cell (p := ⟨w.heap.size, 11, none⟩) hlt).trans F11.out)
      obtain rfl | h12 : i = 0 ∨ 1 ≤ i := by omega
      · skip
        have hq := two0 A0 A1 (S 0).length (S 1).length c0 c1
        by_cases k0 : (S 0).length ≤ 60
        · by_cases hodd : ∃ k, k < 4 ∧ (L (4 * 0 + k) < 0 ∨ fair ≤ L (4 * 0 + k))
          · have HO := Lib.hid hodd
            clear hodd
            go_wp2_with (first
              | (go_at_call 21
                 refine Calls.mono (hasOdd w.heap.size 3 4 (fun k => L (4 * 0 + k)) fair _ (by first | exact hltr | (simp only [World.heap_drewN]; exact hltr)) (fun k hk => by first | exact FR.out 0 (by omega) k hk | (rw [World.cell?_drewN]; exact FR.out 0 (by omega) k hk)) (by first | exact F11r.out | (rw [World.cell?_drewN]; exact F11r.out))) ?_
                 rintro e w1 ⟨⟨b, rfl, hb⟩, hB1⟩
                 obtain rfl : b = true := by exact hb.2 HO.out
                 have HB1 := Lib.hid (hBr.out.trans (hB1.mono hBr.out.size))
                 clear hb hB1)
              | (go_at_call 22
                 refine Calls.mono (hasLong (S 0) _ _ ((K0'.out.on HB1.out)) HZ0.out) ?_
                 rintro e w2 ⟨⟨b, rfl, hb⟩, hB2⟩
                 obtain rfl : b = false := by (cases b with | false => rfl | true => exact absurd (hb.1 rfl) HG.out)
                 have HB2 := Lib.hid (HB1.out.trans (hB2.mono HB1.out.size))
                 clear hb hB2))
            go_ret
            exact ⟨false, rfl, fit_no 0 (by omega) (fun h => by
              obtain ⟨k, hk, hh⟩ := HO.out
              have := h.2.1 k hk
              omega), (HBW.out.trans (HB1.out.mono HBW.out.size))⟩
          · have HO := Lib.hid hodd
            clear hodd
            by_cases hlong : ∃ x ∈ S 0, 65536 < x.size
            · have HG := Lib.hid hlong
              clear hlong
              go_wp2_with (first
                | (go_at_call 21
                   refine Calls.mono (hasOdd w.heap.size 3 4 (fun k => L (4 * 0 + k)) fair _ (by first | exact hltr | (simp only [World.heap_drewN]; exact hltr)) (fun k hk => by first | exact FR.out 0 (by omega) k hk | (rw [World.cell?_drewN]; exact FR.out 0 (by omega) k hk)) (by first | exact F11r.out | (rw [World.cell?_drewN]; exact F11r.out))) ?_
                   rintro e w1 ⟨⟨b, rfl, hb⟩, hB1⟩
                   obtain rfl : b = false := by (cases b with | false => rfl | true => exact absurd (hb.1 rfl) HO.out)
                   have HB1 := Lib.hid (hBr.out.trans (hB1.mono hBr.out.size))
                   clear hb hB1)
                | (go_at_call 22
                   refine Calls.mono (hasLong (S 0) _ _ ((K0'.out.on HB1.out)) HZ0.out) ?_
                   rintro e w2 ⟨⟨b, rfl, hb⟩, hB2⟩
                   obtain rfl : b = true := by exact hb.2 HG.out
                   have HB2 := Lib.hid (HB1.out.trans (hB2.mono HB1.out.size))
                   clear hb hB2))
              go_ret
              exact ⟨false, rfl, fit_no 0 (by omega) (fun h => by
                obtain ⟨x, hx, hh⟩ := HG.out
                have := h.2.2 x hx
                omega), (HBW.out.trans (HB2.out.mono HBW.out.size))⟩
            · have HG := Lib.hid hlong
              clear hlong
              go_wp2_with (first
                | (go_at_call 21
                   refine Calls.mono (hasOdd w.heap.size 3 4 (fun k => L (4 * 0 + k)) fair _ (by first | exact hltr | (simp only [World.heap_drewN]; exact hltr)) (fun k hk => by first | exact FR.out 0 (by omega) k hk | (rw [World.cell?_drewN]; exact FR.out 0 (by omega) k hk)) (by first | exact F11r.out | (rw [World.cell?_drewN]; exact F11r.out))) ?_
                   rintro e w1 ⟨⟨b, rfl, hb⟩, hB1⟩
                   obtain rfl : b = false := by (cases b with | false => rfl | true => exact absurd (hb.1 rfl) HO.out)
                   have HB1 := Lib.hid (hBr.out.trans (hB1.mono hBr.out.size))
                   clear hb hB1)
                | (go_at_call 22
                   refine Calls.mono (hasLong (S 0) _ _ ((K0'.out.on HB1.out)) HZ0.out) ?_
                   rintro e w2 ⟨⟨b, rfl, hb⟩, hB2⟩
                   obtain rfl : b = false := by (cases b with | false => rfl | true => exact absurd (hb.1 rfl) HG.out)
                   have HB2 := Lib.hid (HB1.out.trans (hB2.mono HB1.out.size))
                   clear hb hB2))
              go_roundw
              case rel => exact ⟨1, by omega, by go_num, HB2, Lib.hid (fun j hj => by
                by_cases e : j = 0
                · subst e
                  refine ⟨k0, fun k hk => ?_, fun x hx => ?_⟩
                  · have : ¬ (L (4 * 0 + k) < 0 ∨ fair ≤ L (4 * 0 + k)) := fun h => HO.out ⟨k, hk, h⟩
                    omega
                  · have : ¬ 65536 < x.size := fun h => HG.out ⟨x, hx, h⟩
                    omega
                · exact hI.out j (by omega))⟩
              case measure => simp [intOf]
        · go_wp2_with fail
          go_ret
          exact ⟨false, rfl, fit_no 0 (by omega) (fun h => k0 h.1), (HBW.out.trans (hBr.out.mono HBW.out.size))⟩
      obtain rfl | rfl : i = 1 ∨ i = 2 := by omega
      · skip
        have hq := two1 A0 A1 (S 0).length (S 1).length c0 c1
        by_cases k0 : (S 1).length ≤ 60
        · by_cases hodd : ∃ k, k < 4 ∧ (L (4 * 1 + k) < 0 ∨ fair ≤ L (4 * 1 + k))
          · have HO := Lib.hid hodd
            clear hodd
            go_wp2_with (first
              | (go_at_call 21
                 refine Calls.mono (hasOdd w.heap.size 7 4 (fun k => L (4 * 1 + k)) fair _ (by first | exact hltr | (simp only [World.heap_drewN]; exact hltr)) (fun k hk => by first | exact FR.out 1 (by omega) k hk | (rw [World.cell?_drewN]; exact FR.out 1 (by omega) k hk)) (by first | exact F11r.out | (rw [World.cell?_drewN]; exact F11r.out))) ?_
                 rintro e w1 ⟨⟨b, rfl, hb⟩, hB1⟩
                 obtain rfl : b = true := by exact hb.2 HO.out
                 have HB1 := Lib.hid (hBr.out.trans (hB1.mono hBr.out.size))
                 clear hb hB1)
              | (go_at_call 22
                 refine Calls.mono (hasLong (S 1) _ _ ((K1'.out.on HB1.out)) HZ1.out) ?_
                 rintro e w2 ⟨⟨b, rfl, hb⟩, hB2⟩
                 obtain rfl : b = false := by (cases b with | false => rfl | true => exact absurd (hb.1 rfl) HG.out)
                 have HB2 := Lib.hid (HB1.out.trans (hB2.mono HB1.out.size))
                 clear hb hB2))
            go_ret
            exact ⟨false, rfl, fit_no 1 (by omega) (fun h => by
              obtain ⟨k, hk, hh⟩ := HO.out
              have := h.2.1 k hk
              omega), (HBW.out.trans (HB1.out.mono HBW.out.size))⟩
          · have HO := Lib.hid hodd
            clear hodd
            by_cases hlong : ∃ x ∈ S 1, 65536 < x.size
            · have HG := Lib.hid hlong
              clear hlong
              go_wp2_with (first
                | (go_at_call 21
                   refine Calls.mono (hasOdd w.heap.size 7 4 (fun k => L (4 * 1 + k)) fair _ (by first | exact hltr | (simp only [World.heap_drewN]; exact hltr)) (fun k hk => by first | exact FR.out 1 (by omega) k hk | (rw [World.cell?_drewN]; exact FR.out 1 (by omega) k hk)) (by first | exact F11r.out | (rw [World.cell?_drewN]; exact F11r.out))) ?_
                   rintro e w1 ⟨⟨b, rfl, hb⟩, hB1⟩
                   obtain rfl : b = false := by (cases b with | false => rfl | true => exact absurd (hb.1 rfl) HO.out)
                   have HB1 := Lib.hid (hBr.out.trans (hB1.mono hBr.out.size))
                   clear hb hB1)
                | (go_at_call 22
                   refine Calls.mono (hasLong (S 1) _ _ ((K1'.out.on HB1.out)) HZ1.out) ?_
                   rintro e w2 ⟨⟨b, rfl, hb⟩, hB2⟩
                   obtain rfl : b = true := by exact hb.2 HG.out
                   have HB2 := Lib.hid (HB1.out.trans (hB2.mono HB1.out.size))
                   clear hb hB2))
              go_ret
              exact ⟨false, rfl, fit_no 1 (by omega) (fun h => by
                obtain ⟨x, hx, hh⟩ := HG.out
                have := h.2.2 x hx
                omega), (HBW.out.trans (HB2.out.mono HBW.out.size))⟩
            · have HG := Lib.hid hlong
              clear hlong
              go_wp2_with (first
                | (go_at_call 21
                   refine Calls.mono (hasOdd w.heap.size 7 4 (fun k => L (4 * 1 + k)) fair _ (by first | exact hltr | (simp only [World.heap_drewN]; exact hltr)) (fun k hk => by first | exact FR.out 1 (by omega) k hk | (rw [World.cell?_drewN]; exact FR.out 1 (by omega) k hk)) (by first | exact F11r.out | (rw [World.cell?_drewN]; exact F11r.out))) ?_
                   rintro e w1 ⟨⟨b, rfl, hb⟩, hB1⟩
                   obtain rfl : b = false := by (cases b with | false => rfl | true => exact absurd (hb.1 rfl) HO.out)
                   have HB1 := Lib.hid (hBr.out.trans (hB1.mono hBr.out.size))
                   clear hb hB1)
                | (go_at_call 22
                   refine Calls.mono (hasLong (S 1) _ _ ((K1'.out.on HB1.out)) HZ1.out) ?_
                   rintro e w2 ⟨⟨b, rfl, hb⟩, hB2⟩
                   obtain rfl : b = false := by (cases b with | false => rfl | true => exact absurd (hb.1 rfl) HG.out)
                   have HB2 := Lib.hid (HB1.out.trans (hB2.mono HB1.out.size))
                   clear hb hB2))
              go_roundw
              case rel => exact ⟨2, by omega, by go_num, HB2, Lib.hid (fun j hj => by
                by_cases e : j = 1
                · subst e
                  refine ⟨k0, fun k hk => ?_, fun x hx => ?_⟩
                  · have : ¬ (L (4 * 1 + k) < 0 ∨ fair ≤ L (4 * 1 + k)) := fun h => HO.out ⟨k, hk, h⟩
                    omega
                  · have : ¬ 65536 < x.size := fun h => HG.out ⟨x, hx, h⟩
                    omega
                · exact hI.out j (by omega))⟩
              case measure => simp [intOf]
        · go_wp2_with fail
          go_ret
          exact ⟨false, rfl, fit_no 1 (by omega) (fun h => k0 h.1), (HBW.out.trans (hBr.out.mono HBW.out.size))⟩
      · go_wp2_with fail
        go_ret
        exact ⟨true, rfl, ⟨fun _ => ⟨hf1, hf8, fun j hj => hI.out j hj⟩, fun _ => rfl⟩, (HBW.out.trans (hBr.out.mono HBW.out.size))⟩
  · have hX : Hid (¬ FitS S L fair) := Lib.hid (fun h => hf ⟨h.1, h.2.1⟩)
    by_cases hf1 : 1 ≤ fair
    · have hf8 : ¬ fair ≤ 8 := fun h => hf ⟨hf1, h⟩
      clear hf K0 K1
      go_enter Try.func12, Try.ntmps12
      go_wp2_with fail
      go_ret
      exact ⟨false, rfl, ⟨fun h => (by cases h), fun h => absurd h hX.out⟩, by go_grown⟩
    · clear hf K0 K1
      go_enter Try.func12, Try.ntmps12
      go_wp2_with fail
      go_ret
      exact ⟨false, rfl, ⟨fun h => (by cases h), fun h => absurd h hX.out⟩, by go_grown⟩

end Go.Proofs.Ytgllojpeggmleaa
