/-
  A SIEVE WITHOUT KEYS: both News.
-/
import Derived.Test.YtingloamfpibaaaBOnes
import Derived.Test.YtingloamfpibaaaBRFit
import Derived.Laws.MakeOwn
namespace Go.Proofs.Ytingloamfpibaaa
open Go.RowKit Go.Proofs.Mem
set_option linter.unusedVariables false

/-- So many bytes 0. -/
def zerosB (n : Nat) : ByteArray := ⟨Array.replicate n 0⟩
theorem zerosB_size (n : Nat) : (zerosB n).size = n := Array.size_replicate
theorem byteAt_zeros (n j : Nat) : byteAt (zerosB n) j = 0 := by
  unfold byteAt
  split
  · rename_i h
    have h1 : (zerosB n)[j]'h = 0 := by
      show (Array.replicate n (0 : UInt8))[j]'(by simpa [zerosB_size] using h) = 0
      exact Array.getElem_replicate _
    rw [h1]
    rfl
  · rfl

theorem Try.infoU : (Try.prog.info? 5).map (fun i => (i.zero, i.size, i.bytes)) = some (some (.int .u8 0), 1, 1) := by kernel_rfl
/-- Bytes 0 that have just been laid. -/
theorem make_law : ∃ (mw : World → Nat → World), (∀ w n, Below w.heap.size w (mw w n) ∧ Bytes (mw w n) w.heap.size (zerosB n) ∧ (mw w n).heap.size = w.heap.size + 1) ∧
    ∀ (w : World) (c : Int), 0 ≤ c → c ≤ 65536 → (Instr.makeSlice 47 (.int .i64 c) (.int .i64 c)).run Try.prog w = .ok (.slice (some ⟨w.heap.size, 0, none⟩) (zerosB c.toNat).size c.toNat) (mw w c.toNat) := by
  obtain ⟨i0, hi, hz0, hz1, hz2⟩ := info_parts Try.infoU
  refine ⟨fun w n => w.alloc (.cells (madeCells #[.int .u8 0] n) 5), fun w n => ⟨(Below.refl _ _).alloc (Nat.le_refl _) _, ?_, World.size_alloc _ _⟩, ?_⟩
  · intro j hj
    rw [zerosB_size] at hj
    have hh : (w.alloc (.cells (madeCells #[.int .u8 0] n) 5)).heap[w.heap.size]? = some (.cells (madeCells #[.int .u8 0] n) 5) := heap_alloc_new w _
    refine ⟨?_, frozen_of_row _ _ j _ _ hh⟩
    rw [cell_of_row _ _ j _ _ (0, 0) hh, byteAt_zeros]
    unfold madeCells
    simp [hj]
    rw [Nat.mod_one]
    rfl
  · intro w c h0 h1
    have h := run_make (P := Try.prog) w 47 5 i0 (.int .u8 0) Try.underlying47 hi hz0 .i64 .i64 c c h0 (Int.le_refl _) (by rw [hz2]; omega) (by omega)
    rw [hz1, Nat.mul_one] at h
    rw [h, zerosB_size]
    rfl


set_option maxHeartbeats 1000000 in
theorem bnew_any (bi ha : Int) (w : World) (h0 : -9223372036854775808 ≤ bi) (h9 : bi ≤ 9223372036854775807) :
    Calls Try.prog 8 #[.int .i64 bi, .int .i64 ha] w fun e w' =>
      (e = if shapeB bi ha then .returned (.tuple #[.agg #[.int .i64 bi, .int .i64 ha, .string (zerosB (bi / 8).toNat)], .int .i64 0]) else .returned (.tuple #[.agg #[.int .i64 0, .int .i64 0, .string ⟨#[]⟩], .int .i64 4])) ∧ Below w.heap.size w w' := by
  obtain ⟨mw, hmw, hmk⟩ := make_law
  obtain ⟨W0, hW0⟩ : ∃ W0, (w.alloc (.cells #[.int .i64 0, .int .i64 0, .string ⟨#[]⟩] 23)).alloc (.cells #[.int .i64 bi, .int .i64 ha, .string ⟨#[]⟩] 23) = W0 := ⟨_, rfl⟩
  have hsz : W0.heap.size = w.heap.size + 1 + 1 := by rw [← hW0]; simp only [World.size_alloc]
  have k0 : W0.cell? ⟨w.heap.size + 1, 0, none⟩ = some (.int .i64 bi) := by rw [← hW0]; clear hsz hW0; go_simp
  have k1 : W0.cell? ⟨w.heap.size + 1, 1, none⟩ = some (.int .i64 ha) := by rw [← hW0]; clear hsz hW0; go_simp
  have k2 : W0.cell? ⟨w.heap.size + 1, 2, none⟩ = some (.string ⟨#[]⟩) := by rw [← hW0]; clear hsz hW0; go_simp
  have kf : ∀ o, W0.frozen? ⟨w.heap.size + 1, o, none⟩ = false := by rw [← hW0]; clear hsz hW0; intro o; go_simp
  have r0 : W0.cell? ⟨w.heap.size, 0, none⟩ = some (.int .i64 0) := by rw [← hW0]; clear hsz hW0; go_simp
  have r1 : W0.cell? ⟨w.heap.size, 1, none⟩ = some (.int .i64 0) := by rw [← hW0]; clear hsz hW0; go_simp
  have r2 : W0.cell? ⟨w.heap.size, 2, none⟩ = some (.string ⟨#[]⟩) := by rw [← hW0]; clear hsz hW0; go_simp
  have rf : ∀ o, W0.frozen? ⟨w.heap.size, o, none⟩ = false := by rw [← hW0]; clear hsz hW0; intro o; go_simp
  have hB0 : Below w.heap.size w W0 := by rw [← hW0]; clear hsz hW0; go_grown
  by_cases hin : 0 ≤ bi ∧ bi ≤ 65536
  · obtain ⟨h1, h2⟩ := hin
    obtain ⟨n, hn⟩ : ∃ n, n = (bi / 8).toNat := ⟨_, rfl⟩
    have hc0 : 0 ≤ bi / 8 := by omega
    have hc9 : bi / 8 ≤ 65536 := by omega
    have hmk' := hmk W0 (bi / 8) hc0 hc9
    obtain ⟨hb1, hy1, hs1⟩ := hmw W0 n
    rw [← hn, hsz] at hmk'
    obtain ⟨z, hz⟩ : ∃ z, z = zerosB n := ⟨_, rfl⟩
    have hzs : z.size = n := by rw [hz, zerosB_size]
    obtain ⟨W1, hW1⟩ : ∃ W1, mw W0 n = W1 := ⟨_, rfl⟩
    rw [hW1] at hmk' hb1 hy1 hs1
    rw [← hz] at hmk' hy1
    rw [hsz] at hy1 hs1
    have hcb := conv_back W1 (w.heap.size + 1 + 1) n z hy1
    rw [← hn, ← hz]
    have a0 := (hb1.cell (p := ⟨w.heap.size, 0, none⟩) (by dsimp only; omega)).trans r0
    have a1 := (hb1.cell (p := ⟨w.heap.size, 1, none⟩) (by dsimp only; omega)).trans r1
    have a2 := (hb1.cell (p := ⟨w.heap.size, 2, none⟩) (by dsimp only; omega)).trans r2
    have af : ∀ o, W1.frozen? ⟨w.heap.size, o, none⟩ = false := fun o => (hb1.frozen (p := ⟨w.heap.size, o, none⟩) (by dsimp only; omega)).trans (rf o)
    have b0 := (hb1.cell (p := ⟨w.heap.size + 1, 0, none⟩) (by dsimp only; omega)).trans k0
    have b1 := (hb1.cell (p := ⟨w.heap.size + 1, 1, none⟩) (by dsimp only; omega)).trans k1
    have b2 := (hb1.cell (p := ⟨w.heap.size + 1, 2, none⟩) (by dsimp only; omega)).trans k2
    have bf : ∀ o, W1.frozen? ⟨w.heap.size + 1, o, none⟩ = false := fun o => (hb1.frozen (p := ⟨w.heap.size + 1, o, none⟩) (by dsimp only; omega)).trans (kf o)
    have hBx : Below w.heap.size w W1 := hB0.trans (hb1.mono (by omega))
    have hfit : fitB bi ha z = shapeB bi ha := by
      unfold fitB
      rw [hzs, hn]
      cases hs : shapeB bi ha with
      | false => rfl
      | true =>
        have : sizes.contains bi = true := by unfold shapeB at hs; simp only [Bool.and_eq_true] at hs; exact hs.2.2
        obtain ⟨e, he, hb⟩ := sizes_pow this
        rw [decide_eq_true (by omega)]
        rfl
    have HBX := Lib.hid hBx
    have HFIT := Lib.hid hfit
    have HZS : Hid (z.size ≤ 1000000) := Lib.hid (by omega)
    have HN := Lib.hid hn
    have HS1 : Hid (w.heap.size + 1 < W1.heap.size) := Lib.hid (by omega)
    clear k0 k1 k2 kf r0 r1 r2 rf hb1 hy1 hB0 hs1 hmk hmw hsz hW1 hz hzs hn hBx hfit
    subst hW0
    cases hsh : shapeB bi ha with
    | true =>
      rw [hsh] at HFIT
      clear hsh
      go_enter Try.func8, Try.ntmps8
      go_wp2_with (go_at_call 10
                   refine Calls.mono (fit_any _ _ _ _ HZS.out h9) ?_
                   rw [HFIT.out]
                   rintro e w9 ⟨rfl, hB9⟩
                   have u0 : w9.cell? ⟨w.heap.size + 1, 0, none⟩ = some (.int .i64 bi) := (hB9.cell (p := ⟨w.heap.size + 1, 0, none⟩) (by have := HS1.out; dsimp only; simp only [World.size_setCell]; omega)).trans (by go_simp)
                   have u1 : w9.cell? ⟨w.heap.size + 1, 1, none⟩ = some (.int .i64 ha) := (hB9.cell (p := ⟨w.heap.size + 1, 1, none⟩) (by have := HS1.out; dsimp only; simp only [World.size_setCell]; omega)).trans (by go_simp)
                   have u2 : w9.cell? ⟨w.heap.size + 1, 2, none⟩ = some (.string z) := (hB9.cell (p := ⟨w.heap.size + 1, 2, none⟩) (by have := HS1.out; dsimp only; simp only [World.size_setCell]; omega)).trans (by go_simp)
                   have v0 : w9.cell? ⟨w.heap.size, 0, none⟩ = some (.int .i64 0) := (hB9.cell (p := ⟨w.heap.size, 0, none⟩) (by have := HS1.out; dsimp only; simp only [World.size_setCell]; omega)).trans (by go_simp)
                   have v1 : w9.cell? ⟨w.heap.size, 1, none⟩ = some (.int .i64 0) := (hB9.cell (p := ⟨w.heap.size, 1, none⟩) (by have := HS1.out; dsimp only; simp only [World.size_setCell]; omega)).trans (by go_simp)
                   have v2 : w9.cell? ⟨w.heap.size, 2, none⟩ = some (.string ⟨#[]⟩) := (hB9.cell (p := ⟨w.heap.size, 2, none⟩) (by have := HS1.out; dsimp only; simp only [World.size_setCell]; omega)).trans (by go_simp)
                   have vf : ∀ o, w9.frozen? ⟨w.heap.size, o, none⟩ = false := fun o => (hB9.frozen (p := ⟨w.heap.size, o, none⟩) (by have := HS1.out; dsimp only; simp only [World.size_setCell]; omega)).trans (by go_simp)
                   have HBY : Hid (Below w.heap.size w w9) := Lib.hid (bel (HBX.out.setCell (p := ⟨w.heap.size + 1, 2, none⟩) (by dsimp only; omega) _) hB9)
                   clear hB9)
      refine bodyPost_ret (v := .tuple #[.agg #[.int .i64 bi, .int .i64 ha, .string z], .int .i64 0]) ?_ rfl ?_
      · simp only [results, Try.f8]
        go_simp
      · exact ⟨rfl, (((HBY.out.setCell (p := ⟨w.heap.size, 0, none⟩) (by dsimp only; omega) _).setCell (p := ⟨w.heap.size, 1, none⟩) (by dsimp only; omega) _).setCell (p := ⟨w.heap.size, 2, none⟩) (by dsimp only; omega) _)⟩
    | false =>
      rw [hsh] at HFIT
      clear hsh
      go_enter Try.func8, Try.ntmps8
      go_wp2_with (go_at_call 10
                   refine Calls.mono (fit_any _ _ _ _ HZS.out h9) ?_
                   rw [HFIT.out]
                   rintro e w9 ⟨rfl, hB9⟩
                   have u0 : w9.cell? ⟨w.heap.size + 1, 0, none⟩ = some (.int .i64 bi) := (hB9.cell (p := ⟨w.heap.size + 1, 0, none⟩) (by have := HS1.out; dsimp only; simp only [World.size_setCell]; omega)).trans (by go_simp)
                   have u1 : w9.cell? ⟨w.heap.size + 1, 1, none⟩ = some (.int .i64 ha) := (hB9.cell (p := ⟨w.heap.size + 1, 1, none⟩) (by have := HS1.out; dsimp only; simp only [World.size_setCell]; omega)).trans (by go_simp)
                   have u2 : w9.cell? ⟨w.heap.size + 1, 2, none⟩ = some (.string z) := (hB9.cell (p := ⟨w.heap.size + 1, 2, none⟩) (by have := HS1.out; dsimp only; simp only [World.size_setCell]; omega)).trans (by go_simp)
                   have v0 : w9.cell? ⟨w.heap.size, 0, none⟩ = some (.int .i64 0) := (hB9.cell (p := ⟨w.heap.size, 0, none⟩) (by have := HS1.out; dsimp only; simp only [World.size_setCell]; omega)).trans (by go_simp)
                   have v1 : w9.cell? ⟨w.heap.size, 1, none⟩ = some (.int .i64 0) := (hB9.cell (p := ⟨w.heap.size, 1, none⟩) (by have := HS1.out; dsimp only; simp only [World.size_setCell]; omega)).trans (by go_simp)
                   have v2 : w9.cell? ⟨w.heap.size, 2, none⟩ = some (.string ⟨#[]⟩) := (hB9.cell (p := ⟨w.heap.size, 2, none⟩) (by have := HS1.out; dsimp only; simp only [World.size_setCell]; omega)).trans (by go_simp)
                   have vf : ∀ o, w9.frozen? ⟨w.heap.size, o, none⟩ = false := fun o => (hB9.frozen (p := ⟨w.heap.size, o, none⟩) (by have := HS1.out; dsimp only; simp only [World.size_setCell]; omega)).trans (by go_simp)
                   have HBY : Hid (Below w.heap.size w w9) := Lib.hid (bel (HBX.out.setCell (p := ⟨w.heap.size + 1, 2, none⟩) (by dsimp only; omega) _) hB9)
                   clear hB9)
      refine bodyPost_ret (v := .tuple #[.agg #[.int .i64 0, .int .i64 0, .string ⟨#[]⟩], .int .i64 4]) ?_ rfl ?_
      · simp only [results, Try.f8]
        go_simp
      · exact ⟨rfl, (((HBY.out.setCell (p := ⟨w.heap.size, 0, none⟩) (by dsimp only; omega) _).setCell (p := ⟨w.heap.size, 1, none⟩) (by dsimp only; omega) _).setCell (p := ⟨w.heap.size, 2, none⟩) (by dsimp only; omega) _)⟩
  · have hsh : shapeB bi ha = false := by
      cases hs : shapeB bi ha with
      | false => rfl
      | true =>
        have : sizes.contains bi = true := by unfold shapeB at hs; simp only [Bool.and_eq_true] at hs; exact hs.2.2
        obtain ⟨e, he, hb⟩ := sizes_pow this
        have h7 : 2 ^ e ≤ 2 ^ 10 := Nat.pow_le_pow_right (by decide) he
        omega
    have HFIT : Hid (fitB bi ha ⟨#[]⟩ = false) := Lib.hid (by unfold fitB; rw [hsh]; rfl)
    rw [hsh]
    have HBX := Lib.hid hB0
    have HS1 : Hid (w.heap.size + 1 < W0.heap.size) := Lib.hid (by omega)
    clear hmk hmw hsh hB0 hsz
    subst hW0
    go_enter Try.func8, Try.ntmps8
    by_cases hz : 0 ≤ bi
    · have h2 : decide (bi ≤ 65536) = false := decide_eq_false (by omega)
      go_wp2_with (go_at_call 10
                   refine Calls.mono (fit_any _ _ _ _ (by decide) h9) ?_
                   rw [HFIT.out]
                   rintro e w9 ⟨rfl, hB9⟩
                   have u0 : w9.cell? ⟨w.heap.size + 1, 0, none⟩ = some (.int .i64 bi) := (hB9.cell (p := ⟨w.heap.size + 1, 0, none⟩) (by have := HS1.out; dsimp only; omega)).trans (by go_simp)
                   have u1 : w9.cell? ⟨w.heap.size + 1, 1, none⟩ = some (.int .i64 ha) := (hB9.cell (p := ⟨w.heap.size + 1, 1, none⟩) (by have := HS1.out; dsimp only; omega)).trans (by go_simp)
                   have u2 : w9.cell? ⟨w.heap.size + 1, 2, none⟩ = some (.string ⟨#[]⟩) := (hB9.cell (p := ⟨w.heap.size + 1, 2, none⟩) (by have := HS1.out; dsimp only; omega)).trans (by go_simp)
                   have v0 : w9.cell? ⟨w.heap.size, 0, none⟩ = some (.int .i64 0) := (hB9.cell (p := ⟨w.heap.size, 0, none⟩) (by have := HS1.out; dsimp only; omega)).trans (by go_simp)
                   have v1 : w9.cell? ⟨w.heap.size, 1, none⟩ = some (.int .i64 0) := (hB9.cell (p := ⟨w.heap.size, 1, none⟩) (by have := HS1.out; dsimp only; omega)).trans (by go_simp)
                   have v2 : w9.cell? ⟨w.heap.size, 2, none⟩ = some (.string ⟨#[]⟩) := (hB9.cell (p := ⟨w.heap.size, 2, none⟩) (by have := HS1.out; dsimp only; omega)).trans (by go_simp)
                   have vf : ∀ o, w9.frozen? ⟨w.heap.size, o, none⟩ = false := fun o => (hB9.frozen (p := ⟨w.heap.size, o, none⟩) (by have := HS1.out; dsimp only; omega)).trans (by go_simp)
                   have HBY : Hid (Below w.heap.size w w9) := Lib.hid (bel HBX.out hB9)
                   clear hB9)
      refine bodyPost_ret (v := .tuple #[.agg #[.int .i64 0, .int .i64 0, .string ⟨#[]⟩], .int .i64 4]) ?_ rfl ?_
      · simp only [results, Try.f8]
        go_simp
      · exact ⟨rfl, (((HBY.out.setCell (p := ⟨w.heap.size, 0, none⟩) (by dsimp only; omega) _).setCell (p := ⟨w.heap.size, 1, none⟩) (by dsimp only; omega) _).setCell (p := ⟨w.heap.size, 2, none⟩) (by dsimp only; omega) _)⟩
    · have h2 : decide (0 ≤ bi) = false := decide_eq_false (by omega)
      go_wp2_with (go_at_call 10
                   refine Calls.mono (fit_any _ _ _ _ (by decide) h9) ?_
                   rw [HFIT.out]
                   rintro e w9 ⟨rfl, hB9⟩
                   have u0 : w9.cell? ⟨w.heap.size + 1, 0, none⟩ = some (.int .i64 bi) := (hB9.cell (p := ⟨w.heap.size + 1, 0, none⟩) (by have := HS1.out; dsimp only; omega)).trans (by go_simp)
                   have u1 : w9.cell? ⟨w.heap.size + 1, 1, none⟩ = some (.int .i64 ha) := (hB9.cell (p := ⟨w.heap.size + 1, 1, none⟩) (by have := HS1.out; dsimp only; omega)).trans (by go_simp)
                   have u2 : w9.cell? ⟨w.heap.size + 1, 2, none⟩ = some (.string ⟨#[]⟩) := (hB9.cell (p := ⟨w.heap.size + 1, 2, none⟩) (by have := HS1.out; dsimp only; omega)).trans (by go_simp)
                   have v0 : w9.cell? ⟨w.heap.size, 0, none⟩ = some (.int .i64 0) := (hB9.cell (p := ⟨w.heap.size, 0, none⟩) (by have := HS1.out; dsimp only; omega)).trans (by go_simp)
                   have v1 : w9.cell? ⟨w.heap.size, 1, none⟩ = some (.int .i64 0) := (hB9.cell (p := ⟨w.heap.size, 1, none⟩) (by have := HS1.out; dsimp only; omega)).trans (by go_simp)
                   have v2 : w9.cell? ⟨w.heap.size, 2, none⟩ = some (.string ⟨#[]⟩) := (hB9.cell (p := ⟨w.heap.size, 2, none⟩) (by have := HS1.out; dsimp only; omega)).trans (by go_simp)
                   have vf : ∀ o, w9.frozen? ⟨w.heap.size, o, none⟩ = false := fun o => (hB9.frozen (p := ⟨w.heap.size, o, none⟩) (by have := HS1.out; dsimp only; omega)).trans (by go_simp)
                   have HBY : Hid (Below w.heap.size w w9) := Lib.hid (bel HBX.out hB9)
                   clear hB9)
      refine bodyPost_ret (v := .tuple #[.agg #[.int .i64 0, .int .i64 0, .string ⟨#[]⟩], .int .i64 4]) ?_ rfl ?_
      · simp only [results, Try.f8]
        go_simp
      · exact ⟨rfl, (((HBY.out.setCell (p := ⟨w.heap.size, 0, none⟩) (by dsimp only; omega) _).setCell (p := ⟨w.heap.size, 1, none⟩) (by dsimp only; omega) _).setCell (p := ⟨w.heap.size, 2, none⟩) (by dsimp only; omega) _)⟩
set_option maxHeartbeats 1000000 in
theorem rnew_any (bi ha : Int) (w : World) :
    Calls Try.prog 9 #[.int .i64 bi, .int .i64 ha] w fun e w' =>
      (e = if shapeB bi ha then .returned (.tuple #[.agg #[.int .i64 bi, .int .i64 ha, .string (zerosB (bi / 8).toNat)], .int .i64 0]) else .returned (.tuple #[.agg #[.int .i64 0, .int .i64 0, .string ⟨#[]⟩], .int .i64 4])) ∧ Below w.heap.size w w' := by
  obtain ⟨mw, hmw, hmk⟩ := make_law
  cases hs : shapeB bi ha with
  | false =>
    go_enter Try.func9, Try.ntmps9
    go_wp2_with (go_at_call 28; refine Calls.mono (shape_any _ _ _) ?_; rw [hs]; rintro e w' ⟨rfl, rfl⟩)
    refine bodyPost_ret (v := .tuple #[.agg #[.int .i64 0, .int .i64 0, .string ⟨#[]⟩], .int .i64 4]) ?_ rfl ?_
    · simp only [results, Try.f9]
      go_simp
    · exact ⟨rfl, by go_grown⟩
  | true =>
    have hin : 0 ≤ bi ∧ bi ≤ 65536 := by
      have : sizes.contains bi = true := by unfold shapeB at hs; simp only [Bool.and_eq_true] at hs; exact hs.2.2
      obtain ⟨e, he, hb⟩ := sizes_pow this
      have h7 : 2 ^ e ≤ 2 ^ 10 := Nat.pow_le_pow_right (by decide) he
      omega
    obtain ⟨h1, h2⟩ := hin
    obtain ⟨W0, hW0⟩ : ∃ W0, w.alloc (.cells #[.int .i64 0, .int .i64 0, .string ⟨#[]⟩] 23) = W0 := ⟨_, rfl⟩
    have hsz : W0.heap.size = w.heap.size + 1 := by rw [← hW0]; simp only [World.size_alloc]
    have r0 : W0.cell? ⟨w.heap.size, 0, none⟩ = some (.int .i64 0) := by rw [← hW0]; clear hsz hW0; go_simp
    have r1 : W0.cell? ⟨w.heap.size, 1, none⟩ = some (.int .i64 0) := by rw [← hW0]; clear hsz hW0; go_simp
    have r2 : W0.cell? ⟨w.heap.size, 2, none⟩ = some (.string ⟨#[]⟩) := by rw [← hW0]; clear hsz hW0; go_simp
    have rf : ∀ o, W0.frozen? ⟨w.heap.size, o, none⟩ = false := by rw [← hW0]; clear hsz hW0; intro o; go_simp
    have hB0 : Below w.heap.size w W0 := by rw [← hW0]; clear hsz hW0; go_grown
    obtain ⟨n, hn⟩ : ∃ n, n = (bi / 8).toNat := ⟨_, rfl⟩
    have hc0 : 0 ≤ bi / 8 := by omega
    have hc9 : bi / 8 ≤ 65536 := by omega
    have hmk' := hmk W0 (bi / 8) hc0 hc9
    obtain ⟨hb1, hy1, hs1⟩ := hmw W0 n
    rw [← hn, hsz] at hmk'
    obtain ⟨z, hz⟩ : ∃ z, z = zerosB n := ⟨_, rfl⟩
    obtain ⟨W1, hW1⟩ : ∃ W1, mw W0 n = W1 := ⟨_, rfl⟩
    rw [hW1] at hmk' hb1 hy1 hs1
    rw [← hz] at hmk' hy1
    rw [hsz] at hy1 hs1
    have hcb := conv_back W1 (w.heap.size + 1) n z hy1
    rw [← hn, ← hz]
    have a0 := (hb1.cell (p := ⟨w.heap.size, 0, none⟩) (by dsimp only; omega)).trans r0
    have a1 := (hb1.cell (p := ⟨w.heap.size, 1, none⟩) (by dsimp only; omega)).trans r1
    have a2 := (hb1.cell (p := ⟨w.heap.size, 2, none⟩) (by dsimp only; omega)).trans r2
    have af : ∀ o, W1.frozen? ⟨w.heap.size, o, none⟩ = false := fun o => (hb1.frozen (p := ⟨w.heap.size, o, none⟩) (by dsimp only; omega)).trans (rf o)
    have hBx : Below w.heap.size w W1 := hB0.trans (hb1.mono (by omega))
    have HBX := Lib.hid hBx
    have HS := Lib.hid hs
    clear r0 r1 r2 rf hb1 hy1 hB0 hs1 hmk hmw hsz hW1 hz hn hBx hs
    subst hW0
    go_enter Try.func9, Try.ntmps9
    go_wp2_with (go_at_call 28; refine Calls.mono (shape_any _ _ _) ?_; rw [HS.out]; rintro e w' ⟨rfl, rfl⟩)
    refine bodyPost_ret (v := .tuple #[.agg #[.int .i64 bi, .int .i64 ha, .string z], .int .i64 0]) ?_ rfl ?_
    · simp only [results, Try.f9]
      go_simp
    · exact ⟨rfl, ((HBX.out.setCell (p := ⟨w.heap.size, 0, none⟩) (by dsimp only; omega) _).setCell (p := ⟨w.heap.size, 1, none⟩) (by dsimp only; omega) _).setCell (p := ⟨w.heap.size, 2, none⟩) (by dsimp only; omega) _⟩
end Go.Proofs.Ytingloamfpibaaa
