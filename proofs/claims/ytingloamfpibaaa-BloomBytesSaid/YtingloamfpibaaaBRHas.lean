/-
  R.Add of what is no key; R.Has.
-/
import Derived.Test.YtingloamfpibaaaBRAdd
namespace Go.Proofs.Ytingloamfpibaaa
open Go.RowKit Go.Proofs.Mem
set_option linter.unusedVariables false

theorem radd_no (bi h : Int) (d key : ByteArray) (w : World) (hk : key.size ≠ 32) :
    Calls Try.prog 15 #[.agg #[.int .i64 bi, .int .i64 h, .string d], .string key] w fun e w' =>
      e = .returned (.agg #[.int .i64 bi, .int .i64 h, .string d]) ∧ Below w.heap.size w w' := by
  have hk32 : ((key.size : Int) == 32) = false := beq_eq_false_iff_ne.2 (by omega)
  go_enter Try.func15, Try.ntmps15
  go_wp2
  refine bodyPost_ret (v := .agg #[.int .i64 bi, .int .i64 h, .string d]) ?_ rfl ?_
  · simp only [results, Try.f15]
    go_simp
  · exact ⟨rfl, by go_grown⟩

/-- Is a bit set? -/
def bitAt (d : ByteArray) (p : Nat) : Nat := byteAt d (p / 8) / 2 ^ (p % 8) % 2
def hasB (key : ByteArray) (B H : Nat) (d : ByteArray) : Bool := decide (key.size = 32) && (places key B H).all fun p => bitAt d p != 0
theorem and_one (a : Nat) (h : a < 256) : bits .and .u8 (a : Int) 1 = ((a % 2 : Nat) : Int) := by
  have := and_u8 a 1 (by omega) (by decide)
  rw [Nat.and_one_is_mod] at this
  exact this

theorem shr_one (a r : Nat) (h : a < 256) : bits .and .u8 ((a : Int) / (2 : Int) ^ r) 1 = ((a / 2 ^ r % 2 : Nat) : Int) := by
  have e : (a : Int) / (2 : Int) ^ r = ((a / 2 ^ r : Nat) : Int) := by rw [Int.natCast_ediv, Int.natCast_pow]; rfl
  rw [e, and_one _ (Nat.lt_of_le_of_lt (Nat.div_le_self _ _) h)]

set_option maxHeartbeats 600000 in
theorem rhas_any (bi h : Nat) (d key : ByteArray) (w : World) (hb0 : 0 < bi) (hb : bi ≤ 65536) (hh : h ≤ 8) (hd : d.size * 8 = bi) :
    Calls Try.prog 17 #[.agg #[.int .i64 bi, .int .i64 h, .string d], .string key] w fun e w' =>
      e = .returned (.bool (hasB key bi h d)) ∧ Below w.heap.size w w' := by
  by_cases hk : key.size = 32
  case neg =>
    have hk32 : ((key.size : Int) == 32) = false := beq_eq_false_iff_ne.2 (by omega)
    have hf : hasB key bi h d = false := by unfold hasB; rw [decide_eq_false hk]; rfl
    rw [hf]
    go_enter Try.func17, Try.ntmps17
    go_wp2
    go_ret
    exact ⟨rfl, by go_grown⟩
  have hk32 : ((key.size : Int) == 32) = true := beq_iff_eq.2 (by omega)
  go_enter Try.func17, Try.ntmps17
  go_wp2_with (go_at_call 30; refine Calls.mono (places_any bi h d key _ hk hb0 hb hh) ?_; rintro e w1 ⟨v, rfl, hown, hB1⟩)
  obtain ⟨W0, hW0⟩ : ∃ W0, w.alloc (.cells #[.int .i64 bi, .int .i64 h, .string d] 23) = W0 := ⟨_, rfl⟩
  rw [hW0] at hown hB1
  have hsz : W0.heap.size = w.heap.size + 1 := by rw [← hW0]; simp only [World.size_alloc]
  have k2 : W0.cell? ⟨w.heap.size, 2, none⟩ = some (.string d) := by rw [← hW0]; clear hsz hW0 hown hB1; go_simp
  have hB0 : Below w.heap.size w W0 := by rw [← hW0]; clear hsz hW0 hown hB1; go_grown
  have c2 := (hB1.cell (p := ⟨w.heap.size, 2, none⟩) (by dsimp only; omega)).trans k2
  have hgt : w.heap.size < w1.heap.size := by have := hB1.size; omega
  have HBw := Lib.hid (hB0.trans (hB1.mono (by omega)))
  obtain ⟨A, c, rfl, HRow⟩ : ∃ A c, v = .slice A h c ∧ Hid (Row w1 w1.heap.size A ((places key bi h).map fun p => .int .i64 (p : Nat))) := by
    rcases hown.2 with ⟨rfl, h0⟩ | ⟨g, cc, cur, rfl, hg, _⟩
    · subst h0; exact ⟨none, 0, rfl, Lib.hid (row_of_own hown)⟩
    · exact ⟨some ⟨g, 0, none⟩, cc, rfl, Lib.hid (row_of_own hown)⟩
  clear hW0 k2 hB0 hB1 hown hsz
  go_loopw [6] (fun i wr => ∃ k : Nat, i = .int .i64 k ∧ k ≤ h ∧ Hid (∀ j, j < k → bitAt d (placeN key bi j) ≠ 0) ∧ Hid (Below w1.heap.size w1 wr)) (fun i _ => h - (intOf i).toNat)
  case atStart => exact ⟨0, rfl, Nat.zero_le _, Lib.hid (by intro j hj; omega), Lib.hid (Below.refl _ _)⟩
  case round =>
    obtain ⟨k, rfl, hk', HJ, HB⟩ := hrel
    by_cases hkh : k = h
    · subst hkh
      have hkk : decide ((k : Int) < (k : Int)) = false := decide_eq_false (by omega)
      have hf : hasB key bi k d = true := by
        unfold hasB places
        rw [decide_eq_true hk, Bool.true_and, List.all_eq_true]
        intro p hp
        obtain ⟨j, hj, rfl⟩ := List.mem_map.1 hp
        have := HJ.out j (List.mem_range.1 hj)
        simpa using this
      have HF := Lib.hid hf
      clear hf
      go_wp2
      go_ret
      exact ⟨by rw [HF.out]; rfl, HBw.out.trans (HB.out.mono (Nat.le_of_lt hgt))⟩
    · have hlt : k < h := by omega
      have hlti : (k : Int) < (h : Int) := by omega
      have hk0 : (0 : Int) ≤ (k : Int) := Int.natCast_nonneg _
      obtain ⟨p, hp⟩ : ∃ p, p = placeN key bi k := ⟨_, rfl⟩
      have hpl : p < bi := by rw [hp]; exact Nat.mod_lt _ hb0
      have hps : p / 8 < d.size := by omega
      obtain ⟨gp, op, rfl, hgp, hcl⟩ := HRow.out.at_ (by simp [places]; omega)
      have hq1 := hcl k (.int .i64 (p : Nat)) (by simp [places, hlt, hp])
      have q1 : wr.cell? ⟨gp, op + k, none⟩ = some (.int .i64 (p : Nat)) := (HB.out.cell (p := ⟨gp, op + k, none⟩) hgp).trans hq1
      have e2 := (HB.out.cell (p := ⟨w.heap.size, 2, none⟩) hgt).trans c2
      obtain ⟨pq, hpq⟩ : ∃ q, q = p / 8 := ⟨_, rfl⟩
      obtain ⟨pr, hpr'⟩ : ∃ q, q = p % 8 := ⟨_, rfl⟩
      have hdiv : (p : Int).tdiv 8 = (pq : Int) := by rw [Int.tdiv_eq_ediv_of_nonneg (by omega)]; omega
      have hmod : (p : Int).tmod 8 = (pr : Int) := by rw [Int.tmod_eq_emod_of_nonneg (by omega)]; omega
      have hi1 : (pq : Int) < (d.size : Int) := by omega
      have hi2 : pq < d.size := by omega
      have hi0 : (0 : Int) ≤ (pq : Int) := by omega
      have hwq : IntKind.i64.wrap (pq : Int) = (pq : Int) := IntWalk.i64_in _ (by omega)
      have hwr : IntKind.i64.wrap (pr : Int) = (pr : Int) := IntWalk.i64_in _ (by omega)
      have hwu : IntKind.u64.wrap (pr : Int) = (pr : Int) := wraps_u64 _ (by omega) (by omega)
      have hpr : pr < 8 := by omega
      have hpr0 : (0 : Int) ≤ (pr : Int) := by omega
      have hbt : bitAt d (placeN key bi k) = byteAt d pq / 2 ^ pr % 2 := by rw [← hp, hpq, hpr']; rfl
      have hbe := byteAt_eq d pq hi2
      have HBT := Lib.hid hbt
      have HP := Lib.hid hp
      clear hp hcl hq1 hpl hps hbt hpq hpr'
      have hso := shr_one (d[pq].toNat) pr (d[pq].toNat_lt)
      rw [← hbe] at hso
      have hq : ∀ m, Hid (Below w1.heap.size w1 (wr.drewN m)) := fun m => Lib.hid ⟨HB.out.os, HB.out.tape, HB.out.output, HB.out.size, HB.out.block⟩
      by_cases hz : byteAt d pq / 2 ^ pr % 2 = 0
      · have hbit : (bits .and .u8 ((d[pq].toNat : Int) / (2 : Int) ^ pr) 1 == 0) = true := by rw [← hbe, hso, hz]; rfl
        have hf : hasB key bi h d = false := by
          unfold hasB places
          rw [decide_eq_true hk, Bool.true_and, List.all_eq_false]
          exact ⟨placeN key bi k, List.mem_map.2 ⟨k, List.mem_range.2 hlt, rfl⟩, by rw [HBT.out, hz]; simp⟩
        have HF := Lib.hid hf
        clear hf hso hz hbe
        go_wp2
        go_quiet (fail)
        go_wp2
        go_ret
        exact ⟨by rw [HF.out]; rfl, HBw.out.trans ((hq _).out.mono (Nat.le_of_lt hgt))⟩
      · have hbit : (bits .and .u8 ((d[pq].toNat : Int) / (2 : Int) ^ pr) 1 == 0) = false := by
          rw [← hbe, hso]
          exact beq_eq_false_iff_ne.2 (by omega)
        have HZ := Lib.hid hz
        clear hso hz hbe
        go_wp2
        go_quiet (fail)
        go_wp2
        go_roundw
        case rel => exact ⟨k + 1, by go_num, by omega, Lib.hid (by
            intro j hj
            rcases Nat.lt_or_ge j k with h1 | h1
            · exact HJ.out j h1
            · obtain rfl : j = k := by omega
              rw [HBT.out]; exact HZ.out), hq _⟩
        case measure => simp [intOf]; omega

end Go.Proofs.Ytingloamfpibaaa
