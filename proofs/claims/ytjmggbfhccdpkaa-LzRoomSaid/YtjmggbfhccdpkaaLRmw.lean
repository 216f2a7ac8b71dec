/-
  LzRoom's walk.
-/
import Derived.Test.YtjmggbfhccdpkaaLAwk
import Derived.Test.YtjmggbfhccdpkaaLCst
import Derived.Laws.MakeOwn
namespace Go.Proofs.Ytjmggbfhccdpkaa
open Go.RowKit Go.Shelf Go.Proofs.Mem Go.Maps
set_option linter.unusedVariables false

theorem alike_rep (k : Nat) (x : UInt8) : Alike ⟨(List.replicate k x).toArray⟩ := by
  intro a b ha hb
  show (List.replicate k x).toArray[a]'ha = (List.replicate k x).toArray[b]'hb
  simp
theorem room_walk (s : ByteArray) (b n : Nat) (w : World) (hs : s.size ≤ 9223372036854775807) (hb : b < 256) (hn : n < 65536) : Calls Try.prog 4 #[.string s, .int .u8 (b : Nat), .int .u16 (n : Nat)] w fun e w' => e = .returned (.bool true) ∧ Below w.heap.size w w' := by
  by_cases hz : s.size ≤ 5000
  case neg =>
    have HA := Lib.hid (awake_any w)
    have h1 : (5000 : Int) < (s.size : Int) := by omega
    go_enter Try.func4, Try.ntmps4
    go_wp2_with (go_at_call 6; refine Calls.mono HA.out ?_; rintro e w1 ⟨rfl, hb1⟩; have HB1 := Lib.hid hb1; clear hb1)
    go_ret
    exact ⟨rfl, HB1.out⟩
  have h1 : ¬ (5000 : Int) < (s.size : Int) := by omega
  have HA := Lib.hid (fun W => awake_any W)
  have H1 := Lib.hid (fun s hs W => pack_any s W hs)
  have H3 := Lib.hid (fun W => squash_any s W (by omega))
  have hpr := packB_room s
  have hsq : (squashB s).size ≤ s.size + 1 := by
    unfold squashB
    split
    · rw [ByteArray.size_append, show (⟨#[1]⟩ : ByteArray).size = 1 from rfl]; omega
    · rw [ByteArray.size_append, show (⟨#[0]⟩ : ByteArray).size = 1 from rfl]; omega
  obtain ⟨P, hP⟩ : ∃ P, P = packB s := ⟨_, rfl⟩
  obtain ⟨S, hS⟩ : ∃ S, S = squashB s := ⟨_, rfl⟩
  have H1s := Lib.hid (fun W => pack_any s W (by omega))
  rw [← hP] at hpr H1s
  rw [← hS] at hsq H3
  obtain ⟨k, hk⟩ : ∃ k, k = n % 3000 + 5 := ⟨_, rfl⟩
  have hk3 : k < 3005 := by omega
  have w1 : IntKind.i64.wrap ((s.size : Int) + 127) = ((s.size + 127 : Nat) : Int) := by rw [IntKind.wrap_i64]; omega
  have hpr2 : ¬ ((s.size : Int) + ((s.size : Int) + 127) / 128 < (P.size : Int)) := by omega
  have hsq2 : ¬ ((s.size : Int) + 1 < (S.size : Int)) := by omega
  have hkn : (n : Int) % 3000 + 5 = (k : Int) := by omega
  obtain ⟨i0, hi0, hz0, hz1, hz2⟩ := info_parts Try.infoU
  have hmk : ∀ W : World, (Instr.makeSlice 26 (.int .i64 ((n : Int) % 3000 + 5)) (.int .i64 ((n : Int) % 3000 + 5))).run Try.prog W = .ok (.slice (some ⟨W.heap.size, 0, none⟩) k k) (W.alloc (.cells (madeCells #[.int .u8 0] k) 5)) := fun W => by
    rw [hkn]
    have h := run_make (P := Try.prog) W 26 5 i0 (.int .u8 0) Try.underlying26 hi0 hz0 .i64 .i64 (k : Nat) (k : Nat) (Int.natCast_nonneg _) (Int.le_refl _) (by rw [hz2]; omega) (by omega)
    rw [hz1, Nat.mul_one] at h
    rw [h]
    rfl
  have hk5 : 5 ≤ k := by omega
  have hmk2 : ∀ W : World, (Instr.makeSlice 26 (.int .i64 (k : Nat)) (.int .i64 (k : Nat))).run Try.prog W = .ok (.slice (some ⟨W.heap.size, 0, none⟩) k k) (W.alloc (.cells (madeCells #[.int .u8 0] k) 5)) := by rw [← hkn]; exact hmk
  clear hs hP hS hpr hsq hi0 hz0 hz1 hz2 hk hmk
  go_enter Try.func4, Try.ntmps4
  go_wp2_with (first
    | (go_at_call 7; refine Calls.mono (H1s.out _) ?_; rintro e w1 ⟨rfl, hb1⟩; have HB1 := Lib.hid hb1; clear hb1)
    | (go_at_call 9; refine Calls.mono (H3.out _) ?_; rintro e w3 ⟨rfl, hb3⟩; have HB3 := Lib.hid (bel HB1.out hb3); clear hb3))
  have HB4 : Hid (Below w.heap.size w (w3.alloc (.cells (madeCells #[.int .u8 0] k) 5))) := Lib.hid (HB3.out.alloc HB3.out.size _)
  have hG : w.heap.size ≤ w3.heap.size := HB3.out.size
  have hnew : (w3.alloc (.cells (madeCells #[.int .u8 0] k) 5)).heap[w3.heap.size]? = some (.cells (madeCells #[.int .u8 0] k) 5) := heap_alloc_new w3 _
  have HC : Hid (∀ j, j < k → (w3.alloc (.cells (madeCells #[.int .u8 0] k) 5)).cell? ⟨w3.heap.size, j, none⟩ = some (.int .u8 0)) := Lib.hid (fun j hj => by
    rw [cell_of_row _ _ j _ _ (0, 0) hnew]
    unfold madeCells
    simp [hj]
    rw [Nat.mod_one]
    rfl)
  have HFz : Hid (∀ o, (w3.alloc (.cells (madeCells #[.int .u8 0] k) 5)).frozen? ⟨w3.heap.size, o, none⟩ = false) := Lib.hid (fun o => frozen_of_row _ _ o _ _ hnew)
  clear hnew hmk2
  generalize w3.alloc (.cells (madeCells #[.int .u8 0] k) 5) = w4 at *
  generalize w3.heap.size = G at *
  go_loopw [9, 42] (fun _ iv wr => ∃ i : Nat, iv = .int .i64 i ∧ i ≤ k ∧ Hid (∀ j, j < k → wr.cell? ⟨G, j, none⟩ = some (.int .u8 ((if j < i then b else 0 : Nat) : Nat))) ∧ Hid (∀ o, wr.frozen? ⟨G, o, none⟩ = false) ∧ Hid (Below w.heap.size w wr)) (fun _ iv _ => k + 1 - (intOf iv).toNat)
  case atStart => exact ⟨0, rfl, Nat.zero_le _, Lib.hid (fun j hj => by rw [if_neg (by omega)]; exact HC.out j hj), HFz, HB4⟩
  case round =>
    obtain ⟨i, rfl, hik, HCi, HFi, HBi⟩ := hrel
    by_cases hlt : i < k
    · have l1 : (0 : Int) ≤ (i : Int) := by omega
      have l2 : (i : Int) < (k : Int) := by omega
      have c1 := HCi.out i hlt
      have f1 := HFi.out i
      go_wp2_with fail
      go_roundw
      case rel => exact ⟨i + 1, by go_num, by omega, Lib.hid (fun j hj => by
        by_cases hj2 : j = i
        · subst hj2
          rw [if_pos (by omega)]
          exact World.cell?_setCell_same' _ _ _ (by rw [c1]; rfl)
        · rw [World.cell?_setCell_other _ _ _ _ (by intro e; injection e with _ e2 _; exact hj2 e2.symm), HCi.out j hj]
          congr 3
          by_cases h : j < i
          · rw [if_pos h, if_pos (by omega)]
          · rw [if_neg h, if_neg (by omega)]), Lib.hid (fun o => by have := HFi.out o; go_simp), Lib.hid (HBi.out.setCell hG _)⟩
      case measure => simp [intOf]; omega
    · have hik2 : i = k := by omega
      subst hik2
      have hcv : Sem.run Try.prog (convert 26 9 (.slice (some ⟨G, 0, none⟩) i i)) wr = .ok (.string ⟨(List.replicate i (UInt8.ofNat b)).toArray⟩) wr := by
        have := run_convert_bytes_back (P := Try.prog) wr 26 9 5 ⟨G, 0, none⟩ i (List.replicate i (UInt8.ofNat b)) Try.underlying26 Try.underlying5 Try.underlying9 (fun j hj => by
          have hj' : j < i := by simpa using hj
          have := HCi.out j hj'
          rw [if_pos hj'] at this
          rw [List.getElem_replicate, UInt8.toNat_ofNat', Nat.mod_eq_of_lt (by omega)]
          rw [show (⟨G, 0, none⟩ : Addr).add j = ⟨G, j, none⟩ by simp [Addr.add]; exact fun h => h.symm]
          exact this)
        rw [List.length_replicate] at this
        exact this
      obtain ⟨T, hT⟩ : ∃ T : ByteArray, T = ⟨(List.replicate i (UInt8.ofNat b)).toArray⟩ := ⟨_, rfl⟩
      have hTs : T.size = i := by rw [hT]; show (List.replicate i (UInt8.ofNat b)).toArray.size = i; simp
      have hTa : Alike T := by rw [hT]; exact alike_rep _ _
      have hbig := alike_room hTa (by omega)
      rw [← hT] at hcv
      have H1T := Lib.hid (fun W => pack_any T W (by omega))
      obtain ⟨Q, hQ⟩ : ∃ Q, Q = packB T := ⟨_, rfl⟩
      rw [← hQ] at hbig H1T
      have hle : (Q.size : Int) ≤ 5 + (i : Int) / 31 := by omega
      clear hT hTs hTa hbig hQ
      go_wp2_with (first
        | (go_at_call 7; refine Calls.mono (H1T.out _) ?_; rintro e w5 ⟨rfl, hb5⟩; have HB5 := Lib.hid (bel HBi.out hb5); clear hb5)
        | (go_at_call 6; refine Calls.mono (HA.out _) ?_; rintro e w6 ⟨rfl, hb6⟩; have HB6 := Lib.hid (bel HB5.out hb6); clear hb6))
      go_ret
      exact ⟨rfl, HB6.out⟩

end Go.Proofs.Ytjmggbfhccdpkaa
