/-
  The example of chapter 24.
-/
import Derived.Test.YtgllojpeggmleaaNetC
import Derived.Test.YtgllojpeggmleaaPull
namespace Go.Proofs.Ytgllojpeggmleaa
open Go.RowKit Go.Proofs.Mem

theorem way00 : wayOf ⟨#[0, 0]⟩ = 0 := by decide
theorem rest00 : restOf ⟨#[0, 0]⟩ = ⟨#[0]⟩ := by decide
theorem way0 : wayOf ⟨#[0]⟩ = 0 := by decide
theorem rest0 : restOf ⟨#[0]⟩ = ⟨#[]⟩ := by decide

set_option maxHeartbeats 1000000 in
theorem awake_any (w : World) : Calls Try.prog 9 #[] w fun e w' => e = .returned (.bool true) ∧ Below w.heap.size w w' := by
  go_enter Try.func9, Try.ntmps9
  go_wp2_with fail
  refine (core_00_l (.slice none 0 0) (.slice none 0 0) [] ⟨#[0, 0]⟩ ⟨#[97]⟩ 0 0 0 0 0 0 0 0 2 _ (show (1 : Nat) ≤ 65536 by omega) (show (2 : Nat) ≤ 9223372036854775807 by omega) Strs.none_ ⟨_, _, _, rfl⟩ (by simp) (by omega) (by omega) way00 (by omega)).mono ?_
  rintro e w1 ⟨V1, rfl, hV1, _, hb1⟩
  rw [rest00]
  have hV1' := Lib.hid hV1
  obtain ⟨A1, c1, rfl, _, _, _⟩ := hV1
  go_wp2_with fail
  refine (core_00_0 (.slice A1 0 c1) (.slice none 0 0) [] ⟨#[0]⟩ ⟨#[98]⟩ 1 0 0 0 0 0 0 0 2 _ (show (1 : Nat) ≤ 65536 by omega) (show (1 : Nat) ≤ 9223372036854775807 by omega) hV1'.out ⟨_, _, _, rfl⟩ (by simp) (by omega) (by omega) way0 (by omega)).mono ?_
  rintro e w2 ⟨V2, rfl, hV2, _, hb2⟩
  rw [rest0]
  have hV2' := Lib.hid hV2
  have hl2 : last60 ([] ++ [(⟨#[98]⟩ : ByteArray)]) = [⟨#[98]⟩] := rfl
  rw [hl2] at hV2
  obtain ⟨A2, c2, rfl, _, _, _⟩ := hV2
  have HL2 := Lib.hid hl2
  clear hl2
  go_wp2_with fail
  apply Calls.mono
  · exact pull1_0 (.slice A2 1 c2) (.slice none 0 0) ⟨#[98]⟩ [] ⟨#[]⟩ 0 0 0 0 0 0 0 0 2 _ (by have h := hV2'.out; rw [HL2.out] at h; exact h.alloc _) ⟨_, _, _, rfl⟩ (by simp)
  rintro e w3 ⟨V3, rfl, hV3, _, hb3⟩
  obtain ⟨A3, c3, rfl, _, _, _⟩ := hV3
  have k0 : w3.cell? ⟨w2.heap.size, 0, none⟩ = some (.slice A2 1 c2) := (hb3.cell (p := ⟨w2.heap.size, 0, none⟩) (by go_simp)).trans (by go_simp)
  have hz : w2.heap.size < w3.heap.size := by have := hb3.size; simp at this; omega
  have hbb : Below w.heap.size w w3 := bel (bel (bel hb1 hb2) (by go_grown)) hb3
  go_wp2_with fail
  go_ret
  exact ⟨rfl, hbb.alloc hbb.size _⟩

end Go.Proofs.Ytgllojpeggmleaa
