/-
  A byte that stands often, packed.
-/
import Derived.Test.YtjmggbfhccdpkaaLRoo
namespace Go.Proofs.Ytjmggbfhccdpkaa
open Go.RowKit Go.Shelf Go.Proofs.Mem Go.Maps
set_option linter.unusedVariables false

theorem bestK_ge (s : ByteArray) (i : Nat) : ∀ c d, 1 ≤ d → d ≤ c → 4 ≤ sameN s (i - d) i → sameN s (i - d) i ≤ (bestK s i c).1
  | 0, d, h1, h2, _ => by omega
  | c + 1, d, h1, h2, h4 => by
    unfold bestK
    dsimp only
    rcases Nat.lt_or_ge c d with h | h
    · obtain rfl : d = c + 1 := by omega
      split
      · exact Nat.le_refl _
      · omega
    · have := bestK_ge s i c d h1 h h4
      split
      · exact Nat.le_trans this (Nat.le_of_lt (by rename_i h; exact h.2))
      · exact this
def Alike (s : ByteArray) : Prop := ∀ i j (hi : i < s.size) (hj : j < s.size), s[i] = s[j]
theorem alike_same {s : ByteArray} (h : Alike s) {a b k : Nat} (hab : a ≤ b) (hk : k ≤ 131) (hb : b + k ≤ s.size) : k ≤ sameN s a b :=
  (same_iff s a b k).2 ⟨hk, fun i hi => by
    refine ⟨by omega, ?_⟩
    have h1 : a + i < s.size := by omega
    have h2 : b + i < s.size := by omega
    have := h (a + i) (b + i) h1 h2
    unfold byteAt
    simp [h1, h2, this]⟩
theorem alike_best {s : ByteArray} (h : Alike s) {i : Nat} (h1 : 1 ≤ i) (hi : i ≤ s.size) (h4 : 4 ≤ s.size - i) : (bestP s i).1 = min 131 (s.size - i) := by
  have h2 : min 131 (s.size - i) ≤ sameN s (i - 1) i := alike_same h (by omega) (by omega) (by omega)
  have h3 := bestK_ge s i (min i 4096) 1 (Nat.le_refl _) (by omega) (by omega)
  obtain ⟨hn131, hnroom, _⟩ := bestP_le s i hi
  unfold bestP at *
  omega
theorem alike_cost {s : ByteArray} (h : Alike s) (i : Nat) (out : List UInt8) (h1 : 1 ≤ i) (hi : i ≤ s.size) :
    (packL s i out []).length ≤ out.length + 3 * ((s.size - i) / 131) + 4 ∧ (4 ≤ s.size - i → s.size - i ≤ 131 → (packL s i out []).length ≤ out.length + 3) ∧ (i = s.size → (packL s i out []).length ≤ out.length) := by
  induction hk : s.size - i using Nat.strongRecOn generalizing i out with
  | _ k ih =>
    rcases Nat.lt_or_ge k 4 with hk4 | hk4
    · have := pack_room s i out [] hi (by simp)
      rw [List.length_nil] at this
      refine ⟨by omega, fun _ => by omega, fun e => ?_⟩
      rw [pack_end (by omega)]
      simp [rowL]
    · have hb := alike_best h h1 hi (by omega)
      have hb0 : ¬ (bestP s i).1 = 0 := by omega
      have hlt : i < s.size := by omega
      obtain ⟨_, _, _, hf4, _⟩ := bestP_le s i hi
      rw [pack_match hlt hb0]
      have hI := ih (s.size - (i + (bestP s i).1)) (by omega) (i + (bestP s i).1) (out ++ rowL [] ++ [UInt8.ofNat ((bestP s i).1 + 124)] ++ (putB (bestP s i).2).data.toList) (by omega) (by omega) rfl
      have h2 := putB_two _ hf4
      have h3 : (putB (bestP s i).2).data.toList.length = (putB (bestP s i).2).size := Array.length_toList
      rw [List.length_append, List.length_append, List.length_append, List.length_singleton, h3, show (rowL []).length = 0 from rfl] at hI
      obtain ⟨hI1, _, hI3⟩ := hI
      refine ⟨?_, fun _ h131 => ?_, fun e => by omega⟩
      · rcases Nat.lt_or_ge 131 k with h131 | h131
        · omega
        · have := hI3 (by omega)
          omega
      · have := hI3 (by omega)
        omega
theorem alike_room {s : ByteArray} (h : Alike s) (h5 : 5 ≤ s.size) : (packB s).size ≤ 5 + s.size / 31 := by
  show (packL s 0 [] []).toArray.size ≤ _
  rw [List.size_toArray]
  have hlt : 0 < s.size := by omega
  have hb : (bestP s 0).1 = 0 := by
    obtain ⟨_, _, h2, _, h4⟩ := bestP_le s 0 (by omega)
    rcases h4 with h4 | h4
    · exact h4
    · omega
  rw [pack_lit hlt hb (by decide)]
  have h1 := alike_best h (i := 1) (Nat.le_refl _) (by omega) (by omega)
  obtain ⟨_, _, _, hf4, _⟩ := bestP_le s 1 (by omega)
  have h2 := putB_two _ hf4
  have h3 : (putB (bestP s 1).2).data.toList.length = (putB (bestP s 1).2).size := Array.length_toList
  rw [Nat.zero_add, pack_match (by omega) (by omega)]
  have hI := alike_cost h (1 + (bestP s 1).1) ([] ++ rowL ([] ++ [s[0]]) ++ [UInt8.ofNat ((bestP s 1).1 + 124)] ++ (putB (bestP s 1).2).data.toList) (by omega) (by omega)
  rw [List.length_append, List.length_append, List.length_append, List.length_singleton, h3, show (rowL ([] ++ [s[0]])).length = 2 from rfl, List.length_nil] at hI
  obtain ⟨hI1, _, hI3⟩ := hI
  rcases Nat.lt_or_ge 132 s.size with h131 | h131
  · omega
  · have := hI3 (by omega)
    omega

end Go.Proofs.Ytjmggbfhccdpkaa
