/-
  Room: what a packed text weighs, at most.
-/
import Derived.Test.YtjmggbfhccdpkaaLPck
namespace Go.Proofs.Ytjmggbfhccdpkaa
open Go.RowKit Go.Shelf Go.Proofs.Mem Go.Maps
set_option linter.unusedVariables false

theorem putB_two (n : Nat) (h : n ≤ 4096) : (putB n).size ≤ 2 := by
  show (putL 10 n).toArray.size ≤ 2
  rw [List.size_toArray]
  by_cases hs : n < 128
  · rw [putL_small 10 n hs]; simp
  · have h2 : n / 128 < 128 := by omega
    rw [show putL 10 n = UInt8.ofNat (n % 128 + 128) :: putL 9 (n / 128) from if_neg hs, List.length_cons, putL_small 9 _ h2]; simp
theorem pack_room (s : ByteArray) (i : Nat) (out r : List UInt8) (hi : i ≤ s.size) (hr : r.length < 128) : (packL s i out r).length ≤ out.length + r.length + (s.size - i) + (s.size - i + r.length + 127) / 128 := by
  induction hk : s.size - i using Nat.strongRecOn generalizing i out r with
  | _ k ih =>
    by_cases hlt : i < s.size
    case neg =>
      rw [pack_end hlt, List.length_append]
      unfold rowL
      split
      · rw [List.length_nil]; omega
      · rename_i h0
        have : 0 < r.length := List.length_pos_iff.2 h0
        rw [List.length_cons]; omega
    obtain ⟨hn131, hnroom, hf2, hf4, hn4⟩ := bestP_le s i hi
    by_cases hb : (bestP s i).1 = 0
    · by_cases hf : r.length + 1 = 128
      · rw [pack_full hlt hb hf]
        have := ih (s.size - (i + 1)) (by omega) (i + 1) (out ++ rowL (r ++ [s[i]])) [] (by omega) (by simp) rfl
        have h1 := row_le (r ++ [s[i]])
        rw [List.length_append, List.length_singleton] at h1
        rw [List.length_append, List.length_nil] at this
        omega
      · rw [pack_lit hlt hb hf]
        have := ih (s.size - (i + 1)) (by omega) (i + 1) out (r ++ [s[i]]) (by omega) (by rw [List.length_append, List.length_singleton]; omega) rfl
        rw [List.length_append, List.length_singleton] at this
        omega
    · rw [pack_match hlt hb]
      have := ih (s.size - (i + (bestP s i).1)) (by omega) (i + (bestP s i).1) (out ++ rowL r ++ [UInt8.ofNat ((bestP s i).1 + 124)] ++ (putB (bestP s i).2).data.toList) [] (by omega) (by simp) rfl
      have h1 := putB_two _ hf4
      have h3 : (putB (bestP s i).2).data.toList.length = (putB (bestP s i).2).size := Array.length_toList
      rw [List.length_append, List.length_append, List.length_append, List.length_singleton, List.length_nil, h3] at this
      have h2 : (rowL r).length ≤ r.length + 1 ∧ (r.length = 0 → (rowL r).length = 0) := ⟨row_le r, fun h => by rw [List.length_eq_zero_iff.1 h]; rfl⟩
      omega
theorem packB_room (s : ByteArray) : (packB s).size ≤ s.size + (s.size + 127) / 128 := by
  have := pack_room s 0 [] [] (Nat.zero_le _) (by simp)
  show (packL s 0 [] []).toArray.size ≤ _
  rw [List.size_toArray]
  simpa using this
def squashB (s : ByteArray) : ByteArray := if (packB s).size < s.size then ⟨#[1]⟩ ++ packB s else ⟨#[0]⟩ ++ s

end Go.Proofs.Ytjmggbfhccdpkaa
