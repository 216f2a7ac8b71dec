/-
  The document's Name.
-/
import Derived.Test.YthlajcohbpjgkaaDoorMRSm
namespace Go.Proofs.YthlajcohbpjgkaaDoor
open Go.RowKit Go.Shelf Go.Proofs.Mem
set_option linter.unusedVariables false

def nameC (s : ByteArray) : Bool := s.data.toList.all fun b => decide (b ≠ 0) && decide (b ≠ 47)
theorem nameC_at (s : ByteArray) (h : ∀ j, j < s.size → byteAt s j ≠ 0 ∧ byteAt s j ≠ 47) : nameC s = true := by
  unfold nameC
  rw [List.all_eq_true]
  intro b hb
  obtain ⟨j, hj, rfl⟩ := List.mem_iff_getElem.1 hb
  have hj' : j < s.size := by simpa using hj
  obtain ⟨h1, h2⟩ := h j hj'
  rw [byteAt_eq s j hj'] at h1 h2
  have e : s.data.toList[j] = s[j] := rfl
  rw [e, Bool.and_eq_true, decide_eq_true_iff, decide_eq_true_iff]
  exact ⟨fun e => h1 (by rw [e]; rfl), fun e => h2 (by rw [e]; rfl)⟩
theorem nameC_no (s : ByteArray) (j : Nat) (hj : j < s.size) (h : byteAt s j = 0 ∨ byteAt s j = 47) : nameC s = false := by
  rw [Bool.eq_false_iff]
  intro hc
  unfold nameC at hc
  rw [List.all_eq_true] at hc
  have := hc (s[j]) (by show s.data.toList[j] ∈ _; exact List.getElem_mem _)
  rw [Bool.and_eq_true, decide_eq_true_iff, decide_eq_true_iff] at this
  rw [byteAt_eq s j hj] at h
  rcases h with h | h
  · exact this.1 (UInt8.toNat_inj.1 h)
  · exact this.2 (UInt8.toNat_inj.1 h)
theorem nameB_eq (s : ByteArray) : nameB s = (decide (s.size ≠ 0) && (decide (s.size ≤ 31) && (decide (s ≠ ⟨#[46]⟩) && (decide (s ≠ ⟨#[46, 46]⟩) && nameC s)))) := rfl
theorem str_nil (s : ByteArray) : (s.toList = []) = (s.size = 0) := by
  rw [Lib.toList_data]
  apply propext
  rw [← ByteArray.size_data, ← Array.length_toList, List.length_eq_zero_iff]

set_option maxHeartbeats 1000000 in
theorem rname_any (s : ByteArray) (w : World) (hs : s.size ≤ maxLen) :
    Calls Tryd.prog 18 #[.string s] w fun e w' => e = .returned (.bool (nameB s)) ∧ w' = w := by
  unfold maxLen at hs
  have b46 : (s.toList == [46]) = decide (s = ⟨#[46]⟩) := by rw [← str_beq, Lib.toList_data ⟨#[46]⟩]
  have b4646 : (s.toList == [46, 46]) = decide (s = ⟨#[46, 46]⟩) := by rw [← str_beq, Lib.toList_data ⟨#[46, 46]⟩]
  by_cases h0 : s.size = 0
  case pos =>
    have e0 : s.toList.isEmpty = true := by rw [List.isEmpty_iff, str_nil]; exact h0
    have HF : Hid (nameB s = false) := Lib.hid (by rw [nameB_eq, decide_eq_false (fun h => h h0)]; rfl)
    clear h0 b46 b4646
    go_enter Tryd.func18, Tryd.ntmps18
    go_wp2_with fail
    go_ret
    exact ⟨by rw [HF.out]; rfl, rfl⟩
  have e0 : s.toList.isEmpty = false := by rw [Bool.eq_false_iff, ne_eq, List.isEmpty_iff, str_nil]; exact h0
  by_cases h31 : s.size ≤ 31
  case neg =>
    have d31 : decide (31 < (s.size : Int)) = true := decide_eq_true (by omega)
    have d32 : decide (31 < s.size) = true := decide_eq_true (by omega)
    have HF : Hid (nameB s = false) := Lib.hid (by rw [nameB_eq, decide_eq_false h31]; simp)
    clear b46 b4646
    go_enter Tryd.func18, Tryd.ntmps18
    go_wp2_with fail
    go_ret
    exact ⟨by rw [HF.out]; rfl, rfl⟩
  have d31 : decide (31 < (s.size : Int)) = false := decide_eq_false (by omega)
  have d32 : decide (31 < s.size) = false := decide_eq_false (by omega)
  by_cases h1 : s = ⟨#[46]⟩
  case pos =>
    have HF : Hid (nameB s = false) := Lib.hid (by rw [h1]; decide)
    rw [decide_eq_true h1] at b46
    clear h1 h0 b4646
    go_enter Tryd.func18, Tryd.ntmps18
    go_wp2_with fail
    go_ret
    exact ⟨by rw [HF.out]; rfl, rfl⟩
  rw [decide_eq_false h1] at b46
  by_cases h2 : s = ⟨#[46, 46]⟩
  case pos =>
    have HF : Hid (nameB s = false) := Lib.hid (by rw [h2]; decide)
    rw [decide_eq_true h2] at b4646
    clear h1 h2 h0
    go_enter Tryd.func18, Tryd.ntmps18
    go_wp2_with fail
    go_ret
    exact ⟨by rw [HF.out]; rfl, rfl⟩
  rw [decide_eq_false h2] at b4646
  have HF : Hid (nameB s = nameC s) := Lib.hid (by rw [nameB_eq, decide_eq_true h0, decide_eq_true h31, decide_eq_true h1, decide_eq_true h2]; rfl)
  clear h1 h2
  go_enter Tryd.func18, Tryd.ntmps18
  go_wp2_with fail
  go_loop [3] (fun iv => ∃ k : Nat, iv = .int .i64 k ∧ k ≤ s.size ∧ Hid (∀ j, j < k → byteAt s j ≠ 0 ∧ byteAt s j ≠ 47)) (fun iv => s.size + 1 - (intOf iv).toNat)
  case atStart => exact ⟨0, rfl, Nat.zero_le _, Lib.hid (fun j hj => absurd hj (Nat.not_lt_zero _))⟩
  case round =>
    obtain ⟨k, rfl, hk, hA⟩ := hrel
    by_cases hlt : k < s.size
    · obtain ⟨c, hc⟩ : ∃ c, c = byteAt s k := ⟨_, rfl⟩
      have hsc : (s[k].toNat : Int) = (c : Int) := by rw [hc, byteAt_eq s k hlt]
      have HC := Lib.hid hc
      clear hc
      by_cases c0 : c = 0
      case pos =>
        have g0 : ((c : Int) == 0) = true := by rw [beq_iff_eq]; omega
        have HN : Hid (nameC s = false) := Lib.hid (nameC_no s k hlt (.inl (by rw [← HC.out, c0])))
        clear c0
        go_wp2_with fail
        go_ret
        exact ⟨by rw [HF.out, HN.out]; rfl, rfl⟩
      have g0 : ((c : Int) == 0) = false := by rw [beq_eq_false_iff_ne]; omega
      by_cases c1 : c = 47
      case pos =>
        have g1 : ((c : Int) == 47) = true := by rw [beq_iff_eq]; omega
        have HN : Hid (nameC s = false) := Lib.hid (nameC_no s k hlt (.inr (by rw [← HC.out, c1])))
        clear c1 c0
        go_wp2_with fail
        go_ret
        exact ⟨by rw [HF.out, HN.out]; rfl, rfl⟩
      have g1 : ((c : Int) == 47) = false := by rw [beq_eq_false_iff_ne]; omega
      have HA : Hid (∀ j, j < k + 1 → byteAt s j ≠ 0 ∧ byteAt s j ≠ 47) := Lib.hid (fun j hj => by
        rcases Nat.lt_or_ge j k with h | h
        · exact hA.out j h
        · obtain rfl : j = k := by omega
          rw [← HC.out]; exact ⟨c0, c1⟩)
      clear c0 c1
      go_wp2_with fail
      go_round
      case rel => exact ⟨k + 1, by go_num, by omega, HA⟩
      case measure => simp [intOf]; omega
    · obtain rfl : k = s.size := by omega
      go_wp2_with fail
      go_ret
      exact ⟨by rw [HF.out, nameC_at s hA.out]; rfl, rfl⟩

end Go.Proofs.YthlajcohbpjgkaaDoor
