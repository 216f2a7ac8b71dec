/-
  An index's bytes read.
-/
import Derived.Test.YtjjenpklcbpkmaaIAll
import Derived.DeepKeys
import Derived.Deep.RegionHeld3
import Derived.Deep.RegionWith
namespace Go.Proofs.Ytjjenpklcbpkmaa
open Go.RowKit Go.Proofs.Mem
set_option linter.unusedVariables false

def magicB : ByteArray := ⟨#[83, 73, 88, 49]⟩
/-- Which error an index's bytes have. -/
def codeOf (s : ByteArray) : Nat :=
  if s.size < 1032 then 1
  else if s.extract 0 4 ≠ magicB ∨ (s.size - 1032) % 40 ≠ 0 then 2
  else if crcB (crcN (s.extract 0 (s.size - 4))) ≠ s.extract (s.size - 4) s.size then 3
  else if writeB (slotsOf s) ≠ s then 2
  else 0
theorem bytes_of_list {y x : ByteArray} (e : y.toList = x.toList) : y = x := by
  rw [Lib.toList_data, Lib.toList_data] at e
  cases y; cases x
  congr 1
  exact Array.toList_inj.1 e
theorem beq_list (a b : ByteArray) : (a.toList == b.toList) = decide (a = b) := by
  rw [Bool.eq_iff_iff, beq_iff_eq, decide_eq_true_eq]
  exact ⟨bytes_of_list, fun h => by rw [h]⟩

theorem slots_sized (s : ByteArray) (hs : s.size ≤ 9223372036854775807) : ∀ x ∈ slotsOf s, x.k.size ≤ 9223372036854775807 := by
  intro x hx
  unfold slotsOf slotsN at hx
  obtain ⟨i, _, rfl⟩ := List.mem_map.1 hx
  show (s.extract _ _).size ≤ _
  rw [ByteArray.size_extract]
  omega

set_option maxRecDepth 100000 in
set_option maxHeartbeats 1000000 in
theorem check_any (s : ByteArray) (w : World) (hs : s.size ≤ 1000000) :
    Calls Try.prog 23 #[.string s] w fun e w' => e = .returned (.int .i64 (codeOf s : Nat)) ∧ Below w.heap.size w w' := by
  by_cases h0 : s.size < 1032
  · have hc : codeOf s = 1 := by unfold codeOf; rw [if_pos h0]
    rw [hc]
    have h1 : (s.size : Int) < 1032 := by omega
    go_enter Try.func23, Try.ntmps23
    go_wp2_with fail
    go_ret
    exact ⟨rfl, Below.refl _ _⟩
  have h1 : (1032 : Int) ≤ (s.size : Int) := by omega
  have hn : 1032 ≤ s.size := by omega
  obtain ⟨c, hc⟩ : ∃ c, c = codeOf s := ⟨_, rfl⟩
  rw [← hc]
  unfold codeOf at hc
  rw [if_neg h0] at hc
  have HC := Lib.hid hc
  clear h0 hc
  have hmt : (⟨#[83, 73, 88, 49]⟩ : ByteArray).toList = [83, 73, 88, 49] := by rw [Lib.toList_data]
  by_cases hm : s.extract 0 4 = magicB
  case neg =>
    have q0 : ((s.extract 0 4).toList == (⟨#[83, 73, 88, 49]⟩ : ByteArray).toList) = false := by rw [beq_list]; exact decide_eq_false hm
    rw [hmt] at q0
    rw [if_pos (.inl hm)] at HC
    clear hm hmt
    go_enter Try.func23, Try.ntmps23
    go_wp2_with fail
    go_ret
    exact ⟨by rw [HC.out]; rfl, Below.refl _ _⟩
  have q0 : ((s.extract 0 4).toList == (⟨#[83, 73, 88, 49]⟩ : ByteArray).toList) = true := by rw [beq_list]; exact decide_eq_true hm
  rw [hmt] at q0
  by_cases hr : (s.size - 1032) % 40 = 0
  case neg =>
    have q1 : (((s.size : Int) - 4 - 1028) % 40 != 0) = true := by simp; omega
    rw [if_pos (.inr hr)] at HC
    clear hm hr hmt
    go_enter Try.func23, Try.ntmps23
    go_wp2_with fail
    go_ret
    exact ⟨by rw [HC.out]; rfl, Below.refl _ _⟩
  obtain ⟨m, hmm⟩ : ∃ m, m = s.size - 4 := ⟨_, rfl⟩
  have hsm : (s.size : Int) - 4 = (m : Int) := by omega
  have hms : m ≤ s.size := by omega
  have q1 : (((m : Int) - 1028) % 40 != 0) = false := by simp; omega
  rw [if_neg (by rintro (h | h); exact h hm; exact h hr)] at HC
  clear hm hr hmt
  rw [← hmm] at HC
  clear hmm
  obtain ⟨cc, hcc⟩ : ∃ cc, cc = crcN (s.extract 0 m) := ⟨_, rfl⟩
  have hccl : cc < 4294967296 := by rw [hcc]; exact crcN_lt _
  have HSM := Lib.hid (fun W => sum_any (s.extract 0 m) W (by rw [ByteArray.size_extract]; omega))
  rw [← hcc] at HSM HC
  have HBY := Lib.hid (fun W => bytes_any cc W hccl)
  obtain ⟨cb, hcb⟩ : ∃ cb, cb = crcB cc := ⟨_, rfl⟩
  rw [← hcb] at HBY HC
  clear hcc hcb hccl
  have HW0 : Hid (Below w.heap.size w w.drew) := Lib.hid (Below.refl _ _).drew
  by_cases hs3 : cb = s.extract m s.size
  case neg =>
    have q2 : (cb.toList == (s.extract m s.size).toList) = false := by rw [beq_list, decide_eq_false hs3]
    rw [if_pos hs3] at HC
    clear hs3
    go_enter Try.func23, Try.ntmps23
    go_wp2_with fail
    go_region_held3 (fun W => Hid (Below w.heap.size w W))
      (first
        | exact HW0
        | assumption
        | (apply Lib.hid; refine bel ?_ (by assumption); apply Hid.out; assumption))
      (first
        | (go_at_call 33; refine Calls.mono (HSM.out _) ?_; rintro e wx ⟨rfl, hBx⟩)
        | (go_at_call 32; refine Calls.mono (HBY.out _) ?_; rintro e wx ⟨rfl, hBx⟩))
    go_wp2_with fail
    go_ret
    exact ⟨by rw [HC.out]; rfl, Hid.out (by assumption)⟩
  have q2 : (cb.toList == (s.extract m s.size).toList) = true := by rw [beq_list, decide_eq_true hs3]
  rw [if_neg (fun h => h hs3)] at HC
  clear hs3
  go_enter Try.func23, Try.ntmps23
  go_wp2_with fail
  go_region_held3 (fun W => Hid (Below w.heap.size w W))
    (first
      | exact HW0
      | assumption
      | (apply Lib.hid; refine bel ?_ (by assumption); apply Hid.out; assumption))
    (first
      | (go_at_call 33; refine Calls.mono (HSM.out _) ?_; rintro e wx ⟨rfl, hBx⟩)
      | (go_at_call 32; refine Calls.mono (HBY.out _) ?_; rintro e wx ⟨rfl, hBx⟩))
  obtain ⟨r, hr⟩ : ∃ r, r = writeB (slotsOf s) := ⟨_, rfl⟩
  rw [← hr] at HC
  have HAL := Lib.hid (fun W => all_any s W hn hs)
  have HWR := Lib.hid (fun W D (hD : Slots W W.heap.size D (slotsOf s)) => write_any D (slotsOf s) W hD (slots_sized s (by omega)))
  rw [← hr] at HWR
  by_cases hw : r = s
  case neg =>
    have q3 : (r.toList == s.toList) = false := by rw [beq_list, decide_eq_false hw]
    rw [if_pos hw] at HC
    clear hw hr
    go_wp2_with (first
      | (go_at_call 24; refine Calls.mono (HAL.out _) ?_; rintro e wy ⟨D, rfl, hD, hBy⟩; have HD := Lib.hid (slots_of_own hD); have HBY2 := Lib.hid (bel (Hid.out ‹Hid (Below w.heap.size w _)›) hBy); clear hD hBy)
      | (go_at_call 10; refine Calls.mono (HWR.out _ _ HD.out) ?_; rintro e wz ⟨rfl, hBz⟩; have HBZ := Lib.hid (bel HBY2.out hBz); clear hBz))
    go_ret
    exact ⟨by rw [HC.out]; rfl, HBZ.out⟩
  have q3 : (r.toList == s.toList) = true := by rw [beq_list, decide_eq_true hw]
  rw [if_neg (fun h => h hw)] at HC
  clear hw hr
  go_wp2_with (first
    | (go_at_call 24; refine Calls.mono (HAL.out _) ?_; rintro e wy ⟨D, rfl, hD, hBy⟩; have HD := Lib.hid (slots_of_own hD); have HBY2 := Lib.hid (bel (Hid.out ‹Hid (Below w.heap.size w _)›) hBy); clear hD hBy)
    | (go_at_call 10; refine Calls.mono (HWR.out _ _ HD.out) ?_; rintro e wz ⟨rfl, hBz⟩; have HBZ := Lib.hid (bel HBY2.out hBz); clear hBz))
  go_ret
  exact ⟨by rw [HC.out]; rfl, HBZ.out⟩

def readL (s : ByteArray) : List Slt := if codeOf s = 0 then slotsOf s else []
theorem code_ge {s : ByteArray} (h : codeOf s = 0) : 1032 ≤ s.size := by
  unfold codeOf at h
  by_cases hh : s.size < 1032
  · rw [if_pos hh] at h; cases h
  · omega

set_option maxHeartbeats 1000000 in
theorem read_any (s : ByteArray) (w : World) (hs : s.size ≤ 1000000) :
    Calls Try.prog 8 #[.string s] w fun e w' => ∃ D, e = .returned (.tuple #[D, .int .i64 (codeOf s : Nat)]) ∧ Slots w' w'.heap.size D (readL s) ∧ Below w.heap.size w w' := by
  have HCK := Lib.hid (fun W => check_any s W hs)
  have HS := Lib.hid hs
  obtain ⟨c, hc⟩ : ∃ c, c = codeOf s := ⟨_, rfl⟩
  rw [← hc] at HCK ⊢
  by_cases h0 : c = 0
  · subst h0
    have HR : Hid (readL s = slotsOf s) := Lib.hid (by unfold readL; rw [if_pos hc.symm])
    have HGE := Lib.hid (code_ge hc.symm)
    clear hc hs
    go_enter Try.func8, Try.ntmps8
    go_wp2_with (first
      | (go_at_call 23; refine Calls.mono (HCK.out _) ?_; rintro e w1 ⟨rfl, hB1⟩; have HB1 := Lib.hid hB1; clear hB1)
      | (go_at_call 24; refine Calls.mono (all_any s _ HGE.out HS.out) ?_; rintro e w2 ⟨D, rfl, hD, hB2⟩; have HB2 := Lib.hid (bel HB1.out hB2); have HD := Lib.hid (slots_of_own hD); clear hD hB2))
    go_ret2
    refine ⟨D, rfl, ?_, HB2.out⟩
    rw [HR.out]
    exact HD.out
  · have HR : Hid (readL s = []) := Lib.hid (by unfold readL; rw [if_neg (fun e => h0 (hc.trans e))])
    have hq : ((c : Int) != 0) = true := by simp; omega
    clear hc hs
    go_enter Try.func8, Try.ntmps8
    go_wp2_with (first
      | (go_at_call 23; refine Calls.mono (HCK.out _) ?_; rintro e w1 ⟨rfl, hB1⟩; have HB1 := Lib.hid hB1; clear hB1))
    go_ret2
    refine ⟨_, rfl, ?_, HB1.out⟩
    rw [HR.out]
    exact Slots.nil

end Go.Proofs.Ytjjenpklcbpkmaa
