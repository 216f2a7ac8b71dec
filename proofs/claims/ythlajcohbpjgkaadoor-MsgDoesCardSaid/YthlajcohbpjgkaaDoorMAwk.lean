/-
  Chapter 22's example; MsgCuts' walk.
-/
import Derived.Test.YthlajcohbpjgkaaDoorMRd
import Derived.Test.YthlajcohbpjgkaaDoorMWrp
import Derived.Test.YthlajcohbpjgkaaDoorMLaw
import Derived.Test.YthlajcohbpjgkaaDoorMFew
import Derived.Test.YthlajcohbpjgkaaDoorMFir
namespace Go.Proofs.YthlajcohbpjgkaaDoor
open Go.RowKit Go.Shelf Go.Proofs.Mem
set_option linter.unusedVariables false

theorem MsgV.shape {w : World} {B : Nat} {v : Value} {m : MsgL} (h : MsgV w B v m) : ∃ A1 c1 A2 c2, v = .agg #[.int .i64 m.kind, .string m.name, .string m.root, .slice A1 m.keys.length c1, .slice A2 m.objs.length c2, .int .i64 m.err] := by
  obtain ⟨ks, os, rfl, ⟨A1, c1, rfl, _⟩, ⟨A2, c2, rfl, _⟩⟩ := h
  exact ⟨_, _, _, _, rfl⟩
theorem awk_read : readM ⟨#[4, 0]⟩ = some (M4 0) := by
  have hf : fitL (M4 0) = true := by decide
  have h := read_write (M4 0) hf
  rw [write_4 0 hf] at h
  exact h
theorem awk_write : writeL (M4 0) = ⟨#[4, 0]⟩ := by
  rw [write_4 0 (by decide)]
  rfl

set_option maxRecDepth 100000 in
set_option maxHeartbeats 2000000 in
theorem awake_any (w : World) (he : ErrT w) :
    Calls Tryd.prog 9 #[] w fun e w' => e = .returned (.bool true) ∧ Below w.heap.size w w' := by
  have HRD := Lib.hid (mread_any ⟨#[4, 0]⟩ w he (by decide))
  rw [awk_read] at HRD
  have HWR := Lib.hid (fun W => mwrite_any _ (M4 0) W (MsgV.bare 4 0 _ _) (Nat.zero_le _))
  obtain ⟨t, ht⟩ : ∃ t, t = writeL (M4 0) := ⟨_, rfl⟩
  rw [← ht] at HWR
  have e1 : (t.toList == [4, 0]) = true := by
    rw [ht, awk_write]
    exact (str_beq ⟨#[4, 0]⟩ ⟨#[4, 0]⟩).trans (decide_eq_true rfl) |> fun h => by rwa [Lib.toList_data ⟨#[4, 0]⟩] at h ⊢
  clear ht he
  go_enter Tryd.func9, Tryd.ntmps9
  go_wp2_with (first
    | (go_at_call 11; refine Calls.mono HRD.out ?_; rintro e w1 ⟨⟨v, rfl, hv⟩, hb1⟩; obtain ⟨A1, c1, A2, c2, rfl⟩ := hv.shape; unfold M4; dsimp only [List.length_nil]; have HB1 := Lib.hid hb1; clear hv hb1)
    | (go_at_call 10; refine Calls.mono (HWR.out _) ?_; rintro e w2 ⟨rfl, hb2⟩; have HB2 : Hid (Below w.heap.size w w2) := Lib.hid (bel (HB1.out.alloc HB1.out.size _) hb2); have hq : w2.cell? ⟨w1.heap.size, 0, none⟩ = some (.int .i64 4) := (hb2.cell (p := ⟨w1.heap.size, 0, none⟩) (by simp)).trans (by go_simp); clear hb2))
  go_ret
  exact ⟨rfl, HB2.out⟩

set_option maxRecDepth 100000 in
set_option maxHeartbeats 4000000 in
theorem cuts_walk (u : Value) (m : MsgL) (cut : Nat) (more : ByteArray) (w : World) (hm : MsgV w w.heap.size u m) (he : ErrT w) (hn : m.name.size ≤ 1000000000000000000) (hr : m.root.size ≤ 1000000000000000000) (hc : cut < 65536) (hmz : more.size ≤ maxLen) :
    Calls Tryd.prog 3 #[u, .int .u16 cut, .string more] w fun e w' => e = .returned (.bool true) ∧ Below w.heap.size w w' := by
  have HM := Lib.hid hm
  have hnm : m.name.size ≤ maxLen := by unfold maxLen; omega
  have HFEW := Lib.hid (fun W (hb : Below w.heap.size w W) => few_any u m W (hm.on hb) (by omega))
  have HAW := Lib.hid (fun W (hb : Below w.heap.size w W) => awake_any W (he.on hb))
  obtain ⟨A1, c1, A2, c2, hu⟩ := hm.shape
  subst hu
  unfold maxLen at hmz
  cases hf : fitL m with
  | false =>
    have HFI := Lib.hid (fun W (hb : Below w.heap.size w W) => rfit_any _ m W false hf (hm.on hb) hnm)
    clear hm he hn hr hf hc hmz hnm
    go_enter Tryd.func3, Tryd.ntmps3
    go_wp2_with (first
      | (go_at_call 7; refine Calls.mono (HFEW.out _ ?_) ?_; go_grown; rintro e w1 ⟨b1, rfl, hfw, hb1⟩; obtain ⟨hc1, hf1⟩ := bcell hb1; have hz1 : w.heap.size < w1.heap.size := (by have := hb1.size; simp at this; omega); have HB1 : Hid (Below w.heap.size w w1) := Lib.hid (bel (by go_grown) hb1); have HFW := Lib.hid hfw; clear hb1 hfw)
      | (go_at_call 8; refine Calls.mono (HFI.out _ ?_) ?_; exact HB1.out; rintro e w2 ⟨rfl, hb2⟩; obtain ⟨hc2, hf2⟩ := bcell hb2; have hz2 : w.heap.size < w2.heap.size := (by have := hb2.size; omega); have HB2 : Hid (Below w.heap.size w w2) := Lib.hid (bel HB1.out hb2); clear hb2)
      | (go_at_call 9; refine Calls.mono (HAW.out _ ?_) ?_; (first | exact HB5.out | exact HB2.out | exact HB1.out); rintro e wa ⟨rfl, hba⟩; have HBA : Hid (Below w.heap.size w wa) := Lib.hid (bel (by first | exact HB5.out | exact HB2.out | exact HB1.out) hba); clear hba))
    all_goals
      go_ret
      exact ⟨rfl, HBA.out⟩
  | true =>
    have HFI := Lib.hid (fun W (hb : Below w.heap.size w W) => rfit_any _ m W true hf (hm.on hb) hnm)
    by_cases hmo : more.size ≤ 1000
    case neg =>
      have d1 : decide (1000 < (more.size : Int)) = true := decide_eq_true (by omega)
      have d2 : decide (1000 < more.size) = true := decide_eq_true (by omega)
      clear hm he hn hr hf hc hmz hnm hmo
      go_enter Tryd.func3, Tryd.ntmps3
      go_wp2_with (first
        | (go_at_call 7; refine Calls.mono (HFEW.out _ ?_) ?_; go_grown; rintro e w1 ⟨b1, rfl, hfw, hb1⟩; obtain ⟨hc1, hf1⟩ := bcell hb1; have hz1 : w.heap.size < w1.heap.size := (by have := hb1.size; simp at this; omega); have HB1 : Hid (Below w.heap.size w w1) := Lib.hid (bel (by go_grown) hb1); have HFW := Lib.hid hfw; clear hb1 hfw)
        | (go_at_call 8; refine Calls.mono (HFI.out _ ?_) ?_; exact HB1.out; rintro e w2 ⟨rfl, hb2⟩; obtain ⟨hc2, hf2⟩ := bcell hb2; have hz2 : w.heap.size < w2.heap.size := (by have := hb2.size; omega); have HB2 : Hid (Below w.heap.size w w2) := Lib.hid (bel HB1.out hb2); clear hb2)
        | (go_at_call 9; refine Calls.mono (HAW.out _ ?_) ?_; (first | exact HB5.out | exact HB2.out | exact HB1.out); rintro e wa ⟨rfl, hba⟩; have HBA : Hid (Below w.heap.size w wa) := Lib.hid (bel (by first | exact HB5.out | exact HB2.out | exact HB1.out) hba); clear hba))
      all_goals
        go_ret
        exact ⟨rfl, HBA.out⟩
    have d1 : decide (1000 < (more.size : Int)) = false := decide_eq_false (by omega)
    have d2 : decide (1000 < more.size) = false := decide_eq_false (by omega)
    have HWR := Lib.hid (fun W (hb : Below w.heap.size w W) => mwrite_any _ m W (hm.on hb) hnm)
    obtain ⟨t, ht⟩ : ∃ t, t = writeL m := ⟨_, rfl⟩
    have htz : t.size ≤ 170000 := by rw [ht]; exact write_size m
    have ht1 : 1 < t.size := by rw [ht]; exact (write_head m hf).1
    obtain ⟨k, hk⟩ : ∃ k, k = cut % t.size := ⟨_, rfl⟩
    have hkt : k < t.size := by rw [hk]; exact Nat.mod_lt _ (by omega)
    have hki : (cut : Int) % (t.size : Int) = (k : Int) := by rw [hk]; omega
    have HR1 := Lib.hid (fun W (hb : Below w.heap.size w W) => mread_any (t.extract 0 k) W (he.on hb) (by rw [ByteArray.size_extract]; omega))
    rw [show readM (t.extract 0 k) = none by rw [ht]; exact read_cut m hf k (by rw [← ht]; exact hkt)] at HR1
    have HR2 := Lib.hid (fun W (hb : Below w.heap.size w W) => mread_any (t ++ more) W (he.on hb) (by rw [ByteArray.size_append]; omega))
    rw [show readM (t ++ more) = if more.size = 0 then some m else none by rw [ht]; exact read_writex m hf more] at HR2
    rw [← ht] at HWR
    have z1 : t.toList.isEmpty = false := by rw [Bool.eq_false_iff, ne_eq, List.isEmpty_iff, str_nil]; omega
    have a1 : ¬ 9223372036854775807 < t.size + more.size := by omega
    have i0 : (0 : Int) ≤ (k : Int) := by omega
    have i1 : (k : Int) < (t.size : Int) := by omega
    have i2 : (k : Int) ≤ (t.size : Int) := by omega
    have i3 : (0 : Int) < (t.size : Int) := by omega
    have hki2 : ((cut : Int) % (t.size : Int)).toNat = k := by rw [hki]; rfl
    by_cases hm0 : more.size = 0
    · rw [if_pos hm0] at HR2
      have z2 : more.toList.isEmpty = true := by rw [List.isEmpty_iff, str_nil]; exact hm0
      clear hm he hn hr hf hmz hnm hmo ht hk hm0
      go_enter Tryd.func3, Tryd.ntmps3
      go_wp2_with (first
        | (go_at_call 7; refine Calls.mono (HFEW.out _ ?_) ?_; go_grown; rintro e w1 ⟨b1, rfl, hfw, hb1⟩; obtain ⟨hc1, hf1⟩ := bcell hb1; have hz1 : w.heap.size < w1.heap.size := (by have := hb1.size; simp at this; omega); have HB1 : Hid (Below w.heap.size w w1) := Lib.hid (bel (by go_grown) hb1); have HFW := Lib.hid hfw; clear hb1 hfw)
        | (go_at_call 8; refine Calls.mono (HFI.out _ ?_) ?_; exact HB1.out; rintro e w2 ⟨rfl, hb2⟩; obtain ⟨hc2, hf2⟩ := bcell hb2; have hz2 : w.heap.size < w2.heap.size := (by have := hb2.size; omega); have HB2 : Hid (Below w.heap.size w w2) := Lib.hid (bel HB1.out hb2); clear hb2)
        | (go_at_call 9; refine Calls.mono (HAW.out _ ?_) ?_; (first | exact HB5.out | exact HB2.out | exact HB1.out); rintro e wa ⟨rfl, hba⟩; have HBA : Hid (Below w.heap.size w wa) := Lib.hid (bel (by first | exact HB5.out | exact HB2.out | exact HB1.out) hba); clear hba)
        | (go_at_call 10; refine Calls.mono (HWR.out _ ?_) ?_; exact HB2.out; rintro e w3 ⟨rfl, hb3⟩; have HB3 : Hid (Below w.heap.size w w3) := Lib.hid (bel HB2.out hb3); clear hb3)
        | (go_at_call 11; (with_reducible refine Calls.mono (HR1.out _ HB3.out) ?_); rintro e w4 ⟨⟨v, rfl, hv⟩, hb4⟩; obtain ⟨B1, d1', B2, d2', rfl⟩ := hv.shape; have HB4 : Hid (Below w.heap.size w w4) := Lib.hid (bel HB3.out hb4); clear hv hb4)
        | (go_at_call 11; refine Calls.mono (HR2.out _ ?_) ?_; exact HB4.out.alloc HB4.out.size _; rintro e w5 ⟨⟨v, rfl, hv⟩, hb5⟩; obtain ⟨C1, e1', C2, e2', rfl⟩ := hv.shape; have HB5 : Hid (Below w.heap.size w (w5.alloc (.cells #[.int .i64 m.kind, .string m.name, .string m.root, .slice C1 m.keys.length e1', .slice C2 m.objs.length e2', .int .i64 m.err] 26))) := Lib.hid ((bel (HB4.out.alloc HB4.out.size _) hb5).alloc (by have := (bel (HB4.out.alloc HB4.out.size _) hb5).size; exact this) _); clear hv hb5))
      all_goals
        go_ret
        exact ⟨rfl, HBA.out⟩
    · rw [if_neg hm0] at HR2
      have z2 : more.toList.isEmpty = false := by rw [Bool.eq_false_iff, ne_eq, List.isEmpty_iff, str_nil]; omega
      clear hm he hn hr hf hmz hnm hmo ht hk hm0
      go_enter Tryd.func3, Tryd.ntmps3
      go_wp2_with (first
        | (go_at_call 7; refine Calls.mono (HFEW.out _ ?_) ?_; go_grown; rintro e w1 ⟨b1, rfl, hfw, hb1⟩; obtain ⟨hc1, hf1⟩ := bcell hb1; have hz1 : w.heap.size < w1.heap.size := (by have := hb1.size; simp at this; omega); have HB1 : Hid (Below w.heap.size w w1) := Lib.hid (bel (by go_grown) hb1); have HFW := Lib.hid hfw; clear hb1 hfw)
        | (go_at_call 8; refine Calls.mono (HFI.out _ ?_) ?_; exact HB1.out; rintro e w2 ⟨rfl, hb2⟩; obtain ⟨hc2, hf2⟩ := bcell hb2; have hz2 : w.heap.size < w2.heap.size := (by have := hb2.size; omega); have HB2 : Hid (Below w.heap.size w w2) := Lib.hid (bel HB1.out hb2); clear hb2)
        | (go_at_call 9; refine Calls.mono (HAW.out _ ?_) ?_; (first | exact HB5.out | exact HB2.out | exact HB1.out); rintro e wa ⟨rfl, hba⟩; have HBA : Hid (Below w.heap.size w wa) := Lib.hid (bel (by first | exact HB5.out | exact HB2.out | exact HB1.out) hba); clear hba)
        | (go_at_call 10; refine Calls.mono (HWR.out _ ?_) ?_; exact HB2.out; rintro e w3 ⟨rfl, hb3⟩; have HB3 : Hid (Below w.heap.size w w3) := Lib.hid (bel HB2.out hb3); clear hb3)
        | (go_at_call 11; (with_reducible refine Calls.mono (HR1.out _ HB3.out) ?_); rintro e w4 ⟨⟨v, rfl, hv⟩, hb4⟩; obtain ⟨B1, d1', B2, d2', rfl⟩ := hv.shape; have HB4 : Hid (Below w.heap.size w w4) := Lib.hid (bel HB3.out hb4); clear hv hb4)
        | (go_at_call 11; refine Calls.mono (HR2.out _ ?_) ?_; exact HB4.out.alloc HB4.out.size _; rintro e w5 ⟨⟨v, rfl, hv⟩, hb5⟩; obtain ⟨C1, e1', C2, e2', rfl⟩ := hv.shape; have HB5 : Hid (Below w.heap.size w (w5.alloc (.cells #[.int .i64 0, .string ⟨#[]⟩, .string ⟨#[]⟩, .slice C1 0 e1', .slice C2 0 e2', .int .i64 0] 26))) := Lib.hid ((bel (HB4.out.alloc HB4.out.size _) hb5).alloc (by have := (bel (HB4.out.alloc HB4.out.size _) hb5).size; exact this) _); clear hv hb5))
      all_goals
        go_ret
        exact ⟨rfl, HBA.out⟩

end Go.Proofs.YthlajcohbpjgkaaDoor
