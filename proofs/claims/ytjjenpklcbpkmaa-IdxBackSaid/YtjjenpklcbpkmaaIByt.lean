/-
  IdxBytes' walk.
-/
import Derived.Test.YtjjenpklcbpkmaaISm
namespace Go.Proofs.Ytjjenpklcbpkmaa
open Go.RowKit Go.Proofs.Mem
set_option linter.unusedVariables false

theorem rsame_any (u v : Value) (a b : List Slt) (w : World) (ha : Slots w w.heap.size u a) (hb : Slots w w.heap.size v b) :
    Calls Try.prog 12 #[u, v] w fun e w' => e = .returned (.bool (decide (a = b))) ∧ Below w.heap.size w w' := by
  have C := Lib.hid (sames_any u v a b w ha hb)
  obtain ⟨r, hr⟩ : ∃ r, r = decide (a = b) := ⟨_, rfl⟩
  rw [← hr] at C ⊢
  clear hr ha hb
  go_enter Try.func12, Try.ntmps12
  go_wp2_with (go_at_call 36; refine Calls.mono C.out ?_; rintro e w1 ⟨rfl, hB1⟩)
  go_ret
  exact ⟨rfl, hB1⟩

theorem fitP_nil : fitP [] = true := rfl
theorem write_nil_size : (writeB []).size = 1032 := by
  unfold writeB
  rw [if_pos fitP_nil, ByteArray.size_append, crcB_size]
  show (bodyL []).length + 4 = 1032
  unfold bodyL
  rw [List.length_append, List.length_append, fansL_len]
  rfl
theorem code_magic : codeOf magicB = 1 := by
  unfold codeOf
  rw [if_pos (by decide)]

set_option maxRecDepth 100000 in
theorem awake_any (w : World) : Calls Try.prog 7 #[] w fun e w' => e = .returned (.bool true) ∧ Below w.heap.size w w' := by
  have HRD := Lib.hid (fun W => read_any magicB W (by decide))
  rw [code_magic] at HRD
  have HWR := Lib.hid (fun W => write_any (.slice none 0 0) [] W Slots.nil (fun x h => by cases h))
  obtain ⟨r, hr⟩ : ∃ r, r = writeB [] := ⟨_, rfl⟩
  have hrs : r.size = 1032 := by rw [hr, write_nil_size]
  rw [← hr] at HWR
  clear hr
  go_enter Try.func7, Try.ntmps7
  go_wp2_with (first
    | (go_at_call 8; refine Calls.mono (HRD.out _) ?_; rintro e w1 ⟨D, rfl, _, hB1⟩; have HB1 := Lib.hid hB1; clear hB1)
    | (go_at_call 10; refine Calls.mono (HWR.out _) ?_; rintro e w2 ⟨rfl, hB2⟩; have HB2 := Lib.hid (bel HB1.out hB2); clear hB2))
  go_ret
  exact ⟨rfl, HB2.out⟩

set_option maxRecDepth 100000 in
theorem bytes_walk (v : Value) (l : List Slt) (s : ByteArray) (w : World) (h : Slots w w.heap.size v l) (hz : ∀ x ∈ l, x.k.size ≤ 9223372036854775807) (hs : s.size ≤ 9223372036854775807) :
    Calls Try.prog 3 #[v, .string s] w fun e w' => e = .returned (.bool true) ∧ Below w.heap.size w w' := by
  have HFW := Lib.hid (fun W (hs : Slots W W.heap.size v l) => few_any v l W hs hz)
  have HV := Lib.hid h
  have HZ := Lib.hid hz
  have HAW := Lib.hid (fun W => awake_any W)
  have hcd : codeOf s < 4 := by
    unfold codeOf
    split
    · omega
    · split
      · omega
      · split
        · omega
        · split <;> omega
  cases hf : (decide (l.length ≤ 40) && l.all smallS) with
  | false =>
    rw [hf] at HFW
    clear hf h hz
    go_enter Try.func3, Try.ntmps3
    go_wp2_with (first
      | (go_at_call 6; refine Calls.mono (HFW.out _ HV.out) ?_; rintro e w1 ⟨rfl, hB1⟩; have HB1 := Lib.hid hB1; clear hB1)
      | (go_at_call 7; refine Calls.mono (HAW.out _) ?_; rintro e w2 ⟨rfl, hB2⟩; have HB2 := Lib.hid (bel HB1.out hB2); clear hB2))
    go_ret
    exact ⟨rfl, HB2.out⟩
  | true =>
    rw [hf] at HFW
    by_cases h4 : s.size ≤ 4000
    case neg =>
      have h4' : ((4000 : Int) < (s.size : Int)) := by omega
      clear hf h hz h4
      go_enter Try.func3, Try.ntmps3
      go_wp2_with (first
        | (go_at_call 6; refine Calls.mono (HFW.out _ HV.out) ?_; rintro e w1 ⟨rfl, hB1⟩; have HB1 := Lib.hid hB1; clear hB1)
        | (go_at_call 7; refine Calls.mono (HAW.out _) ?_; rintro e w2 ⟨rfl, hB2⟩; have HB2 := Lib.hid (bel HB1.out hB2); clear hB2))
      go_ret
      exact ⟨rfl, HB2.out⟩
    have h4' : ((4000 : Int) < (s.size : Int)) = False := by simp; omega
    have HRD := Lib.hid (fun W => read_any s W (by omega))
    have HRR := Lib.hid (fun W => rread_any s W (by omega))
    have HWR := Lib.hid (fun W (hs : Slots W W.heap.size v l) => write_any v l W hs HZ.out)
    have HRW := Lib.hid (fun W (hs : Slots W W.heap.size v l) => rwrite_any v l W hs HZ.out)
    obtain ⟨r, hr⟩ : ∃ r, r = writeB l := ⟨_, rfl⟩
    rw [← hr] at HWR HRW
    obtain ⟨c, hc⟩ : ∃ c, c = codeOf s := ⟨_, rfl⟩
    rw [← hc] at HRD HRR hcd
    clear hf h hz h4 hr hc
    go_enter Try.func3, Try.ntmps3
    go_wp2_with (first
      | (go_at_call 6
         refine Calls.mono (HFW.out _ HV.out) ?_
         rintro e w1 ⟨rfl, hB1⟩
         have HB1 := Lib.hid hB1
         have HV1 := Lib.hid (HV.out.on hB1)
         clear hB1)
      | (go_at_call 8
         refine Calls.mono (HRD.out _) ?_
         rintro e w2 ⟨D1, rfl, hD1, hB2⟩
         have HB2 := Lib.hid (bel HB1.out hB2)
         have HD1 := Lib.hid hD1
         have HV2 := Lib.hid (HV1.out.on hB2)
         clear hB2 hD1)
      | (go_at_call 9
         refine Calls.mono (HRR.out _) ?_
         rintro e w3 ⟨D2, rfl, hD2, hB3⟩
         have HB3 := Lib.hid (bel HB2.out hB3)
         have HD2 := Lib.hid hD2
         have HD13 := Lib.hid (HD1.out.on hB3)
         have HV3 := Lib.hid (HV2.out.on hB3)
         clear hB3 hD2)
      | (go_at_call 10
         refine Calls.mono (HWR.out _ HV3.out) ?_
         rintro e w4 ⟨rfl, hB4⟩
         have HB4 := Lib.hid (bel HB3.out hB4)
         have HD14 := Lib.hid (HD13.out.on hB4)
         have HD24 := Lib.hid (HD2.out.on hB4)
         have HV4 := Lib.hid (HV3.out.on hB4)
         clear hB4)
      | (go_at_call 11
         refine Calls.mono (HRW.out _ HV4.out) ?_
         rintro e w5 ⟨rfl, hB5⟩
         have HB5 := Lib.hid (bel HB4.out hB5)
         have HD15 := Lib.hid (HD14.out.on hB5)
         have HD25 := Lib.hid (HD24.out.on hB5)
         clear hB5)
      | (go_at_call 12
         refine Calls.mono (rsame_any _ _ _ _ _ HD15.out HD25.out) ?_
         rw [decide_eq_true rfl]
         rintro e w6 ⟨rfl, hB6⟩
         have HB6 := Lib.hid (bel HB5.out hB6)
         clear hB6)
      | (go_at_call 7
         refine Calls.mono (HAW.out _) ?_
         rintro e w7 ⟨rfl, hB7⟩
         have HB7 := Lib.hid (bel HB6.out hB7)
         clear hB7))
    go_ret
    exact ⟨rfl, HB7.out⟩

end Go.Proofs.Ytjjenpklcbpkmaa
