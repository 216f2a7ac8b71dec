/-
  An index's bytes read: the document's package.
-/
import Derived.Test.YtjjenpklcbpkmaaIRd
namespace Go.Proofs.Ytjjenpklcbpkmaa
open Go.RowKit Go.Proofs.Mem
set_option linter.unusedVariables false

theorem own_drewN {w : World} {B : Nat} {v : Value} {l : List Slt} (h : OwnS w B v l) (n : Nat) : OwnS (w.drewN n) B v l := by
  unfold OwnS World.ownsRow at *
  rw [World.heap_drewN]
  exact h
theorem own_k {w : World} {B k : Nat} {v : Value} {s : ByteArray} (h : OwnS w B v (slotsN s k)) (n : Nat) : (w.drewN n).ownsRow B 34 3 v k (cellsL (slotsN s k)) := by
  have h' := own_drewN h n
  unfold OwnS at h'
  rw [slotsN_len] at h'
  exact h'
theorem extract_extract {s : ByteArray} {i a b c : Nat} (h : b ≤ c) : (s.extract i (i + c)).extract a b = s.extract (i + a) (i + b) := by
  apply ByteArray.ext
  rw [ByteArray.data_extract, ByteArray.data_extract, ByteArray.data_extract, Array.extract_extract, Nat.min_eq_left (by omega)]
theorem byte_extract {s : ByteArray} {i c j : Nat} (hj : j < c) : byteAt (s.extract i (i + c)) j = byteAt s (i + j) := by
  unfold byteAt
  have h1 : (s.extract i (i + c)).data.toList = (s.data.toList.drop i).take c := by
    rw [ByteArray.data_extract, Array.toList_extract, List.extract_eq_take_drop]
    congr 1
    omega
  rw [h1, List.getD_eq_getElem?_getD, List.getD_eq_getElem?_getD, List.getElem?_take, if_pos hj, List.getElem?_drop]
theorem num_extract {s : ByteArray} {i a b c : Nat} (h : b ≤ c) (hab : a + 4 ≤ b) : numAt ((s.extract i (i + c)).extract a b) 0 = numAt s (i + a) := by
  rw [extract_extract h]
  obtain ⟨d, rfl⟩ : ∃ d, b = a + d := ⟨b - a, by omega⟩
  unfold numAt
  rw [← Nat.add_assoc, byte_extract (by omega), byte_extract (by omega), byte_extract (by omega), byte_extract (by omega)]
  rfl

set_option maxRecDepth 100000 in
set_option maxHeartbeats 1000000 in
theorem rread_any (s : ByteArray) (w : World) (hs : s.size ≤ 1000000) :
    Calls Try.prog 9 #[.string s] w fun e w' => ∃ D, e = .returned (.tuple #[D, .int .i64 (codeOf s : Nat)]) ∧ Slots w' w'.heap.size D (readL s) ∧ Below w.heap.size w w' := by
  by_cases h0 : s.size < 1032
  · have hc : codeOf s = 1 := by unfold codeOf; rw [if_pos h0]
    have HRL : Hid (readL s = []) := Lib.hid (by unfold readL; rw [hc]; rfl)
    rw [hc]
    have h1 : (s.size : Int) < 1032 := by omega
    go_enter Try.func9, Try.ntmps9
    go_wp2_with fail
    go_ret2
    exact ⟨_, rfl, by rw [HRL.out]; exact Slots.nil, Below.refl _ _⟩
  have h1 : (1032 : Int) ≤ (s.size : Int) := by omega
  have hn : 1032 ≤ s.size := by omega
  obtain ⟨c, hc⟩ : ∃ c, c = codeOf s := ⟨_, rfl⟩
  have HRL : Hid (c ≠ 0 → readL s = []) := Lib.hid (fun h => by unfold readL; rw [if_neg (fun e => h (hc.trans e))])
  have HRK : Hid (c = 0 → readL s = slotsOf s) := Lib.hid (fun h => by unfold readL; rw [if_pos (hc.symm.trans h)])
  rw [← hc]
  unfold codeOf at hc
  rw [if_neg h0] at hc
  have HC := Lib.hid hc
  clear h0 hc
  have hmt : (⟨#[83, 73, 88, 49]⟩ : ByteArray).toList = [83, 73, 88, 49] := by rw [Lib.toList_data]
  by_cases hm : s.extract 0 4 = magicB
  case neg =>
    have q0 : ((s.extract 0 4).toList == (⟨#[83, 73, 88, 49]⟩ : ByteArray).toList) = false := by rw [beq_list]; exact decide_eq_false hm
    rw [hmt] at q0
    rw [if_pos (.inl hm)] at HC
    clear hm hmt
    go_enter Try.func9, Try.ntmps9
    go_wp2_with fail
    go_ret2
    exact ⟨_, by rw [HC.out]; rfl, by rw [HRL.out (by rw [HC.out]; decide)]; exact Slots.nil, Below.refl _ _⟩
  have q0 : ((s.extract 0 4).toList == (⟨#[83, 73, 88, 49]⟩ : ByteArray).toList) = true := by rw [beq_list]; exact decide_eq_true hm
  rw [hmt] at q0
  by_cases hr : (s.size - 1032) % 40 = 0
  case neg =>
    have q1 : (((s.size : Int) - 4 - 1028) % 40 != 0) = true := by simp; omega
    rw [if_pos (.inr hr)] at HC
    clear hm hr hmt
    go_enter Try.func9, Try.ntmps9
    go_wp2_with fail
    go_ret2
    exact ⟨_, by rw [HC.out]; rfl, by rw [HRL.out (by rw [HC.out]; decide)]; exact Slots.nil, Below.refl _ _⟩
  obtain ⟨m, hmm⟩ : ∃ m, m = s.size - 4 := ⟨_, rfl⟩
  have hsm : (s.size : Int) - 4 = (m : Int) := by omega
  have hms : m ≤ s.size := by omega
  have q1 : (((m : Int) - 1028) % 40 != 0) = false := by simp; omega
  rw [if_neg (by rintro (h | h); exact h hm; exact h hr)] at HC
  clear hm hr hmt
  rw [← hmm] at HC
  clear hmm
  obtain ⟨cc, hcc⟩ : ∃ cc, cc = crcN (s.extract 0 m) := ⟨_, rfl⟩
  have hccl : cc < 4294967296 := by rw [hcc]; exact crcN_lt _
  have HSM := Lib.hid (fun W => rsum_any (s.extract 0 m) W (by rw [ByteArray.size_extract]; omega))
  rw [← hcc] at HSM HC
  have HBY := Lib.hid (fun W => rbytes_any cc W hccl)
  obtain ⟨cb, hcb⟩ : ∃ cb, cb = crcB cc := ⟨_, rfl⟩
  rw [← hcb] at HBY HC
  clear hcc hcb hccl
  have HW0 : Hid (Below w.heap.size w w.drew) := Lib.hid (Below.refl _ _).drew
  by_cases hs3 : cb = s.extract m s.size
  case neg =>
    have q2 : (cb.toList == (s.extract m s.size).toList) = false := by rw [beq_list, decide_eq_false hs3]
    rw [if_pos hs3] at HC
    clear hs3
    go_enter Try.func9, Try.ntmps9
    go_wp2_with fail
    go_region_held3 (fun W => Hid (Below w.heap.size w W))
      (first
        | exact HW0
        | assumption
        | (apply Lib.hid; refine bel ?_ (by assumption); apply Hid.out; assumption))
      (first
        | (go_at_call 26; refine Calls.mono (HSM.out _) ?_; rintro e wx ⟨rfl, hBx⟩)
        | (go_at_call 25; refine Calls.mono (HBY.out _) ?_; rintro e wx ⟨rfl, hBx⟩))
    go_wp2_with fail
    go_ret2
    exact ⟨_, by rw [HC.out]; rfl, by rw [HRL.out (by rw [HC.out]; decide)]; exact Slots.nil, Hid.out (by assumption)⟩
  have q2 : (cb.toList == (s.extract m s.size).toList) = true := by rw [beq_list, decide_eq_true hs3]
  rw [if_neg (fun h => h hs3)] at HC
  clear hs3
  go_enter Try.func9, Try.ntmps9
  go_wp2_with fail
  go_region_held3 (fun W => Hid (Below w.heap.size w W))
    (first
      | exact HW0
      | assumption
      | (apply Lib.hid; refine bel ?_ (by assumption); apply Hid.out; assumption))
    (first
      | (go_at_call 26; refine Calls.mono (HSM.out _) ?_; rintro e wx ⟨rfl, hBx⟩)
      | (go_at_call 25; refine Calls.mono (HBY.out _) ?_; rintro e wx ⟨rfl, hBx⟩))
  have hq1 : ((m : Int) - 1028) % 40 = 0 := by simpa using q1
  obtain ⟨n, hn'⟩ : ∃ n, n = countV s := ⟨_, rfl⟩
  have hmn : m = 1028 + 40 * n := by rw [hn']; unfold countV; omega
  have HN := Lib.hid hn'
  have HHELD : Hid (Below w.heap.size w wx) := by assumption
  have hns : n ≤ 25000 := by omega
  have HSS := Lib.hid hs
  have HMN := Lib.hid hmn
  obtain ⟨i0, hi, hz0, hz1, hz2⟩ := info_parts info_slot
  have HO0 : Hid (OwnS wx w.heap.size (.slice none 0 0) (slotsN s 0)) := Lib.hid (World.ownsRow_nil _ _ _ _)
  clear hq1 hn' hmn
  go_wp2_with fail
  go_loopw [5, 6, 7] (fun D q _ wr => ∃ k : Nat, q = .int .i64 (1028 + 40 * (k : Int)) ∧ k ≤ n ∧ Hid (OwnS wr w.heap.size D (slotsN s k)) ∧ Hid (Below w.heap.size w wr)) (fun _ q _ _ => 1029 + 40 * n - (intOf q).toNat)
  case atStart => exact ⟨0, rfl, Nat.zero_le _, HO0, HHELD⟩
  case round =>
    obtain ⟨k, rfl, hk, hO, hB⟩ := hrel
    by_cases hlt : k < n
    · have k1 : 1028 + 40 * (k : Int) < (m : Int) := by have := HMN.out; omega
      have k2 : 1028 + 40 * (k : Int) + 40 ≤ (s.size : Int) := by have := HMN.out; omega
      have k0 : (0 : Int) ≤ 1028 + 40 * (k : Int) := by omega
      have hks : k + 1 ≤ 25001 := by omega
      obtain ⟨x, hx⟩ : ∃ x, x = s.extract (1028 + 40 * k) (1028 + 40 * k + 40) := ⟨_, rfl⟩
      have hxs : x.size = 40 := by rw [hx, ByteArray.size_extract]; omega
      have hxe : s.extract (1028 + 40 * k) (1028 + 40 * k + 40) = x := hx.symm
      obtain ⟨n1, hn1⟩ : ∃ n1, n1 = numAt s (1028 + k * 40 + 32) := ⟨_, rfl⟩
      obtain ⟨n2, hn2⟩ : ∃ n2, n2 = numAt s (1028 + k * 40 + 36) := ⟨_, rfl⟩
      have HN1 : Hid (∀ W, Calls Try.prog 27 #[.string (x.extract 32 40)] W fun e w' => e = .returned (.int .i64 (n1 : Nat)) ∧ ∃ m, w' = W.drewN m) := Lib.hid (fun W => by
        have h := rnumber_any (x.extract 32 40) W (by rw [ByteArray.size_extract]; omega) (by rw [ByteArray.size_extract]; omega)
        rw [hx, num_extract (by omega) (by omega), show 1028 + 40 * k + 32 = 1028 + k * 40 + 32 by omega, ← hn1] at h
        rw [hx]
        exact h)
      have HN2 : Hid (∀ W, Calls Try.prog 27 #[.string (x.extract 36 40)] W fun e w' => e = .returned (.int .i64 (n2 : Nat)) ∧ ∃ m, w' = W.drewN m) := Lib.hid (fun W => by
        have h := rnumber_any (x.extract 36 40) W (by rw [ByteArray.size_extract]; omega) (by rw [ByteArray.size_extract]; omega)
        rw [hx, num_extract (by omega) (by omega), show 1028 + 40 * k + 36 = 1028 + k * 40 + 36 by omega, ← hn2] at h
        rw [hx]
        exact h)
      have HSL : Hid (slotAt s (1028 + k * 40) = ⟨x.extract 0 32, n1, n2⟩) := Lib.hid (by
        unfold slotAt
        rw [hn1, hn2, hx, extract_extract (by omega), show 1028 + 40 * k = 1028 + k * 40 by omega]
        simp only [Nat.add_zero])
      clear hx hn1 hn2
      have HB0 : Hid (Below w.heap.size w wr.drew) := Lib.hid hB.out.drew
      go_wp2_with fail
      go_region_held3 (fun W => Hid (Below w.heap.size w W))
        (first
          | exact HB0
          | assumption
          | (apply Lib.hid; exact below_drewN (Hid.out ‹Hid (Below w.heap.size w _)›) _)
          | (apply Lib.hid; exact (Hid.out ‹Hid (Below w.heap.size w _)›).alloc (Hid.out ‹Hid (Below w.heap.size w _)›).size _))
        (first
          | (go_at_call 27; have hq := HM1.out; refine Calls.mono (HN2.out _) ?_; rintro e w2 ⟨rfl, m2, rfl⟩)
          | (go_at_call 27; refine Calls.mono (HN1.out _) ?_; rintro e w2 ⟨rfl, m1, rfl⟩; have HM1 : Hid (m1 = m1) := Lib.hid rfl)
          | (refine step_append_lies _ (by rfl) _ _ _ (by rfl) w.heap.size 34 i0 (.agg #[.string ⟨#[]⟩, .int .i64 0, .int .i64 0]) 3 32 Try.underlying22 hi hz0 hz1 hz2 rfl (by decide) u5 k (cellsL (slotsN s k)) (by rfl) (World.ownsRow.alloc (own_k hO.out _) _) ⟨wr.heap.size, 0, none⟩ 1 1 [.string (x.extract 0 32), .int .i64 (n1 : Nat), .int .i64 (n2 : Nat)] (by rfl) (by rfl) (fun j u hj => alloc_cells _ _ _ hj) (cells_one ⟨x.extract 0 32, n1, n2⟩) (by decide) (by unfold maxLen; omega) (by omega) (by have := hB.out.size; simp; omega) (wr.heap.size + 1) (by simp) ?_; intro g cap w3 hown hgrow hat hglt; have HG : Hid (Below w.heap.size w w3) := Lib.hid (((below_drewN hB.out _).alloc hB.out.size _).grown hgrow (by have := hB.out.size; simp; omega) (fun q hq => (hO.out.lt q hq).1))))
      have HOW : Hid (OwnS w3 w.heap.size (.slice (some ⟨g, 0, none⟩) (k + 1) cap) (slotsN s (k + 1))) := Lib.hid (by
        unfold OwnS
        rw [slotsN_succ, cellsL_snoc, HSL.out, List.length_append, slotsN_len]
        exact hown)
      go_wp2_with fail
      go_roundw
      case rel => exact ⟨k + 1, by go_num, by omega, HOW, HG⟩
      case measure => simp [intOf]; omega
    · have k1 : (1028 + 40 * (k : Int) < (m : Int)) = False := by have := HMN.out; simp; omega
      have HO9 : Hid (Slots wr wr.heap.size u5 (slotsOf s)) := Lib.hid (by
        have h := hO.out
        rw [show k = countV s by rw [← HN.out]; omega] at h
        exact slots_of_own h)
      obtain ⟨r, hr⟩ : ∃ r, r = writeB (slotsOf s) := ⟨_, rfl⟩
      rw [← hr] at HC
      have HWR := Lib.hid (fun W D (hD : Slots W W.heap.size D (slotsOf s)) => rwrite_any D (slotsOf s) W hD (slots_sized s (by have := HSS.out; omega)))
      rw [← hr] at HWR
      by_cases hw : r = s
      case neg =>
        have q3 : (r.toList == s.toList) = false := by rw [beq_list, decide_eq_false hw]
        rw [if_pos hw] at HC
        clear hw hr
        go_wp2_with (go_at_call 11; refine Calls.mono (HWR.out _ _ HO9.out) ?_; rintro e wz ⟨rfl, hBz⟩; have HBZ := Lib.hid (bel hB.out hBz); clear hBz)
        go_ret2
        exact ⟨_, by rw [HC.out]; rfl, by rw [HRL.out (by rw [HC.out]; decide)]; exact Slots.nil, HBZ.out⟩
      have q3 : (r.toList == s.toList) = true := by rw [beq_list, decide_eq_true hw]
      rw [if_neg (fun h => h hw)] at HC
      clear hw hr
      go_wp2_with (go_at_call 11; refine Calls.mono (HWR.out _ _ HO9.out) ?_; rintro e wz ⟨rfl, hBz⟩; have HSZ9 := Lib.hid (HO9.out.on hBz); have HBZ := Lib.hid (bel hB.out hBz); clear hBz)
      go_ret2
      exact ⟨u5, by rw [HC.out]; rfl, by rw [HRK.out HC.out]; exact HSZ9.out, HBZ.out⟩

end Go.Proofs.Ytjjenpklcbpkmaa
