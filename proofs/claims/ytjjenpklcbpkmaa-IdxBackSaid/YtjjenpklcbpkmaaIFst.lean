/-
  The place of the first key that is not below some bytes.
-/
import Derived.Test.YtjjenpklcbpkmaaIOrd
import Derived.Scope
namespace Go.Proofs.Ytjjenpklcbpkmaa
open Go.RowKit Go.Proofs.Mem
set_option linter.unusedVariables false

theorem word_at {s : ByteArray} {i m : Nat} (hm : m < 4294967296) (h : ∀ j, j < 4 → s.data.toList[i + j]? = (wordL m)[j]?) : numAt s i = m := by
  have one : ∀ j b, j < 4 → (wordL m)[j]? = some b → byteAt s (i + j) = b.toNat := by
    intro j b hj hb
    unfold byteAt
    rw [List.getD_eq_getElem?_getD, h j hj, hb]
    rfl
  have h0 := one 0 _ (by decide) rfl
  have h1 := one 1 _ (by decide) rfl
  have h2 := one 2 _ (by decide) rfl
  have h3 := one 3 _ (by decide) rfl
  rw [Nat.add_zero] at h0
  unfold numAt
  rw [h0, h1, h2, h3, UInt8.toNat_ofNat', UInt8.toNat_ofNat', UInt8.toNat_ofNat', UInt8.toNat_ofNat']
  omega
theorem fansL_at (l : List Slt) {n b j : Nat} (hb : b < n) (hj : j < 4) : (fansL l n)[4 * b + j]? = (wordL (fanN l b))[j]? := by
  induction n with
  | zero => omega
  | succ n ih =>
    rw [fansL_succ]
    by_cases h : b < n
    · rw [List.getElem?_append_left (by rw [fansL_len]; omega)]
      exact ih h
    · obtain rfl : b = n := by omega
      rw [List.getElem?_append_right (by rw [fansL_len]; omega), fansL_len]
      congr 1
      omega
theorem writeB_toList {l : List Slt} (h : fitP l = true) : (writeB l).data.toList = magicL ++ (fansL l 256 ++ (entsL l ++ (crcL (crcN (bodyB l))))) := by
  unfold writeB
  rw [h, if_pos rfl, ByteArray.data_append, Array.toList_append]
  show bodyL l ++ crcL (crcN (bodyB l)) = _
  unfold bodyL
  rw [List.append_assoc, List.append_assoc]
theorem fan_num {l : List Slt} (h : fitP l = true) {b : Nat} (hb : b < 256) : numAt (writeB l) (4 + b * 4) = fanN l b := by
  have hle := fanN_le l b
  have hl := fit_len h
  refine word_at (by omega) fun j hj => ?_
  rw [writeB_toList h, List.getElem?_append_right (by show 4 ≤ _; omega), List.getElem?_append_left (by rw [fansL_len]; show _ - 4 < _; omega)]
  show (fansL l 256)[4 + b * 4 + j - 4]? = _
  rw [show 4 + b * 4 + j - 4 = 4 * b + j by omega]
  exact fansL_at l hb hj

def fanLow (l : List Slt) (b : Nat) : Nat := if b = 0 then 0 else fanN l (b - 1)
theorem low_le {l : List Slt} (h32 : ∀ x ∈ l, x.k.size = 32) {k : ByteArray} (hk : 0 < k.size) : fanLow l (byteAt k 0) ≤ firstN l k := by
  unfold fanLow
  split
  · exact Nat.zero_le _
  · refine List.countP_mono_left fun x hx hp => ?_
    simp only [decide_eq_true_eq] at hp
    have := h32 x hx
    exact ltB_of_head (by omega) hk (by omega)
theorem first_le {l : List Slt} (h32 : ∀ x ∈ l, x.k.size = 32) {k : ByteArray} (hk : 0 < k.size) : firstN l k ≤ fanN l (byteAt k 0) := by
  refine List.countP_mono_left fun x hx hp => ?_
  have := h32 x hx
  simp only [decide_eq_true_eq]
  exact ltB_head (by omega) hk hp
theorem first_empty (l : List Slt) {k : ByteArray} (hk : k.size = 0) : firstN l k = 0 := by
  unfold firstN
  rw [List.countP_eq_zero]
  intro x _ h
  unfold ltB at h
  have : k.toList = [] := by
    rw [Lib.toList_data]
    exact List.eq_nil_of_length_eq_zero (by rw [Array.length_toList]; exact hk)
  rw [this] at h
  cases hx : x.k.toList <;> rw [hx] at h <;> simp [Op.bytesLess] at h

set_option maxHeartbeats 1000000 in
theorem bounds_any (s : ByteArray) (b : Nat) (w : World) (hs : s.size ≤ 1000000) (hc : codeOf s = 0) (hb : b < 256) :
    Calls Try.prog 52 #[.string s, .int .u8 b] w fun e w' => e = .returned (.tuple #[.int .i64 (fanLow (slotsOf s) b : Nat), .int .i64 (fanN (slotsOf s) b : Nat)]) ∧ Below w.heap.size w w' := by
  obtain ⟨hf, hw⟩ := code_zero hc
  have hge := code_ge hc
  have HN := Lib.hid (fun W => number_any s (4 + b * 4) W (by omega) (by omega))
  have hnum : numAt s (4 + b * 4) = fanN (slotsOf s) b := by
    have := fan_num hf hb
    rw [hw] at this
    exact this
  rw [hnum] at HN
  rw [show ((4 + b * 4 : Nat) : Int) = 4 + (b : Int) * 4 by omega] at HN
  have hbi : (b : Int) < 256 := by omega
  rcases Nat.eq_zero_or_pos b with rfl | h0
  · have HL : Hid (fanLow (slotsOf s) 0 = 0) := Lib.hid rfl
    rw [HL.out]
    obtain ⟨f, hff⟩ : ∃ f, f = fanN (slotsOf s) 0 := ⟨_, rfl⟩
    rw [← hff] at HN ⊢
    rw [show (4 : Int) + ((0 : Nat) : Int) * 4 = 4 from rfl] at HN
    clear hff hf hw hge hc hnum HL
    go_enter Try.func52, Try.ntmps52
    go_wp2_with (go_at_call 53; refine Calls.mono (HN.out _) ?_; rintro e w1 ⟨rfl, hB1⟩; have HB1 := Lib.hid hB1; clear hB1)
    go_ret2
    exact ⟨rfl, HB1.out⟩
  · have HN2 := Lib.hid (fun W => number_any s (4 + (b - 1) * 4) W (by omega) (by omega))
    have hnum2 : numAt s (4 + (b - 1) * 4) = fanN (slotsOf s) (b - 1) := by
      have := fan_num hf (b := b - 1) (by omega)
      rw [hw] at this
      exact this
    rw [hnum2] at HN2
    rw [show ((4 + (b - 1) * 4 : Nat) : Int) = (4 + (b : Int) * 4) - 4 by omega] at HN2
    have HL : Hid (fanLow (slotsOf s) b = fanN (slotsOf s) (b - 1)) := Lib.hid (by unfold fanLow; rw [if_neg (by omega)])
    rw [HL.out]
    obtain ⟨f, hff⟩ : ∃ f, f = fanN (slotsOf s) b := ⟨_, rfl⟩
    obtain ⟨g, hgg⟩ : ∃ f, f = fanN (slotsOf s) (b - 1) := ⟨_, rfl⟩
    rw [← hff] at HN ⊢
    rw [← hgg] at HN2 ⊢
    have hb0 : (0 : Int) < (b : Int) := by omega
    clear hff hgg hf hw hge hc hnum hnum2 HL
    go_enter Try.func52, Try.ntmps52
    go_wp2_with (first
      | (go_at_call 53; have hq := HB1.out; refine Calls.mono (HN.out _) ?_; rintro e w2 ⟨rfl, hB2⟩; have HB2 := Lib.hid (bel HB1.out hB2); clear hB2 hq)
      | (go_at_call 53; refine Calls.mono (HN2.out _) ?_; rintro e w1 ⟨rfl, hB1⟩; have HB1 := Lib.hid hB1; clear hB1))
    go_ret2
    exact ⟨rfl, HB2.out⟩

theorem slots_get {s : ByteArray} {n i : Nat} (h : i < n) : (slotsN s n)[i]? = some (slotAt s (1028 + i * 40)) := by
  unfold slotsN
  rw [List.getElem?_map, List.getElem?_range h]
  rfl

set_option maxRecDepth 100000 in
set_option maxHeartbeats 1000000 in
theorem first_any (s k : ByteArray) (w : World) (hs : s.size ≤ 1000000) (hk : k.size ≤ 1000000) (hc : codeOf s = 0) :
    Calls Try.prog 37 #[.string s, .string k] w fun e w' => e = .returned (.int .i64 (firstN (slotsOf s) k : Nat)) ∧ Below w.heap.size w w' := by
  obtain ⟨hf, hw⟩ := code_zero hc
  have hge := code_ge hc
  obtain ⟨F, hF⟩ : ∃ F, F = firstN (slotsOf s) k := ⟨_, rfl⟩
  rw [← hF]
  rcases Nat.eq_zero_or_pos k.size with h0 | h0
  · have h1 : F = 0 := by rw [hF, first_empty _ h0]
    subst h1
    have hq : (k.toList == ByteArray.empty.toList) = true := by
      rw [beq_list, decide_eq_true_eq]
      exact ByteArray.size_eq_zero_iff.1 h0
    have hke : k = ⟨#[]⟩ := ByteArray.size_eq_zero_iff.1 h0
    subst hke
    clear hq hF hf hw hge hc hs
    go_enter Try.func37, Try.ntmps37
    go_wp2_with fail
    apply wp_scope_straight
    go_wp2_with fail
    simp only [Exit.noGoto]
    go_ret
    exact ⟨rfl, Below.refl _ _⟩
  have h32 : ∀ x ∈ slotsOf s, x.k.size = 32 := fun x hx => (fit_at hf hx).1
  have hlo := low_le h32 h0
  have hhi := first_le h32 h0
  rw [← hF] at hlo hhi
  have hlen : (slotsOf s).length = countV s := slotsN_len _ _
  have hfn := fanN_le (slotsOf s) (byteAt k 0)
  rw [hlen] at hfn
  have hcn : countV s ≤ 100000 := by unfold countV; omega
  obtain ⟨y, hy⟩ : ∃ y, y = byteAt k 0 := ⟨_, rfl⟩
  have hyl : y < 256 := by rw [hy]; exact byteAt_lt _ _
  have HBD := Lib.hid (fun W => bounds_any s y W hs hc hyl)
  rw [← hy] at hlo hhi hfn
  have hyk : (k[0]).toNat = y := by rw [hy, byteAt_eq h0]
  obtain ⟨lo, hlo'⟩ : ∃ lo, lo = fanLow (slotsOf s) y := ⟨_, rfl⟩
  obtain ⟨hi, hhi'⟩ : ∃ hi, hi = fanN (slotsOf s) y := ⟨_, rfl⟩
  rw [← hlo', ← hhi'] at HBD
  rw [← hlo'] at hlo
  rw [← hhi'] at hhi hfn
  have hlow : lo ≤ F := hlo
  have hhiw : F ≤ hi := hhi
  have hhin : hi ≤ 100000 := by omega
  have HKEY : Hid (∀ i, i < hi → Op.bytesLess (s.extract (1028 + i * 40) (1028 + i * 40 + 32)).toList k.toList = decide (i < F)) := Lib.hid (fun i hi' => by
    have hic : i < countV s := by omega
    have h := first_iff (fit_rises hf) k (slots_get (s := s) hic)
    rw [← hF] at h
    have h2 : Op.bytesLess (s.extract (1028 + i * 40) (1028 + i * 40 + 32)).toList k.toList = ltB (slotAt s (1028 + i * 40)).k k := rfl
    rw [h2, Bool.eq_iff_iff, decide_eq_true_eq]
    exact h.symm)
  have HVK := Lib.hid (fun i (hi' : i < hi) W => vkey_any s i W (by have := count_at (s := s) (i := i) hge (by omega); omega) hs)
  have hkne : (k.toList == []) = false := by
    rw [beq_eq_false_iff_ne]
    intro e
    rw [Lib.toList_data] at e
    have := congrArg List.length e
    rw [Array.length_toList] at this
    have h3 : k.size = 0 := this
    omega
  have hkne2 : k.toList.isEmpty = false := by
    rw [← List.beq_nil_eq]
    exact hkne
  have hkne3 : (k.toList == (⟨#[]⟩ : ByteArray).toList) = false := by
    rw [show (⟨#[]⟩ : ByteArray).toList = [] by rw [Lib.toList_data]]
    exact hkne
  clear hF hf hw hge hc h32 hlo hhi hlen hfn hcn hy hlo' hhi'
  go_enter Try.func37, Try.ntmps37
  go_wp2_with fail
  apply wp_scope_straight
  go_wp2_with (go_at_call 52; refine Calls.mono (HBD.out _) ?_; rintro e w1 ⟨rfl, hB1⟩; have HB1 := Lib.hid hB1; clear hB1)
  apply wp_label
  go_wp2_with fail
  go_loopw [5, 6, 7] (fun a b _ wr => ∃ f t : Nat, a = .int .i64 f ∧ b = .int .i64 t ∧ f ≤ F ∧ F ≤ t ∧ t ≤ hi ∧ Hid (Below w.heap.size w wr)) (fun a b _ _ => (intOf b).toNat - (intOf a).toNat)
  case atStart => exact ⟨lo, hi, rfl, rfl, hlow, hhiw, Nat.le_refl _, HB1⟩
  case round =>
    obtain ⟨f, t, rfl, rfl, hfF, hFt, hth, hB⟩ := hrel
    by_cases hlt : f < t
    · obtain ⟨m, hm⟩ : ∃ m, m = (f + t) / 2 := ⟨_, rfl⟩
      have hmi : ((f : Int) + (t : Int)) / 2 = (m : Int) := by omega
      have hm1 : f ≤ m := by omega
      have hm2 : m < t := by omega
      have hmh : m < hi := by omega
      have q0 : ((t : Int) ≤ (f : Int)) = False := by simp; omega
      have HK := Lib.hid (fun W => HVK.out m hmh W)
      have HQ := HKEY.out m hmh
      generalize s.extract (1028 + m * 40) (1028 + m * 40 + 32) = key at *
      clear hm
      by_cases hmF : m < F
      · rw [decide_eq_true hmF] at HQ
        go_wp2_with (go_at_call 39; refine Calls.mono (HK.out _) ?_; rintro e w2 ⟨rfl, rfl⟩)
        go_roundw
        case rel => exact ⟨m + 1, t, by go_num, rfl, by omega, hFt, hth, hB⟩
        case measure => simp [intOf]; omega
      · rw [decide_eq_false hmF] at HQ
        go_wp2_with (go_at_call 39; refine Calls.mono (HK.out _) ?_; rintro e w2 ⟨rfl, rfl⟩)
        go_roundw
        case rel => exact ⟨f, m, rfl, rfl, hfF, by omega, by omega, hB⟩
        case measure => simp [intOf]; omega
    · obtain rfl : f = F := by omega
      have q0 : (t : Int) ≤ (f : Int) := by omega
      go_wp2_with fail
      simp only [Exit.noGoto]
      go_ret
      exact ⟨rfl, hB.out⟩

end Go.Proofs.Ytjjenpklcbpkmaa
