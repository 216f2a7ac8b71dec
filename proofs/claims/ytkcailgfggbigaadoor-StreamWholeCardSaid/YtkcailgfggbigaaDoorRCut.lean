/-
  THE DOCUMENT's CUT.
-/
import Derived.Test.YtkcailgfggbigaaDoorFitP
import Derived.Lib.ItoaNum
namespace Go.Proofs.YtkcailgfggbigaaDoor
open Go.RowKit Go.Shelf Go.Proofs.Gear
attribute [local go_sem] Oper.semAt_some
set_option linter.unusedVariables false

theorem div_eq_zero_iff_bitLen (h m : Nat) (hm : m ≤ 64) (hh : h < M) : h / 2 ^ m = 0 ↔ Lib.bitLen h ≤ m := by
  rw [Nat.div_eq_zero_iff]
  have hp : 0 < 2 ^ m := Nat.pow_pos (by decide)
  constructor
  · rintro (h1 | h1)
    · omega
    · exact Lib.bitLen_le h m hm h1
  · intro h1
    right
    by_cases h0 : h = 0
    · rw [h0]; exact hp
    · rw [M_eq] at hh
      have := (Lib.bitLenAux_bounds 64 h hh h0).2.2
      exact Nat.lt_of_lt_of_le this (Nat.pow_le_pow_right (by decide) h1)

set_option maxHeartbeats 2000000 in
theorem blank_any (h k : Nat) (hk : k ≤ 64) (hh : h < M) (w : World) :
    Calls Tryd.prog 31 #[.int .u64 h, .int .i64 k] w fun e w' => e = .returned (.bool (decide ((k : Int) ≤ 64 - (Lib.bitLen h : Int)))) ∧ w' = w := by
  go_enter Tryd.func31, Tryd.ntmps31
  by_cases h0 : k = 0
  · obtain rfl := h0
    have hl := Lib.bitLen_le h 64 (Nat.le_refl _) (by rw [← M_eq]; exact hh)
    go_wp2
    go_ret
    exact ⟨by rw [decide_eq_true (by omega)]; rfl, rfl⟩
  · have hd := div_eq_zero_iff_bitLen h (64 - k) (by omega) hh
    have hd2 : ((k : Int) == 0 || (h : Int) / 2 ^ (64 - k) == 0) = decide ((k : Int) ≤ 64 - (Lib.bitLen h : Int)) := by
      rw [show ((k : Int) == 0) = false by simp; exact h0, Bool.false_or, Bool.eq_iff_iff, decide_eq_true_eq, beq_iff_eq]
      have e : (h : Int) / 2 ^ (64 - k) = ((h / 2 ^ (64 - k) : Nat) : Int) := by simp
      rw [e]
      constructor
      · intro h1; have := hd.1 (by exact_mod_cast h1); omega
      · intro h1; have := hd.2 (by omega); rw [this]; rfl
    have HD := Lib.hid hd2
    clear hd hd2
    go_wp2
    go_ret
    exact ⟨by rw [← HD.out]; rfl, rfl⟩

theorem blank_int (h : Nat) (k : Int) (hk0 : 0 ≤ k) (hk : k ≤ 64) (hh : h < M) (w : World) :
    Calls Tryd.prog 31 #[.int .u64 h, .int .i64 k] w fun e w' => e = .returned (.bool (decide (k ≤ 64 - (Lib.bitLen h : Int)))) ∧ w' = w := by
  obtain ⟨n, rfl⟩ : ∃ n : Nat, k = n := ⟨k.toNat, by omega⟩
  exact blank_any h n (by omega) hh w

/-- Where a text is cut first, as a step at a time. -/
def cutStep (av b i h : Nat) : Bool := !skips av b (i, h)

theorem find_range {p : Nat → Bool} {n k : Nat} (hk : k < n) (h : ∀ j, j < k → p j = false) (hp : p k = true) : (List.range n).find? p = some k := by
  rw [show n = k + ((n - k - 1) + 1) by omega, List.range_add, List.find?_append, List.find?_eq_none.2 (by intro j hj; simp; exact h j (List.mem_range.1 hj)), List.range_succ_eq_map]
  simp [hp]
theorem below_succ {p : Nat → Prop} {k : Nat} (h : ∀ j, j < k → p j) (hk : p k) : ∀ j, j < k + 1 → p j := fun j hj => (Nat.lt_succ_iff_lt_or_eq.1 hj).elim (h j) (fun e => by rw [e]; exact hk)
theorem cutN_at (mn av mx b : Nat) (s : ByteArray) (k : Nat) (hk : k < min s.size mx - mn) (h : ∀ j, j < k → skips av b (mn + j, hashAt s mn j) = true) (hp : skips av b (mn + k, hashAt s mn k) = false) : cutN mn av mx b s = mn + k + 1 := by
  unfold cutN hashL
  rw [List.find?_map, find_range hk (by intro j hj; simp [Function.comp, h j hj]) (by simp [Function.comp, hp])]
  rfl
theorem cutN_end (mn av mx b : Nat) (s : ByteArray) (h : ∀ j, j < min s.size mx - mn → skips av b (mn + j, hashAt s mn j) = true) : cutN mn av mx b s = min s.size mx := by
  unfold cutN hashL
  rw [List.find?_map, List.find?_eq_none.2 (by intro j hj; simp [Function.comp, h j (List.mem_range.1 hj)])]
  rfl

set_option maxHeartbeats 4000000 in
theorem rcut_any (mn av mx b : Nat) (s : ByteArray) (w : World) (hs : s.size ≤ 9223372036854775807) (hav : (av : Int) = 2 ^ b) (hb1 : 1 ≤ b) (hb2 : b ≤ 12) (h1 : 1 ≤ mn) (h2 : mn ≤ av) (h3 : av ≤ mx) (h4 : mx ≤ 4096) :
    Calls Tryd.prog 17 #[.agg #[.int .i64 mn, .int .i64 av, .int .i64 mx], .string s] w fun e w' => e = .returned (.int .i64 (cutN mn av mx b s)) ∧ Below w.heap.size w w' := by
  have hpow : powerOf (av : Int) = b := powerOf_at _ b (by omega) (by
      intro j hj e
      rw [hav] at e
      have h3 : (2 : Int) ^ (j + 1) ≤ 2 ^ b := pow_le _ _ hj
      have h4 : (0 : Int) < 2 ^ j := Int.pow_pos (by decide)
      rw [Int.pow_succ] at h3
      omega) hav
  clear hav
  go_enter Tryd.func17, Tryd.ntmps17
  by_cases hle : s.size ≤ mn
  · have he : cutN mn av mx b s = s.size := by rw [cutN_end _ _ _ _ _ (by intro j hj; omega)]; omega
    have HE := Lib.hid he
    clear he
    go_wp2
    go_ret
    exact ⟨by rw [HE.out]; rfl, by go_grown⟩
  · obtain ⟨en, hen⟩ : ∃ en, en = min s.size mx := ⟨_, rfl⟩
    have hif : min (s.size : Int) (mx : Int) = (en : Int) := by omega
    have hen1 : en ≤ s.size := by omega
    have hen2 : en ≤ 4096 := by omega
    have HE := Lib.hid hen
    clear hen
    go_wp2_with (go_at_call 26; refine Calls.mono (power_any (av : Int) _) ?_; rintro e w' ⟨rfl, rfl⟩; rw [hpow])
    obtain ⟨W0, hW0⟩ : ∃ W0, w.alloc (.cells #[.int .i64 mn, .int .i64 av, .int .i64 mx] 23) = W0 := ⟨_, rfl⟩
    have k1 : W0.cell? ⟨w.heap.size, 1, none⟩ = some (.int .i64 av) := by rw [← hW0]; clear hW0; go_simp
    have hB0 : Below w.heap.size w W0 := by rw [← hW0]; clear hW0; go_grown
    rw [hW0]
    clear hW0
    have HB0 := Lib.hid hB0
    clear hB0
    have hd13 : decide ((s.size : Int) ≤ mn) = false := decide_eq_false (by omega)
    go_loopw [7, 8] (fun h i wr => ∃ k : Nat, k ≤ en - mn ∧ i = .int .i64 ((mn + k : Nat) : Int) ∧ h = .int .u64 (hashB s mn k : Nat) ∧ Hid (∀ j, j < k → skips av b (mn + j, hashAt s mn j) = true) ∧ wr = W0) (fun _ i _ => en - (intOf i).toNat)
    case atStart => exact ⟨0, Nat.zero_le _, rfl, rfl, Lib.hid (by intro j hj; omega), rfl⟩
    case round =>
      obtain ⟨k, hk, rfl, rfl, hn, rfl⟩ := hrel
      by_cases hlt : k < en - mn
      · have hp : mn + k < s.size := by omega
        have HS := Lib.hid (hashB_succ s mn k hp)
        obtain ⟨H, hH⟩ : ∃ H, H = hashAt s mn k := ⟨_, rfl⟩
        have hHM : H < M := by rw [hH]; exact hashFrom_lt _ _ M_pos
        have hsk : skips av b (mn + k, hashAt s mn k) = if mn + k < av then decide ((64 : Int) - (Lib.bitLen H : Int) ≤ b) else decide ((64 : Int) - (Lib.bitLen H : Int) < (b : Int) - 1) := by rw [hH]; rfl
        rw [← hH] at HS
        have HSK := Lib.hid hsk
        have HH := Lib.hid hH
        clear hH hsk
        have HHM := Lib.hid hHM
        clear hHM
        obtain ⟨z, hz⟩ : ∃ z : Int, z = 64 - (Lib.bitLen H : Int) := ⟨_, rfl⟩
        rw [← hz] at HSK
        have HZ := Lib.hid hz
        clear hz
        have hbt := byte_lt (s[mn + k])
        by_cases hi : mn + k < av
        · have hi' : (mn : Int) + (k : Int) < av := by omega
          by_cases hz2 : z ≤ b
          · have hdz : decide ((b : Int) + 1 ≤ z) = false := decide_eq_false (by omega)
            have hskk : Hid (skips av b (mn + k, hashAt s mn k) = true) := Lib.hid (by rw [HSK.out, if_pos hi]; exact decide_eq_true hz2)
            go_wp2_with (first | (go_at_call 30; refine Calls.mono (rroll_any _ (s[mn + k]).toNat hbt _) ?_; rintro e w' ⟨rfl, rfl⟩; rw [HS.out]) | (go_at_call 31; refine Calls.mono (blank_int H _ (by omega) (by omega) HHM.out _) ?_; rintro e w' ⟨rfl, rfl⟩; rw [← HZ.out]; rw [hdz]))
            exact ⟨⟨k + 1, by omega, by go_num, by rw [HH.out]; simp [hashB], Lib.hid (below_succ hn.out hskk.out), trivial⟩, by simp [intOf]; omega⟩
          · have hdz : decide ((b : Int) + 1 ≤ z) = true := decide_eq_true (by omega)
            have hskk : Hid (skips av b (mn + k, hashAt s mn k) = false) := Lib.hid (by rw [HSK.out, if_pos hi]; exact decide_eq_false (by omega))
            go_wp2_with (first | (go_at_call 30; refine Calls.mono (rroll_any _ (s[mn + k]).toNat hbt _) ?_; rintro e w' ⟨rfl, rfl⟩; rw [HS.out]) | (go_at_call 31; refine Calls.mono (blank_int H _ (by omega) (by omega) HHM.out _) ?_; rintro e w' ⟨rfl, rfl⟩; rw [← HZ.out]; rw [hdz]))
            go_ret
            exact ⟨by rw [cutN_at mn av mx b s k (by rw [← HE.out]; exact hlt) hn.out hskk.out]; simp, HB0.out⟩
        · have hi' : (av : Int) ≤ (mn : Int) + (k : Int) := by omega
          by_cases hz2 : z < (b : Int) - 1
          · have hdz : decide ((b : Int) - 1 ≤ z) = false := decide_eq_false (by omega)
            have hskk : Hid (skips av b (mn + k, hashAt s mn k) = true) := Lib.hid (by rw [HSK.out, if_neg hi]; exact decide_eq_true hz2)
            go_wp2_with (first | (go_at_call 30; refine Calls.mono (rroll_any _ (s[mn + k]).toNat hbt _) ?_; rintro e w' ⟨rfl, rfl⟩; rw [HS.out]) | (go_at_call 31; refine Calls.mono (blank_int H _ (by omega) (by omega) HHM.out _) ?_; rintro e w' ⟨rfl, rfl⟩; rw [← HZ.out]; rw [hdz]))
            exact ⟨⟨k + 1, by omega, by go_num, by rw [HH.out]; simp [hashB], Lib.hid (below_succ hn.out hskk.out), trivial⟩, by simp [intOf]; omega⟩
          · have hdz : decide ((b : Int) - 1 ≤ z) = true := decide_eq_true (by omega)
            have hskk : Hid (skips av b (mn + k, hashAt s mn k) = false) := Lib.hid (by rw [HSK.out, if_neg hi]; exact decide_eq_false (by omega))
            go_wp2_with (first | (go_at_call 30; refine Calls.mono (rroll_any _ (s[mn + k]).toNat hbt _) ?_; rintro e w' ⟨rfl, rfl⟩; rw [HS.out]) | (go_at_call 31; refine Calls.mono (blank_int H _ (by omega) (by omega) HHM.out _) ?_; rintro e w' ⟨rfl, rfl⟩; rw [← HZ.out]; rw [hdz]))
            go_ret
            exact ⟨by rw [cutN_at mn av mx b s k (by rw [← HE.out]; exact hlt) hn.out hskk.out]; simp, HB0.out⟩
      · have hkk : k = en - mn := by omega
        have HC : Hid (cutN mn av mx b s = en) := Lib.hid (by rw [cutN_end _ _ _ _ _ (by intro j hj; exact hn.out j (by rw [hkk, HE.out]; exact hj)), ← HE.out])
        go_wp2
        go_ret
        exact ⟨by rw [HC.out]; rfl, HB0.out⟩

end Go.Proofs.YtkcailgfggbigaaDoor
