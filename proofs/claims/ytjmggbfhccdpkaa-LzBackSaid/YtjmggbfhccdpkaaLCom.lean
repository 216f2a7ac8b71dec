/-
  How many bytes from two places on are the same: both packages.
-/
import Derived.Test.YtjmggbfhccdpkaaLBase
namespace Go.Proofs.Ytjmggbfhccdpkaa
open Go.RowKit Go.Shelf Go.Proofs.Mem
set_option linter.unusedVariables false

def meetP (s : ByteArray) (a b i : Nat) : Prop := b + i < s.size ∧ byteAt s (a + i) = byteAt s (b + i)
instance (s : ByteArray) (a b i : Nat) : Decidable (meetP s a b i) := by unfold meetP; infer_instance
def sameR (s : ByteArray) (a b : Nat) : Nat → Nat → Nat
  | 0, n => n
  | f + 1, n => if meetP s a b n then sameR s a b f (n + 1) else n
/-- How many bytes from two places on are the same, at most 131. -/
def sameN (s : ByteArray) (a b : Nat) : Nat := sameR s a b 131 0
theorem sameR_iff (s : ByteArray) (a b : Nat) : ∀ (f n k : Nat), (∀ i, i < n → meetP s a b i) → (k ≤ sameR s a b f n ↔ k ≤ n + f ∧ ∀ i, i < k → meetP s a b i)
  | 0, n, k, h => by
    unfold sameR
    exact ⟨fun hk => ⟨hk, fun i hi => h i (by omega)⟩, fun hk => hk.1⟩
  | f + 1, n, k, h => by
    unfold sameR
    split
    · rename_i hm
      rw [sameR_iff s a b f (n + 1) k (fun i hi => by
        rcases Nat.lt_or_ge i n with h1 | h1
        · exact h i h1
        · obtain rfl : i = n := by omega
          exact hm)]
      rw [show n + 1 + f = n + (f + 1) by omega]
    · rename_i hm
      constructor
      · intro hk
        exact ⟨by omega, fun i hi => h i (by omega)⟩
      · rintro ⟨_, h2⟩
        rcases Nat.lt_or_ge n k with h1 | h1
        · exact absurd (h2 n h1) hm
        · exact h1
theorem same_iff (s : ByteArray) (a b k : Nat) : k ≤ sameN s a b ↔ k ≤ 131 ∧ ∀ i, i < k → meetP s a b i := by
  have := sameR_iff s a b 131 0 k (fun i hi => absurd hi (Nat.not_lt_zero i))
  rw [Nat.zero_add] at this
  exact this
theorem same_le (s : ByteArray) (a b : Nat) : sameN s a b ≤ 131 := ((same_iff s a b _).1 (Nat.le_refl _)).1
theorem same_meet {s : ByteArray} {a b i : Nat} (h : i < sameN s a b) : meetP s a b i := ((same_iff s a b _).1 (Nat.le_refl _)).2 i h
theorem same_room (s : ByteArray) (a b : Nat) (hb : b ≤ s.size) : sameN s a b ≤ s.size - b := by
  rcases Nat.eq_zero_or_pos (sameN s a b) with h | h
  · omega
  · have := (same_meet (s := s) (a := a) (b := b) (i := sameN s a b - 1) (by omega)).1
    omega
theorem same_end {s : ByteArray} {a b : Nat} (h : sameN s a b < 131) : ¬ meetP s a b (sameN s a b) := by
  intro hm
  have := (same_iff s a b (sameN s a b + 1)).2 ⟨by omega, fun i hi => by
    rcases Nat.lt_or_ge i (sameN s a b) with h1 | h1
    · exact same_meet h1
    · obtain rfl : i = sameN s a b := by omega
      exact hm⟩
  omega

theorem wrap_sum (a n : Nat) (h : a + n ≤ 1000000) : IntKind.i64.wrap ((a : Int) + (n : Int)) = (a : Int) + (n : Int) := by
  rw [IntKind.wrap_i64]; omega

theorem drewN_two (w : World) (a b : Nat) : (w.drewN a).drewN b = w.drewN (a + b) := by
  induction b with
  | zero => rfl
  | succ b ih => exact congrArg World.drew ih

set_option maxHeartbeats 1000000 in
theorem common_any (s : ByteArray) (a b : Nat) (w : World) (hs : s.size ≤ 100000) (hab : a < b) (hb : b ≤ s.size) :
    Calls Try.prog 24 #[.string s, .int .i64 a, .int .i64 b] w fun e w' => e = .returned (.int .i64 (sameN s a b : Nat)) ∧ ∃ m, w' = w.drewN m := by
  obtain ⟨N, hN⟩ : ∃ N, N = sameN s a b := ⟨_, rfl⟩
  rw [← hN]
  have h131 := same_le s a b
  have hroom := same_room s a b hb
  rw [← hN] at h131 hroom
  have HM := Lib.hid (fun i (h : i < N) => same_meet (s := s) (a := a) (b := b) (i := i) (by rw [← hN]; exact h))
  have HE : Hid (N < 131 → ¬ meetP s a b N) := Lib.hid (fun h => by rw [hN]; exact same_end (by rw [← hN]; exact h))
  obtain ⟨M, hM⟩ : ∃ M, M = min 131 (s.size - b) := ⟨_, rfl⟩
  have hmin : min (131 : Int) ((s.size : Int) - (b : Int)) = (M : Int) := by omega
  have hmin2 : (if (s.size : Int) - (b : Int) < 131 then (s.size : Int) - (b : Int) else 131) = (M : Int) := by split <;> omega
  have hNM : N ≤ M := by omega
  have HMM := Lib.hid hM
  have hM131 : M ≤ 131 := by omega
  have hbs : b ≤ 100000 := by omega
  have has : a ≤ 100000 := by omega
  clear hN hM hroom
  go_enter Try.func24, Try.ntmps24
  go_wp2_with fail
  go_loopw [7] (fun i wr => ∃ n m : Nat, i = .int .i64 n ∧ n ≤ N ∧ wr = w.drewN m) (fun i _ => 200 - (intOf i).toNat)
  case atStart => exact ⟨0, 0, rfl, Nat.zero_le _, rfl⟩
  case round =>
    obtain ⟨n, m, rfl, hn, rfl⟩ := hrel
    by_cases hlM : n < M
    case neg =>
      obtain rfl : n = N := by omega
      have d1 : decide (n < M) = false := decide_eq_false hlM
      go_wp2_with fail
      go_quiet (fail)
      go_wp2_with fail
      go_ret
      exact ⟨rfl, _, drewN_two _ _ _⟩
    have d1 : decide (n < M) = true := decide_eq_true hlM
    obtain ⟨p, hp⟩ : ∃ p, p = a + n := ⟨_, rfl⟩
    obtain ⟨q, hq⟩ : ∃ q, q = b + n := ⟨_, rfl⟩
    have hps : p < s.size := by have := HMM.out; omega
    have hqs : q < s.size := by have := HMM.out; omega
    have p1 : IntKind.i64.wrap ((a : Int) + (n : Int)) = (p : Int) := by rw [wrap_sum a n (by omega)]; omega
    have q1 : IntKind.i64.wrap ((b : Int) + (n : Int)) = (q : Int) := by rw [wrap_sum b n (by omega)]; omega
    have p2 : (a : Int) + (n : Int) = (p : Int) := by omega
    have q2 : (b : Int) + (n : Int) = (q : Int) := by omega
    have p3 : (p : Int) < (s.size : Int) := by omega
    have q3 : (q : Int) < (s.size : Int) := by omega
    have p4 : (0 : Int) ≤ (p : Int) := by omega
    have q4 : (0 : Int) ≤ (q : Int) := by omega
    have hmeet : meetP s a b n ↔ s[p].toNat = s[q].toNat := by
      unfold meetP
      rw [← hp, ← hq, byteAt_eq s p hps, byteAt_eq s q hqs]
      exact ⟨fun h => h.2, fun h => ⟨hqs, h⟩⟩
    have HP := Lib.hid hp
    have HQ := Lib.hid hq
    by_cases hlN : n < N
    · have d3 : ((s[p].toNat : Int) == (s[q].toNat : Int)) = true := by rw [hmeet.1 (HM.out n hlN)]; simp
      clear hmeet hp hq
      go_wp2_with fail
      go_quiet (fail)
      go_wp2_with fail
      go_roundw
      case rel => exact ⟨n + 1, _, by go_num, by omega, by first | exact drewN_two _ _ _ | rfl⟩
      case measure => simp [intOf]; omega
    · obtain rfl : n = N := by omega
      have d3 : ((s[p].toNat : Int) == (s[q].toNat : Int)) = false := by
        rw [beq_eq_false_iff_ne]
        intro e
        exact HE.out (by omega) (hmeet.2 (Int.ofNat_inj.1 e))
      clear hmeet hp hq
      go_wp2_with fail
      go_quiet (fail)
      go_wp2_with fail
      go_ret
      exact ⟨rfl, _, drewN_two _ _ _⟩

set_option maxHeartbeats 1000000 in
theorem rsame_any (s : ByteArray) (a b : Nat) (w : World) (hs : s.size ≤ 100000) (hab : a < b) (hb : b ≤ s.size) :
    Calls Try.prog 29 #[.string s, .int .i64 a, .int .i64 b] w fun e w' => e = .returned (.int .i64 (sameN s a b : Nat)) ∧ ∃ m, w' = w.drewN m := by
  obtain ⟨N, hN⟩ : ∃ N, N = sameN s a b := ⟨_, rfl⟩
  rw [← hN]
  have h131 := same_le s a b
  have hroom := same_room s a b hb
  rw [← hN] at h131 hroom
  have HM := Lib.hid (fun i (h : i < N) => same_meet (s := s) (a := a) (b := b) (i := i) (by rw [← hN]; exact h))
  have HE : Hid (N < 131 → ¬ meetP s a b N) := Lib.hid (fun h => by rw [hN]; exact same_end (by rw [← hN]; exact h))
  have hbs : b ≤ 100000 := by omega
  have has : a ≤ 100000 := by omega
  have HR := Lib.hid hroom
  clear hN hroom
  go_enter Try.func29, Try.ntmps29
  go_wp2_with fail
  go_loopw [7] (fun i wr => ∃ n m : Nat, i = .int .i64 n ∧ n ≤ N ∧ wr = w.drewN m) (fun i _ => 200 - (intOf i).toNat)
  case atStart => exact ⟨0, 0, rfl, Nat.zero_le _, rfl⟩
  case round =>
    obtain ⟨n, m, rfl, hn, rfl⟩ := hrel
    by_cases h1 : n < 131
    case neg =>
      obtain rfl : n = N := by omega
      have d1 : decide ((n : Int) < 131) = false := decide_eq_false (by omega)
      go_wp2_with fail
      go_quiet (fail)
      go_wp2_with fail
      go_ret
      exact ⟨rfl, _, drewN_two _ _ _⟩
    have d1 : decide ((n : Int) < 131) = true := decide_eq_true (by omega)
    obtain ⟨p, hp⟩ : ∃ p, p = a + n := ⟨_, rfl⟩
    obtain ⟨q, hq⟩ : ∃ q, q = b + n := ⟨_, rfl⟩
    have p1 : IntKind.i64.wrap ((a : Int) + (n : Int)) = (p : Int) := by rw [wrap_sum a n (by omega)]; omega
    have q1 : IntKind.i64.wrap ((b : Int) + (n : Int)) = (q : Int) := by rw [wrap_sum b n (by omega)]; omega
    have p2 : (a : Int) + (n : Int) = (p : Int) := by omega
    have q2 : (b : Int) + (n : Int) = (q : Int) := by omega
    by_cases hqs : q < s.size
    case neg =>
      have hnN : n = N := by
        rcases Nat.lt_or_ge n N with h | h
        · have := (HM.out n h).1; omega
        · omega
      subst hnN
      have d2 : decide (q < s.size) = false := decide_eq_false hqs
      clear hp hq
      go_wp2_with fail
      go_quiet (fail)
      go_wp2_with fail
      go_ret
      exact ⟨rfl, _, drewN_two _ _ _⟩
    have d2 : decide (q < s.size) = true := decide_eq_true hqs
    have hps : p < s.size := by omega
    have p3 : (p : Int) < (s.size : Int) := by omega
    have q3 : (q : Int) < (s.size : Int) := by omega
    have p4 : (0 : Int) ≤ (p : Int) := by omega
    have q4 : (0 : Int) ≤ (q : Int) := by omega
    have hmeet : meetP s a b n ↔ s[p].toNat = s[q].toNat := by
      unfold meetP
      rw [← hp, ← hq, byteAt_eq s p hps, byteAt_eq s q hqs]
      exact ⟨fun h => h.2, fun h => ⟨hqs, h⟩⟩
    have HP := Lib.hid hp
    have HQ := Lib.hid hq
    by_cases hlN : n < N
    · have d3 : ((s[p].toNat : Int) == (s[q].toNat : Int)) = true := by rw [hmeet.1 (HM.out n hlN)]; simp
      clear hmeet hp hq
      go_wp2_with fail
      go_quiet (fail)
      go_wp2_with fail
      go_roundw
      case rel => exact ⟨n + 1, _, by go_num, by omega, by first | exact drewN_two _ _ _ | rfl⟩
      case measure => simp [intOf]; omega
    · obtain rfl : n = N := by omega
      have d3 : ((s[p].toNat : Int) == (s[q].toNat : Int)) = false := by
        rw [beq_eq_false_iff_ne]
        intro e
        exact HE.out (by omega) (hmeet.2 (Int.ofNat_inj.1 e))
      clear hmeet hp hq
      go_wp2_with fail
      go_quiet (fail)
      go_wp2_with fail
      go_ret
      exact ⟨rfl, _, drewN_two _ _ _⟩

/-- The longest match at a place, and how far ahead it stands, of the c nearest places. -/
def bestK (s : ByteArray) (at_ : Nat) : Nat → Nat × Nat
  | 0 => (0, 0)
  | c + 1 => let p := bestK s at_ c; let n := sameN s (at_ - (c + 1)) at_; if 4 ≤ n ∧ p.1 < n then (n, c + 1) else p
def bestP (s : ByteArray) (at_ : Nat) : Nat × Nat := bestK s at_ (min at_ 4096)
theorem bestK_le (s : ByteArray) (at_ : Nat) (h : at_ ≤ s.size) : ∀ c, c ≤ at_ → (bestK s at_ c).1 ≤ 131 ∧ (bestK s at_ c).1 ≤ s.size - at_ ∧ (bestK s at_ c).2 ≤ c ∧ ((bestK s at_ c).1 = 0 ∨ (4 ≤ (bestK s at_ c).1 ∧ 1 ≤ (bestK s at_ c).2 ∧ (bestK s at_ c).1 = sameN s (at_ - (bestK s at_ c).2) at_))
  | 0, _ => ⟨Nat.zero_le _, Nat.zero_le _, Nat.le_refl _, .inl rfl⟩
  | c + 1, hc => by
    have ih := bestK_le s at_ h c (by omega)
    have h1 := same_le s (at_ - (c + 1)) at_
    have h2 := same_room s (at_ - (c + 1)) at_ h
    unfold bestK
    dsimp only
    split
    · rename_i hh
      exact ⟨h1, h2, Nat.le_refl _, .inr ⟨hh.1, by omega, rfl⟩⟩
    · exact ⟨ih.1, ih.2.1, by omega, ih.2.2.2⟩

set_option maxHeartbeats 1000000 in
theorem rbest_any (s : ByteArray) (i : Nat) (w : World) (hs : s.size ≤ 100000) (hi : i ≤ s.size) :
    Calls Try.prog 19 #[.string s, .int .i64 i] w fun e w' => e = .returned (.tuple #[.int .i64 ((bestP s i).1 : Nat), .int .i64 ((bestP s i).2 : Nat)]) ∧ ∃ m, w' = w.drewN m := by
  obtain ⟨C, hC⟩ : ∃ C, C = min i 4096 := ⟨_, rfl⟩
  unfold bestP
  rw [← hC]
  have HS := Lib.hid (fun k (h : k < i) W => rsame_any s k i W hs h hi)
  have HBL := Lib.hid (fun c (h : c ≤ i) => bestK_le s i hi c h)
  have hiz : i ≤ 100000 := by omega
  have hCi : C ≤ i := by omega
  have hC4 : C ≤ 4096 := by omega
  have HCC : Hid (C = i ∨ C = 4096) := Lib.hid (by omega)
  clear hC
  go_enter Try.func19, Try.ntmps19
  go_wp2_with fail
  go_loopw [6, 7, 8, 9] (fun mo fa k _ wr => ∃ c m : Nat, c ≤ C ∧ k = .int .i64 ((i : Int) - (c : Int) - 1) ∧ mo = .int .i64 ((bestK s i c).1 : Nat) ∧ fa = .int .i64 ((bestK s i c).2 : Nat) ∧ wr = w.drewN m) (fun _ _ k _ _ => (intOf k + 1).toNat)
  case atStart => exact ⟨0, 0, Nat.zero_le _, by go_num, rfl, rfl, rfl⟩
  case round =>
    obtain ⟨c, m, hc, rfl, rfl, rfl, rfl⟩ := hrel
    have hb := HBL.out c (by omega)
    by_cases hcC : c < C
    case neg =>
      obtain rfl : c = C := by omega
      by_cases h0 : c = i
      · have d1 : decide ((0 : Int) ≤ (i : Int) - (c : Int) - 1) = false := decide_eq_false (by omega)
        go_wp2_with fail
        go_ret2
        exact ⟨rfl, _, rfl⟩
      · have d1 : decide ((0 : Int) ≤ (i : Int) - (c : Int) - 1) = true := decide_eq_true (by omega)
        have d2 : decide ((i : Int) - ((i : Int) - (c : Int) - 1) ≤ 4096) = false := decide_eq_false (by have := HCC.out; omega)
        go_wp2_with fail
        go_ret2
        exact ⟨rfl, _, rfl⟩
    have d1 : decide ((0 : Int) ≤ (i : Int) - (c : Int) - 1) = true := decide_eq_true (by omega)
    have d2 : decide ((i : Int) - ((i : Int) - (c : Int) - 1) ≤ 4096) = true := decide_eq_true (by omega)
    obtain ⟨k, hk⟩ : ∃ k : Nat, k = i - (c + 1) := ⟨_, rfl⟩
    have hki : (i : Int) - (c : Int) - 1 = (k : Int) := by omega
    have hkk := HS.out k (by omega)
    have HSS := Lib.hid hkk
    have hbs : bestK s i (c + 1) = if 4 ≤ sameN s k i ∧ (bestK s i c).1 < sameN s k i then (sameN s k i, c + 1) else bestK s i c := by rw [hk]; rfl
    have HBS := Lib.hid hbs
    have hsl := same_le s k i
    rw [hki] at d1 d2 ⊢
    have HKC : Hid ((k : Int) - 1 = (i : Int) - ((c + 1 : Nat) : Int) - 1) := Lib.hid (by omega)
    have HIC : Hid ((i : Int) - (k : Int) = ((c + 1 : Nat) : Int)) := Lib.hid (by omega)
    have hk0 : (0 : Int) ≤ (k : Int) := by omega
    have hki2 : (k : Int) < (i : Int) := by omega
    have hkd : (i : Int) - (k : Int) ≤ 4096 := by omega
    clear hkk hbs
    obtain ⟨n, hn⟩ : ∃ n, n = sameN s k i := ⟨_, rfl⟩
    obtain ⟨mo, hmo⟩ : ∃ n, n = (bestK s i c).1 := ⟨_, rfl⟩
    rw [← hn] at HSS HBS hsl
    rw [← hmo] at HBS hb ⊢
    have HMO := Lib.hid hmo
    have hmb : mo ≤ 131 := hb.1
    have hfb : (bestK s i c).2 ≤ 100000 := by have := hb.2.2.1; omega
    clear hn hmo hb hk hki
    by_cases h4 : 4 ≤ n
    case neg =>
      have e1 : decide ((4 : Int) ≤ (n : Int)) = false := decide_eq_false (by omega)
      have HB1 : Hid (bestK s i (c + 1) = bestK s i c) := Lib.hid (by rw [HBS.out, if_neg (by omega)])
      clear h4
      go_wp2_with (go_at_call 29; refine Calls.mono (HSS.out _) ?_; rintro e w2 ⟨rfl, m2, rfl⟩)
      go_roundw
      case rel => exact ⟨c + 1, _, by omega, by rw [← HKC.out], by rw [HB1.out, HMO.out], by rw [HB1.out], by first | exact drewN_two _ _ _ | rfl⟩
      case measure => first | (simp [intOf]; done) | (simp [intOf]; omega)
    have e1 : decide ((4 : Int) ≤ (n : Int)) = true := decide_eq_true (by omega)
    by_cases hlt : mo < n
    case neg =>
      have e2 : decide (mo < n) = false := decide_eq_false hlt
      have HB1 : Hid (bestK s i (c + 1) = bestK s i c) := Lib.hid (by rw [HBS.out, if_neg (by omega)])
      clear hlt
      go_wp2_with (go_at_call 29; refine Calls.mono (HSS.out _) ?_; rintro e w2 ⟨rfl, m2, rfl⟩)
      go_roundw
      case rel => exact ⟨c + 1, _, by omega, by rw [← HKC.out], by rw [HB1.out, HMO.out], by rw [HB1.out], by first | exact drewN_two _ _ _ | rfl⟩
      case measure => first | (simp [intOf]; done) | (simp [intOf]; omega)
    have e2 : decide (mo < n) = true := decide_eq_true hlt
    have HB1 : Hid (bestK s i (c + 1) = (n, c + 1)) := Lib.hid (by rw [HBS.out, if_pos ⟨h4, hlt⟩])
    clear hlt
    go_wp2_with (go_at_call 29; refine Calls.mono (HSS.out _) ?_; rintro e w2 ⟨rfl, m2, rfl⟩)
    go_roundw
    case rel => exact ⟨c + 1, _, by omega, by rw [← HKC.out], by rw [HB1.out], by rw [HB1.out, HIC.out], by first | exact drewN_two _ _ _ | rfl⟩
    case measure => first | (simp [intOf]; done) | (simp [intOf]; omega)

end Go.Proofs.Ytjmggbfhccdpkaa
