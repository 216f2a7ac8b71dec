/-
  The best of the candidates is the best of all places: plain laws.
-/
import Derived.Test.YtjmggbfhccdpkaaLCnd
namespace Go.Proofs.Ytjmggbfhccdpkaa
open Go.RowKit Go.Shelf Go.Proofs.Mem Go.Maps
set_option linter.unusedVariables false

theorem ba_ext {a b : ByteArray} (hs : a.size = b.size) (h : ∀ j, byteAt a j = byteAt b j) : a = b := by
  apply ByteArray.ext
  apply Array.ext
  · exact hs
  · intro i h1 h2
    have := h i
    rw [byteAt_eq a i h1, byteAt_eq b i h2] at this
    exact UInt8.toNat_inj.1 this
theorem byte_extract (s : ByteArray) (i c j : Nat) (hj : j < c) (h : i + c ≤ s.size) : byteAt (s.extract i (i + c)) j = byteAt s (i + j) := by
  have h1 : j < (s.extract i (i + c)).size := by rw [ByteArray.size_extract]; omega
  rw [byteAt_eq _ _ h1, byteAt_eq _ _ (by omega), ByteArray.getElem_extract]
theorem four_iff {s : ByteArray} {q a : Nat} (h1 : q + 4 ≤ s.size) (h2 : a + 4 ≤ s.size) : fourAt s q = fourAt s a ↔ ∀ i, i < 4 → byteAt s (q + i) = byteAt s (a + i) := by
  unfold fourAt
  constructor
  · intro e i hi
    rw [← byte_extract s q 4 i hi h1, e, byte_extract s a 4 i hi h2]
  · intro h
    refine ba_ext (by rw [ByteArray.size_extract, ByteArray.size_extract]; omega) fun j => ?_
    rcases Nat.lt_or_ge j 4 with hj | hj
    · rw [byte_extract s q 4 j hj h1, byte_extract s a 4 j hj h2, h j hj]
    · have z : ∀ i, i + 4 ≤ s.size → byteAt (s.extract i (i + 4)) j = 0 := fun i hi => by
        unfold byteAt
        rw [dif_neg (by rw [ByteArray.size_extract]; omega)]
      rw [z q h1, z a h2]
theorem same_four {s : ByteArray} {q a : Nat} (hqa : q < a) (h2 : a + 4 ≤ s.size) : 4 ≤ sameN s q a ↔ (q + 4 ≤ s.size ∧ fourAt s q = fourAt s a) := by
  rw [same_iff]
  constructor
  · rintro ⟨_, h⟩
    exact ⟨by omega, (four_iff (by omega) h2).2 fun i hi => (h i hi).2⟩
  · rintro ⟨_, h⟩
    exact ⟨by omega, fun i hi => ⟨by omega, (four_iff (by omega) h2).1 h i hi⟩⟩

def stepB (s : ByteArray) (a : Nat) (p : Nat × Nat) (q : Nat) : Nat × Nat := if p.1 < sameN s q a then (sameN s q a, a - q) else p
def bestF (s : ByteArray) (a : Nat) (pre : List Nat) : Nat × Nat := pre.foldl (stepB s a) (0, 0)
def stepD (s : ByteArray) (a : Nat) (p : Nat × Nat) (q : Nat) : Nat × Nat := if 4 ≤ sameN s q a ∧ p.1 < sameN s q a then (sameN s q a, a - q) else p
def procN (s : ByteArray) (a : Nat) : Nat → Nat × Nat → Nat × Nat
  | 0, p => p
  | q + 1, p => if a - q ≤ 4096 then procN s a q (stepD s a p q) else p
theorem proc_out {s : ByteArray} {a q : Nat} (h : 4096 < a - q) (p : Nat × Nat) : procN s a q p = p := by
  cases q with
  | zero => rfl
  | succ q => show (if a - q ≤ 4096 then _ else _) = _; rw [if_neg (by omega)]
theorem fold_proc {s : ByteArray} {a : Nat} (h4 : a + 4 ≤ s.size) : ∀ (n : Nat) (p : Nat × Nat), n ≤ a → ((chainL s (fourAt s a) n).takeWhile (fun q => decide (a - q ≤ 4096))).foldl (stepB s a) p = procN s a n p
  | 0, p, _ => rfl
  | q + 1, p, hn => by
    have hs := same_four (s := s) (q := q) (a := a) (by omega) h4
    show ((if q + 4 ≤ s.size ∧ fourAt s q = fourAt s a then q :: chainL s (fourAt s a) q else chainL s (fourAt s a) q).takeWhile _).foldl _ _ = (if a - q ≤ 4096 then procN s a q (stepD s a p q) else p)
    by_cases hm : q + 4 ≤ s.size ∧ fourAt s q = fourAt s a
    · rw [if_pos hm, List.takeWhile_cons]
      by_cases hw : a - q ≤ 4096
      · rw [if_pos (by simpa using hw), if_pos hw, List.foldl_cons, fold_proc h4 q _ (by omega)]
        congr 1
        unfold stepB stepD
        have := hs.2 hm
        by_cases hl : p.1 < sameN s q a
        · rw [if_pos hl, if_pos ⟨this, hl⟩]
        · rw [if_neg hl, if_neg (fun h => hl h.2)]
      · rw [if_neg (by simpa using hw), if_neg hw]
        rfl
    · rw [if_neg hm, fold_proc h4 q _ (by omega)]
      have hd : stepD s a p q = p := by
        unfold stepD
        rw [if_neg (fun h => hm (hs.1 h.1))]
      by_cases hw : a - q ≤ 4096
      · rw [if_pos hw, hd]
      · rw [if_neg hw, proc_out (by omega)]
theorem proc_best {s : ByteArray} {a : Nat} : ∀ c, c ≤ min a 4096 → procN s a a (0, 0) = procN s a (a - c) (bestK s a c)
  | 0, _ => rfl
  | c + 1, hc => by
    rw [proc_best c (by omega)]
    obtain ⟨q, hq⟩ : ∃ q, a - c = q + 1 := ⟨a - c - 1, by omega⟩
    have hq2 : a - (c + 1) = q := by omega
    rw [hq, hq2]
    show (if a - q ≤ 4096 then procN s a q (stepD s a (bestK s a c) q) else _) = _
    rw [if_pos (by omega)]
    congr 1
    unfold stepD
    rw [show bestK s a (c + 1) = if 4 ≤ sameN s (a - (c + 1)) a ∧ (bestK s a c).1 < sameN s (a - (c + 1)) a then (sameN s (a - (c + 1)) a, c + 1) else bestK s a c from rfl, hq2, show a - q = c + 1 by omega]
theorem best_none {s : ByteArray} {a : Nat} (ha : a ≤ s.size) (h4 : ¬ a + 4 ≤ s.size) : ∀ c, bestK s a c = (0, 0)
  | 0 => rfl
  | c + 1 => by
    have ih := best_none ha h4 c
    have hr := same_room s (a - (c + 1)) a ha
    rw [show bestK s a (c + 1) = if 4 ≤ sameN s (a - (c + 1)) a ∧ (bestK s a c).1 < sameN s (a - (c + 1)) a then (sameN s (a - (c + 1)) a, c + 1) else bestK s a c from rfl, if_neg (fun h => by omega), ih]
/-- THE LAW. -/
theorem best_cand (s : ByteArray) (a : Nat) (ha : a ≤ s.size) : bestF s a (candL s a) = bestP s a := by
  unfold bestF candL bestP
  by_cases h4 : a + 4 ≤ s.size
  · rw [if_pos h4, fold_proc h4 a _ (Nat.le_refl _), proc_best (min a 4096) (Nat.le_refl _)]
    by_cases h : a ≤ 4096
    · rw [Nat.min_eq_left h, Nat.sub_self]
      rfl
    · rw [Nat.min_eq_right (by omega)]
      obtain ⟨q, hq⟩ : ∃ q, a - 4096 = q + 1 := ⟨a - 4096 - 1, by omega⟩
      rw [hq]
      show (if a - q ≤ 4096 then _ else _) = _
      rw [if_neg (by omega)]
  · rw [if_neg h4, best_none ha h4]
    rfl
theorem fold_top (s : ByteArray) (a : Nat) : ∀ (l : List Nat) (p : Nat × Nat), p.1 = 131 → l.foldl (stepB s a) p = p
  | [], p, _ => rfl
  | q :: l, p, h => by
    have h1 : stepB s a p q = p := by
      unfold stepB
      rw [if_neg (by have := same_le s q a; omega)]
    rw [List.foldl_cons, h1, fold_top s a l p h]
theorem best_top {s : ByteArray} {a : Nat} {pre : List Nat} (hp : pre <+: candL s a) (h : (bestF s a pre).1 = 131) (ha : a ≤ s.size) : bestF s a pre = bestP s a := by
  obtain ⟨t, ht⟩ := hp
  rw [← best_cand s a ha, ← ht]
  unfold bestF at *
  rw [List.foldl_append, fold_top s a t _ h]
theorem bestF_snoc (s : ByteArray) (a : Nat) (pre : List Nat) (q : Nat) : bestF s a (pre ++ [q]) = stepB s a (bestF s a pre) q := by
  unfold bestF
  rw [List.foldl_append]
  rfl
theorem bestF_le (s : ByteArray) (a : Nat) (pre : List Nat) : (bestF s a pre).1 ≤ 131 ∧ (bestF s a pre).2 ≤ a := by
  have : ∀ (l : List Nat) (p : Nat × Nat), p.1 ≤ 131 ∧ p.2 ≤ a → (l.foldl (stepB s a) p).1 ≤ 131 ∧ (l.foldl (stepB s a) p).2 ≤ a := by
    intro l
    induction l with
    | nil => intro p h; exact h
    | cons q l ih =>
      intro p h
      rw [List.foldl_cons]
      apply ih
      unfold stepB
      split
      · exact ⟨same_le s q a, Nat.sub_le _ _⟩
      · exact h
  exact this pre (0, 0) ⟨Nat.zero_le _, Nat.zero_le _⟩

end Go.Proofs.Ytjmggbfhccdpkaa
