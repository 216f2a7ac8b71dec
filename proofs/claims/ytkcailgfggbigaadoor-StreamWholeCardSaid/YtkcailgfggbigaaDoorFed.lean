/-
  STREAMS: what comes out of them (plain laws).
-/
import Derived.Test.YtkcailgfggbigaaDoorWhole
namespace Go.Proofs.YtkcailgfggbigaaDoor
open Go.Proofs.Gear
set_option linter.unusedVariables false

def fedF (cut : ByteArray → Nat) (th : Nat) : Nat → ByteArray → List ByteArray × ByteArray
  | 0, s => ([], s)
  | f + 1, s => if s.size < th then ([], s) else (s.extract 0 (cut s) :: (fedF cut th f (s.extract (cut s) s.size)).1, (fedF cut th f (s.extract (cut s) s.size)).2)
/-- The pieces that th bytes are enough for, and the rest. -/
def fed (mn av mx b th : Nat) (s : ByteArray) : List ByteArray × ByteArray := fedF (cutN mn av mx b) th s.size s

theorem fedF_more {cut : ByteArray → Nat} {th : Nat} (h1 : 1 ≤ th) (hc : ∀ s : ByteArray, 0 < s.size → 0 < cut s ∧ cut s ≤ s.size) : ∀ (n f : Nat) (s : ByteArray), s.size ≤ n → s.size ≤ f → fedF cut th f s = fedF cut th s.size s := by
  intro n
  induction n with
  | zero =>
    intro f s hn hf
    have h0 : s.size = 0 := by omega
    rw [h0]
    cases f with
    | zero => rfl
    | succ f => show (if s.size < th then _ else _) = _; rw [if_pos (by omega)]; rfl
  | succ n ih =>
    intro f s hn hf
    by_cases h0 : s.size = 0
    · rw [h0]
      cases f with
      | zero => rfl
      | succ f => show (if s.size < th then _ else _) = _; rw [if_pos (by omega)]; rfl
    · obtain ⟨k, hk⟩ : ∃ k, s.size = k + 1 := ⟨s.size - 1, by omega⟩
      obtain ⟨g, rfl⟩ : ∃ g, f = g + 1 := ⟨f - 1, by omega⟩
      have h2 := hc s (by omega)
      have hsz : (s.extract (cut s) s.size).size = s.size - cut s := by rw [ByteArray.size_extract]; omega
      conv => rhs; rw [hk]
      rw [fedF, fedF, ih g _ (by omega) (by omega), ih k _ (by omega) (by omega)]

theorem fed_stop (mn av mx b th : Nat) (s : ByteArray) (h : s.size < th) : fed mn av mx b th s = ([], s) := by
  unfold fed
  cases hs : s.size with
  | zero => rfl
  | succ k => rw [fedF, if_pos h]
theorem fed_step (mn av mx b th : Nat) (hm : mn ≤ mx) (h1 : 1 ≤ mn) (ht : 1 ≤ th) (s : ByteArray) (h : ¬s.size < th) :
    fed mn av mx b th s = (s.extract 0 (cutN mn av mx b s) :: (fed mn av mx b th (s.extract (cutN mn av mx b s) s.size)).1, (fed mn av mx b th (s.extract (cutN mn av mx b s) s.size)).2) := by
  have hc : ∀ s : ByteArray, 0 < s.size → 0 < cutN mn av mx b s ∧ cutN mn av mx b s ≤ s.size := fun s hs => ⟨cutN_pos _ _ _ _ _ hm h1 hs, by have := cutN_le mn av mx b s; omega⟩
  obtain ⟨k, hk⟩ : ∃ k, s.size = k + 1 := ⟨s.size - 1, by omega⟩
  have h2 := hc s (by omega)
  have hsz : (s.extract (cutN mn av mx b s) s.size).size = s.size - cutN mn av mx b s := by rw [ByteArray.size_extract]; omega
  unfold fed
  conv => lhs; rw [hk]
  rw [fedF, if_neg h, fedF_more ht hc s.size k _ (by omega) (by omega)]

theorem cut_less (mn av mx b : Nat) (hm : mn ≤ mx) (h1 : 1 ≤ mn) (s : ByteArray) (h : 0 < s.size) : (s.extract (cutN mn av mx b s) s.size).size < s.size := by
  have := cutN_pos mn av mx b s hm h1 h
  rw [ByteArray.size_extract]; omega

/-- Less than th bytes are left. -/
theorem fed_rest (mn av mx b th : Nat) (hm : mn ≤ mx) (h1 : 1 ≤ mn) (ht : 1 ≤ th) : ∀ (n : Nat) (s : ByteArray), s.size ≤ n → (fed mn av mx b th s).2.size < th ∧ (fed mn av mx b th s).2.size ≤ s.size ∧ (fed mn av mx b th s).1.length + (fed mn av mx b th s).2.size ≤ s.size := by
  intro n
  induction n with
  | zero => intro s hs; rw [fed_stop _ _ _ _ _ s (by omega)]; exact ⟨by dsimp only; omega, Nat.le_refl _, by simp⟩
  | succ n ih =>
    intro s hs
    by_cases h : s.size < th
    · rw [fed_stop _ _ _ _ _ s h]; exact ⟨h, Nat.le_refl _, by simp⟩
    · have hl := cut_less mn av mx b hm h1 s (by omega)
      rw [fed_step _ _ _ _ _ hm h1 ht s h]
      obtain ⟨a1, a2, a3⟩ := ih (s.extract (cutN mn av mx b s) s.size) (by omega)
      exact ⟨a1, by dsimp only; omega, by simp only [List.length_cons]; omega⟩
/-- Pieces of a text: those that come out, and those of the rest. -/
theorem pcs_fed (mn av mx b th : Nat) (hm : mn ≤ mx) (h1 : 1 ≤ mn) (ht : 1 ≤ th) : ∀ (n : Nat) (s : ByteArray), s.size ≤ n → pcs mn av mx b s = (fed mn av mx b th s).1 ++ pcs mn av mx b (fed mn av mx b th s).2 := by
  intro n
  induction n with
  | zero => intro s hs; rw [fed_stop _ _ _ _ _ s (by omega)]; rfl
  | succ n ih =>
    intro s hs
    by_cases h : s.size < th
    · rw [fed_stop _ _ _ _ _ s h]; rfl
    · have hl := cut_less mn av mx b hm h1 s (by omega)
      rw [fed_step _ _ _ _ _ hm h1 ht s h, pcs_cons _ _ _ _ hm h1 s (by omega), ih (s.extract (cutN mn av mx b s) s.size) (by omega)]
      rfl
/-- One byte is enough: all pieces come. -/
theorem fed_one (mn av mx b : Nat) (hm : mn ≤ mx) (h1 : 1 ≤ mn) (s : ByteArray) : (fed mn av mx b 1 s).1 = pcs mn av mx b s := by
  have hr := (fed_rest mn av mx b 1 hm h1 (Nat.le_refl _) s.size s (Nat.le_refl _)).1
  rw [pcs_fed mn av mx b 1 hm h1 (Nat.le_refl _) s.size s (Nat.le_refl _), pcs_nil _ _ _ _ (fed mn av mx b 1 s).2 (by omega), List.append_nil]
/-- BYTES THAT COME BY PARTS COME TO THE SAME. -/
theorem fed_append (mn av mx b : Nat) (hm : mn ≤ mx) (h1 : 1 ≤ mn) (c : ByteArray) : ∀ (n : Nat) (s : ByteArray), s.size ≤ n →
    fed mn av mx b mx (s ++ c) = ((fed mn av mx b mx s).1 ++ (fed mn av mx b mx ((fed mn av mx b mx s).2 ++ c)).1, (fed mn av mx b mx ((fed mn av mx b mx s).2 ++ c)).2) := by
  intro n
  induction n with
  | zero => intro s hs; rw [fed_stop _ _ _ _ _ s (by omega)]; rfl
  | succ n ih =>
    intro s hs
    by_cases h : s.size < mx
    · rw [fed_stop _ _ _ _ _ s h]; rfl
    · have hl := cut_less mn av mx b hm h1 s (by omega)
      have hle := cutN_le mn av mx b s
      have hc := cutN_append mn av mx b s c hm (.inr (by omega))
      have hsc : ¬(s ++ c).size < mx := by rw [ByteArray.size_append]; omega
      rw [fed_step _ _ _ _ _ hm h1 (by omega) (s ++ c) hsc, fed_step _ _ _ _ _ hm h1 (by omega) s h, hc, extract_append_front s c _ (by omega), extract_append_back s c _ (by omega), ih (s.extract (cutN mn av mx b s) s.size) (by omega)]
      simp only [List.cons_append]
/-- Of a byte more at most one piece comes. -/
theorem fed_byte (mn av mx b : Nat) (hm : mn ≤ mx) (h1 : 1 ≤ mn) (s : ByteArray) (h : s.size ≤ mx) : (fed mn av mx b mx s).1.length ≤ 1 := by
  by_cases hs : s.size < mx
  · rw [fed_stop _ _ _ _ _ s hs]; simp
  · have hl := cut_less mn av mx b hm h1 s (by omega)
    rw [fed_step _ _ _ _ _ hm h1 (by omega) s hs, fed_stop _ _ _ _ _ (s.extract _ _) (by omega)]
    simp

end Go.Proofs.YtkcailgfggbigaaDoor
