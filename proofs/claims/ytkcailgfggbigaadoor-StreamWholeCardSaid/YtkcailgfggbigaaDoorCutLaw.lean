/-
  CUTS AND PIECES: PLAIN LAWS.
-/
import Derived.Test.YtkcailgfggbigaaDoorPcs
namespace Go.Proofs.YtkcailgfggbigaaDoor
open Go.Proofs.Gear
set_option linter.unusedVariables false

theorem least {p : Nat → Prop} (h : ∃ k, p k) : ∃ k, p k ∧ ∀ j, j < k → ¬ p j := by
  obtain ⟨k, hk⟩ := h
  induction k using Nat.strongRecOn with
  | _ k ih =>
    by_cases h : ∃ j, j < k ∧ p j
    · obtain ⟨j, hj, hp⟩ := h
      exact ih j hj hp
    · exact ⟨k, hk, fun j hj hp => h ⟨j, hj, hp⟩⟩

theorem cutN_split (mn av mx b : Nat) (s : ByteArray) :
    (∃ k, k < min s.size mx - mn ∧ (∀ j, j < k → skips av b (mn + j, hashAt s mn j) = true) ∧ skips av b (mn + k, hashAt s mn k) = false ∧ cutN mn av mx b s = mn + k + 1) ∨
    ((∀ j, j < min s.size mx - mn → skips av b (mn + j, hashAt s mn j) = true) ∧ cutN mn av mx b s = min s.size mx) := by
  by_cases h : ∃ k, k < min s.size mx - mn ∧ skips av b (mn + k, hashAt s mn k) = false
  · obtain ⟨k, hk, hm⟩ := least h
    have hb : ∀ j, j < k → skips av b (mn + j, hashAt s mn j) = true := by
      intro j hj
      have := hm j hj
      cases hs : skips av b (mn + j, hashAt s mn j) with
      | true => rfl
      | false => exact absurd ⟨by omega, hs⟩ this
    exact .inl ⟨k, hk.1, hb, hk.2, cutN_at mn av mx b s k hk.1 hb hk.2⟩
  · have hb : ∀ j, j < min s.size mx - mn → skips av b (mn + j, hashAt s mn j) = true := by
      intro j hj
      cases hs : skips av b (mn + j, hashAt s mn j) with
      | true => rfl
      | false => exact absurd ⟨j, hj, hs⟩ h
    exact .inr ⟨hb, cutN_end mn av mx b s hb⟩

theorem hashAt_same (s t : ByteArray) (fr k : Nat) (h : s.data.toList.take (fr + k + 1) = t.data.toList.take (fr + k + 1)) : hashAt s fr k = hashAt t fr k := by
  unfold hashAt
  rw [List.take_drop, List.take_drop, ← Nat.add_assoc, h]

/-- A cut hangs on as many bytes as are looked at. -/
theorem cutN_same (mn av mx b : Nat) (s t : ByteArray) (n : Nat) (hn : n = cutN mn av mx b s) (hs : n < s.size ∨ mx ≤ s.size) (hm : mn ≤ mx) (m : Nat) (hm1 : m ≤ s.size) (hm2 : m ≤ t.size) (hmm : s.size ≤ m ∨ mx ≤ m)
    (he : s.data.toList.take m = t.data.toList.take m) : cutN mn av mx b t = n := by
  have hh : ∀ j, mn + j < m → hashAt s mn j = hashAt t mn j := by
    intro j hj
    apply hashAt_same
    have := congrArg (List.take (mn + j + 1)) he
    rw [List.take_take, List.take_take, Nat.min_eq_left (by omega)] at this
    exact this
  rcases cutN_split mn av mx b s with ⟨k, hk, hb, hp, hc⟩ | ⟨hb, hc⟩
  · rw [hn, hc]
    apply cutN_at mn av mx b t k (by omega)
    · intro j hj; rw [← hh j (by omega)]; exact hb j hj
    · rw [← hh k (by omega)]; exact hp
  · have hmx : mx ≤ s.size := by omega
    rw [cutN_end mn av mx b t (by intro j hj; rw [← hh j (by omega)]; exact hb j (by omega))]
    omega

theorem toList_length (s : ByteArray) : s.data.toList.length = s.size := by simp
theorem toList_append (s t : ByteArray) : (s ++ t).data.toList = s.data.toList ++ t.data.toList := by simp
theorem toList_extract (s : ByteArray) (i j : Nat) : (s.extract i j).data.toList = (s.data.toList.take j).drop i := by
  rw [ByteArray.data_extract, Array.toList_extract, List.extract_eq_take_drop]
  rw [List.drop_take]
theorem bytes_ext {s t : ByteArray} (h : s.data.toList = t.data.toList) : s = t := by
  cases s; cases t; congr 1; exact Array.toList_inj.1 h

/-- Bytes behind do not move a cut that lies inside. -/
theorem cutN_append (mn av mx b : Nat) (a c : ByteArray) (hm : mn ≤ mx) (h : cutN mn av mx b a < a.size ∨ mx ≤ a.size) : cutN mn av mx b (a ++ c) = cutN mn av mx b a := by
  refine cutN_same mn av mx b a (a ++ c) _ rfl h hm a.size (Nat.le_refl _) (by rw [ByteArray.size_append]; omega) (.inl (Nat.le_refl _)) ?_
  rw [toList_append, List.take_left' (toList_length a), List.take_of_length_le (by rw [toList_length]; exact Nat.le_refl _)]
theorem cutN_take (mn av mx b : Nat) (a : ByteArray) (hm : mn ≤ mx) (h : mx ≤ a.size) : cutN mn av mx b (a.extract 0 mx) = cutN mn av mx b a := by
  refine cutN_same mn av mx b a (a.extract 0 mx) _ rfl (.inr h) hm mx h (by rw [ByteArray.size_extract]; omega) (.inr (Nat.le_refl _)) ?_
  rw [toList_extract, List.drop_zero, List.take_take, Nat.min_self]

theorem extract_append_front (a c : ByteArray) (n : Nat) (h : n ≤ a.size) : (a ++ c).extract 0 n = a.extract 0 n := by
  apply bytes_ext
  rw [toList_extract, toList_extract, toList_append, List.take_append_of_le_length (by rw [toList_length]; exact h)]
theorem extract_append_back (a c : ByteArray) (n : Nat) (h : n ≤ a.size) : (a ++ c).extract n (a ++ c).size = a.extract n a.size ++ c := by
  apply bytes_ext
  rw [toList_append, toList_extract, toList_extract, toList_append, List.take_of_length_le (by rw [List.length_append, toList_length, toList_length, ByteArray.size_append]; exact Nat.le_refl _), List.take_of_length_le (by rw [toList_length]; exact Nat.le_refl _), List.drop_append_of_le_length (by rw [toList_length]; exact h)]

/-- BYTES BEHIND CHANGE NO PIECE BUT THE LAST. -/
theorem pcs_ahead (mn av mx b : Nat) (hm : mn ≤ mx) (h1 : 1 ≤ mn) (c : ByteArray) : ∀ (n : Nat) (a : ByteArray), a.size ≤ n →
    (pcs mn av mx b a).length ≤ (pcs mn av mx b (a ++ c)).length ∧ ∀ i, i + 1 < (pcs mn av mx b a).length → (pcs mn av mx b a)[i]? = (pcs mn av mx b (a ++ c))[i]? := by
  intro n
  induction n with
  | zero => intro a ha; rw [pcs_nil _ _ _ _ a (by omega)]; exact ⟨Nat.zero_le _, by intro i hi; simp at hi⟩
  | succ n ih =>
    intro a ha
    by_cases h0 : a.size = 0
    · rw [pcs_nil _ _ _ _ a h0]; exact ⟨Nat.zero_le _, by intro i hi; simp at hi⟩
    · have hp := cutN_pos mn av mx b a hm h1 (by omega)
      have hle := cutN_le mn av mx b a
      have hac : 0 < (a ++ c).size := by rw [ByteArray.size_append]; omega
      by_cases hlt : cutN mn av mx b a < a.size
      · have hc := cutN_append mn av mx b a c hm (.inl hlt)
        rw [pcs_cons _ _ _ _ hm h1 a (by omega), pcs_cons _ _ _ _ hm h1 (a ++ c) hac, hc, extract_append_front a c _ (by omega), extract_append_back a c _ (by omega)]
        obtain ⟨h2, h3⟩ := ih (a.extract (cutN mn av mx b a) a.size) (by rw [ByteArray.size_extract]; omega)
        refine ⟨by simp only [List.length_cons]; omega, ?_⟩
        intro i hi
        cases i with
        | zero => rfl
        | succ i => simp only [List.getElem?_cons_succ]; exact h3 i (by simp only [List.length_cons] at hi; omega)
      · rw [pcs_cons _ _ _ _ hm h1 a (by omega), pcs_nil _ _ _ _ (a.extract _ _) (by rw [ByteArray.size_extract]; omega), pcs_cons _ _ _ _ hm h1 (a ++ c) hac]
        exact ⟨by simp, by intro i hi; simp at hi⟩

end Go.Proofs.YtkcailgfggbigaaDoor
