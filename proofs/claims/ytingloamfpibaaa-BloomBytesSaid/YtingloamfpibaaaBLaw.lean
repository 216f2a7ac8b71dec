/-
  THE PLAIN LAW OF SIEVES: bits, how many are set, joined sieves.
-/
import Derived.Test.YtingloamfpibaaaBSieve
namespace Go.Proofs.Ytingloamfpibaaa
open Go.RowKit Go.Proofs.Mem
set_option linter.unusedVariables false

/-- Is a bit set? -/
def bit (d : ByteArray) (p : Nat) : Bool := (byteAt d (p / 8)).testBit (p % 8)
theorem bitAt_bit (d : ByteArray) (p : Nat) : (bitAt d p != 0) = bit d p := by
  unfold bitAt bit
  rw [Nat.testBit_eq_decide_div_mod_eq]
  have := Nat.mod_lt (byteAt d (p / 8) / 2 ^ (p % 8)) (show 0 < 2 by decide)
  generalize byteAt d (p / 8) / 2 ^ (p % 8) % 2 = m at *
  rcases (by omega : m = 0 ∨ m = 1) with rfl | rfl <;> rfl
theorem hits_bit (d : ByteArray) (p : Nat) : hits d (p / 8, 2 ^ (p % 8)) = bit d p := by
  unfold hits bit
  dsimp only
  generalize byteAt d (p / 8) = a
  generalize p % 8 = r
  cases h : a.testBit r with
  | false =>
    have h0 : a &&& 2 ^ r = 0 := by
      apply Nat.eq_of_testBit_eq
      intro i
      rw [Nat.testBit_and, Nat.zero_testBit, Nat.testBit_two_pow]
      by_cases e : r = i
      · subst e; rw [h, Bool.false_and]
      · rw [decide_eq_false e, Bool.and_false]
    rw [h0]
    rfl
  | true =>
    have h0 : (a &&& 2 ^ r == 0) = false := by
      refine beq_eq_false_iff_ne.2 fun e => ?_
      have h1 : (a &&& 2 ^ r).testBit r = true := by rw [Nat.testBit_and, Nat.testBit_two_pow, h, decide_eq_true rfl]; rfl
      rw [e, Nat.zero_testBit] at h1
      cases h1
    rw [h0]
    rfl
theorem hasB_bit (key : ByteArray) (B H : Nat) (d : ByteArray) : hasB key B H d = (decide (key.size = 32) && (places key B H).all (bit d)) := by
  unfold hasB
  congr 1
  exact List.all_congr rfl fun p => bitAt_bit d p
theorem hasF_bit (key : ByteArray) (B H : Nat) (d : ByteArray) : hasF key B H d = (decide (key.size = 32) && (places key B H).all (bit d)) := by
  unfold hasF marksL
  by_cases hk : key.size = 32
  · rw [if_pos hk, List.all_map]
    congr 1
    exact List.all_congr rfl fun p => hits_bit d p
  · rw [decide_eq_false hk]
    rfl
theorem hasF_hasB (key : ByteArray) (B H : Nat) (d : ByteArray) : hasF key B H d = hasB key B H d := by rw [hasF_bit, hasB_bit]

theorem bit_orBit (d : ByteArray) (p q : Nat) (hp : p / 8 < d.size) : bit (orBit d p) q = (bit d q || decide (p = q)) := by
  unfold bit
  rw [byteAt_orBit d p _ hp]
  by_cases h : q / 8 = p / 8
  · rw [if_pos h, Nat.testBit_or, Nat.testBit_two_pow, h]
    congr 1
    exact decide_eq_decide.2 ⟨fun e => by omega, fun e => by rw [e]⟩
  · rw [if_neg h, decide_eq_false (by intro e; exact h (by rw [e])), Bool.or_false]
theorem places_lt (key : ByteArray) (B H : Nat) (hB : 0 < B) : ∀ p ∈ places key B H, p < B := by
  intro p hp
  unfold places at hp
  obtain ⟨k, _, rfl⟩ := List.mem_map.1 hp
  exact Nat.mod_lt _ hB
theorem bit_fold (l : List Nat) (d : ByteArray) (q : Nat) (h : ∀ p ∈ l, p / 8 < d.size) : bit (l.foldl orBit d) q = (bit d q || decide (q ∈ l)) := by
  induction l generalizing d with
  | nil => simp
  | cons p l ih =>
    rw [List.foldl_cons, ih _ (fun x hx => by rw [orBit_size]; exact h x (List.mem_cons_of_mem _ hx)), bit_orBit _ _ _ (h p List.mem_cons_self), Bool.or_assoc]
    congr 1
    by_cases e : p = q
    · subst e; simp
    · have e2 : ¬q = p := fun h => e h.symm
      simp [e, e2]
theorem bit_addB (key : ByteArray) (B H : Nat) (d : ByteArray) (q : Nat) (hB : 0 < B) (hd : d.size * 8 = B) : bit (addB key B H d) q = (bit d q || decide (q ∈ places key B H)) :=
  bit_fold _ _ _ fun p hp => by have := places_lt key B H hB p hp; omega
theorem addF_size (key : ByteArray) (B H : Nat) (d : ByteArray) : (addF key B H d).size = d.size := by
  unfold addF
  split
  · exact addB_size _ _ _ _
  · rfl
/-- What was added may be there. -/
theorem added_has (key : ByteArray) (B H : Nat) (d : ByteArray) (hB : 0 < B) (hd : d.size * 8 = B) (hk : key.size = 32) : hasF key B H (addF key B H d) = true := by
  rw [hasF_bit, decide_eq_true hk, Bool.true_and, List.all_eq_true]
  intro p hp
  unfold addF
  rw [if_pos hk, bit_addB _ _ _ _ _ hB hd, decide_eq_true hp, Bool.or_true]
theorem bit_addF_mono (key : ByteArray) (B H : Nat) (d : ByteArray) (q : Nat) (hB : 0 < B) (hd : d.size * 8 = B) (h : bit d q = true) : bit (addF key B H d) q = true := by
  unfold addF
  split
  · rw [bit_addB _ _ _ _ _ hB hd, h, Bool.true_or]
  · exact h
/-- More bits miss no key. -/
theorem has_mono (key : ByteArray) (B H : Nat) (d d' : ByteArray) (hm : ∀ q, bit d q = true → bit d' q = true) (h : hasF key B H d = true) : hasF key B H d' = true := by
  rw [hasF_bit, Bool.and_eq_true, List.all_eq_true] at *
  exact ⟨h.1, fun p hp => hm p (h.2 p hp)⟩
theorem hasF_no (key : ByteArray) (B H : Nat) (d : ByteArray) (hk : key.size ≠ 32) : hasF key B H d = false := by
  rw [hasF_bit, decide_eq_false hk, Bool.false_and]
theorem bit_zeros (n q : Nat) : bit (zerosB n) q = false := by
  unfold bit
  rw [byteAt_zeros, Nat.zero_testBit]
theorem hasF_zeros (key : ByteArray) (B H n : Nat) (hH : 1 ≤ H) : hasF key B H (zerosB n) = false := by
  rw [hasF_bit]
  by_cases hk : key.size = 32
  · rw [decide_eq_true hk, Bool.true_and, List.all_eq_false]
    refine ⟨placeN key B 0, ?_, by rw [bit_zeros]; decide⟩
    unfold places
    exact List.mem_map.2 ⟨0, List.mem_range.2 (by omega), rfl⟩
  · rw [decide_eq_false hk, Bool.false_and]
/-- All keys added. -/
def adds (B H : Nat) (l : List ByteArray) (d : ByteArray) : ByteArray := l.foldl (fun d k => addF k B H d) d
theorem adds_snoc (B H : Nat) (l : List ByteArray) (k : ByteArray) (d : ByteArray) : adds B H (l ++ [k]) d = addF k B H (adds B H l d) := by
  unfold adds; rw [List.foldl_append]; rfl
theorem adds_size (B H : Nat) (l : List ByteArray) (d : ByteArray) : (adds B H l d).size = d.size := by
  unfold adds
  induction l generalizing d with
  | nil => rfl
  | cons k l ih => rw [List.foldl_cons, ih, addF_size]
theorem adds_mono (B H : Nat) (l : List ByteArray) (d : ByteArray) (q : Nat) (hB : 0 < B) (hd : d.size * 8 = B) (h : bit d q = true) : bit (adds B H l d) q = true := by
  unfold adds
  induction l generalizing d with
  | nil => exact h
  | cons k l ih => rw [List.foldl_cons]; exact ih _ (by rw [addF_size]; exact hd) (bit_addF_mono _ _ _ _ _ hB hd h)
theorem adds_has (B H : Nat) (l : List ByteArray) (d : ByteArray) (k : ByteArray) (hB : 0 < B) (hd : d.size * 8 = B) (hk : k.size = 32) (hm : k ∈ l) : hasF k B H (adds B H l d) = true := by
  induction l generalizing d with
  | nil => cases hm
  | cons x l ih =>
    show hasF k B H (adds B H l (addF x B H d)) = true
    have hd' : (addF x B H d).size * 8 = B := by rw [addF_size]; exact hd
    rcases List.mem_cons.1 hm with rfl | h
    · exact has_mono k B H _ _ (fun q => adds_mono B H l _ q hB hd') (added_has k B H d hB hd hk)
    · exact ih _ hd' h

/-- One bit of a byte more. -/
theorem ones_bit : ∀ (a : Fin 256) (r : Fin 8), Lib.onesCount a.val ≤ Lib.onesCount (a.val ||| 2 ^ r.val) ∧ Lib.onesCount (a.val ||| 2 ^ r.val) ≤ Lib.onesCount a.val + 1 := by decide +kernel
theorem onesK_orBit (d : ByteArray) (p : Nat) (hp : p / 8 < d.size) (k : Nat) : onesK d k ≤ onesK (orBit d p) k ∧ onesK (orBit d p) k ≤ onesK d k + (if p / 8 < k then 1 else 0) := by
  induction k with
  | zero => simp [onesK]
  | succ k ih =>
    simp only [onesK]
    rw [byteAt_orBit d p k hp]
    by_cases hk : k = p / 8
    · have h := ones_bit ⟨byteAt d (p / 8), byteAt_lt _ _⟩ ⟨p % 8, Nat.mod_lt _ (by decide)⟩
      dsimp only at h
      rw [if_pos hk, if_pos (by omega)]
      rw [if_neg (by omega)] at ih
      subst hk
      omega
    · rw [if_neg hk]
      split at ih
      · rw [if_pos (by omega)]; omega
      · rw [if_neg (by omega)]; omega
theorem ones_orBit (d : ByteArray) (p : Nat) (hp : p / 8 < d.size) : onesB d ≤ onesB (orBit d p) ∧ onesB (orBit d p) ≤ onesB d + 1 := by
  have h := onesK_orBit d p hp d.size
  unfold onesB
  rw [orBit_size]
  rw [if_pos hp] at h
  exact h
theorem ones_fold (l : List Nat) (d : ByteArray) (h : ∀ p ∈ l, p / 8 < d.size) : onesB d ≤ onesB (l.foldl orBit d) ∧ onesB (l.foldl orBit d) ≤ onesB d + l.length := by
  induction l generalizing d with
  | nil => simp
  | cons p l ih =>
    have h1 := ones_orBit d p (h p List.mem_cons_self)
    have h2 := ih (orBit d p) (fun x hx => by rw [orBit_size]; exact h x (List.mem_cons_of_mem _ hx))
    rw [List.foldl_cons, List.length_cons]
    omega
/-- A key sets no more bits than hashes. -/
theorem ones_addF (key : ByteArray) (B H : Nat) (d : ByteArray) (hB : 0 < B) (hd : d.size * 8 = B) : onesB d ≤ onesB (addF key B H d) ∧ onesB (addF key B H d) ≤ onesB d + H ∧ (key.size ≠ 32 → onesB (addF key B H d) = onesB d) := by
  unfold addF
  split
  · rename_i hk
    have h := ones_fold (places key B H) d (fun p hp => by have := places_lt key B H hB p hp; omega)
    have hl : (places key B H).length = H := by simp [places]
    rw [hl] at h
    exact ⟨h.1, h.2, fun e => absurd hk e⟩
  · exact ⟨Nat.le_refl _, by omega, fun _ => rfl⟩
theorem ones_zeros (n : Nat) : onesB (zerosB n) = 0 := by
  unfold onesB
  have : ∀ k, onesK (zerosB n) k = 0 := by
    intro k
    induction k with
    | zero => rfl
    | succ k ih =>
      simp only [onesK]
      rw [ih, byteAt_zeros]
      rfl
  exact this _

theorem ba_ext {a b : ByteArray} (hs : a.size = b.size) (h : ∀ j, byteAt a j = byteAt b j) : a = b := by
  apply ByteArray.ext
  apply Array.ext
  · exact hs
  · intro i h1 h2
    have := h i
    rw [byteAt_eq a i h1, byteAt_eq b i h2] at this
    exact UInt8.toNat_inj.1 this
theorem byteAt_orM (d : ByteArray) (i b j : Nat) (hi : i < d.size) (hb : b < 256) : byteAt (orM d (i, b)) j = if j = i then byteAt d i ||| b else byteAt d j := by
  have hsz := orM_size d (i, b)
  have hor : byteAt d i ||| b < 256 := Nat.or_lt_two_pow (n := 8) (byteAt_lt _ _) hb
  by_cases hj : j < d.size
  · rw [byteAt_eq _ _ (by omega), byteAt_eq _ _ hj]
    show ((d.data.setIfInBounds i (UInt8.ofNat (byteAt d i ||| b)))[j]'(by simpa using hj)).toNat = _
    rw [Array.getElem_setIfInBounds]
    split
    · rename_i h
      rw [if_pos h.symm, UInt8.toNat_ofNat']
      omega
    · rename_i h
      rw [if_neg (fun e => h e.symm)]
      rfl
  · have h1 : byteAt (orM d (i, b)) j = 0 := by unfold byteAt; rw [dif_neg (by omega)]
    have h2 : byteAt d j = 0 := by unfold byteAt; rw [dif_neg hj]
    rw [h1, h2, if_neg (by omega)]
theorem byteAt_joinK (a b : ByteArray) (k : Nat) (hk : k ≤ a.size) (j : Nat) : byteAt (joinK b k a) j = if j < k then byteAt a j ||| byteAt b j else byteAt a j := by
  induction k with
  | zero => rw [if_neg (by omega)]; rfl
  | succ k ih =>
    have ih := ih (by omega)
    rw [joinK_succ, byteAt_orM _ _ _ _ (by rw [joinK_size]; omega) (byteAt_lt _ _)]
    by_cases hj : j = k
    · subst hj
      have e : byteAt (joinK b j a) j = byteAt a j := by rw [ih, if_neg (by omega)]
      rw [if_pos rfl, if_pos (by omega), e]
    · rw [if_neg hj, ih]
      by_cases h : j < k
      · rw [if_pos h, if_pos (by omega)]
      · rw [if_neg h, if_neg (by omega)]
theorem byteAt_joinB (a b : ByteArray) (hs : b.size = a.size) (j : Nat) : byteAt (joinB a b) j = byteAt a j ||| byteAt b j := by
  unfold joinB
  rw [byteAt_joinK _ _ _ (Nat.le_refl _)]
  split
  · rfl
  · rename_i h
    have h1 : byteAt a j = 0 := by unfold byteAt; rw [dif_neg h]
    have h2 : byteAt b j = 0 := by unfold byteAt; rw [dif_neg (by omega)]
    rw [h1, h2]
    rfl
theorem joinB_comm (a b : ByteArray) (hs : b.size = a.size) : joinB a b = joinB b a := by
  refine ba_ext ?_ fun j => ?_
  · unfold joinB; rw [joinK_size, joinK_size, hs]
  · rw [byteAt_joinB a b hs, byteAt_joinB b a hs.symm, Nat.or_comm]
theorem bit_joinB (a b : ByteArray) (hs : b.size = a.size) (q : Nat) : bit (joinB a b) q = (bit a q || bit b q) := by
  unfold bit
  rw [byteAt_joinB a b hs, Nat.testBit_or]
theorem has_join (key : ByteArray) (B H : Nat) (a b : ByteArray) (hs : b.size = a.size) (h : hasF key B H a = true ∨ hasF key B H b = true) : hasF key B H (joinB a b) = true := by
  rcases h with h | h
  · exact has_mono key B H a _ (fun q hq => by rw [bit_joinB a b hs, hq, Bool.true_or]) h
  · exact has_mono key B H b _ (fun q hq => by rw [bit_joinB a b hs, hq, Bool.or_true]) h
theorem parted_len (g : ByteArray → Bool) (l : List ByteArray) (k : Nat) : (outK g l k).length + (inK g l k).length = (l.take k).length := by
  unfold outK inK
  generalize l.take k = m
  induction m with
  | nil => rfl
  | cons x m ih => cases h : g x <;> simp [h] <;> omega
end Go.Proofs.Ytingloamfpibaaa
