/-
  Plain laws: the order of keys; what rises; an index's bytes and its slots.
-/
import Derived.Test.YtjjenpklcbpkmaaIFnd
namespace Go.Proofs.Ytjjenpklcbpkmaa
open Go.RowKit Go.Proofs.Mem
set_option linter.unusedVariables false

theorem bl_irrefl : ∀ a : List UInt8, Op.bytesLess a a = false
  | [] => rfl
  | a :: l => by
    unfold Op.bytesLess
    rw [bl_irrefl l]
    simp
theorem bl_trans : ∀ {a b c : List UInt8}, Op.bytesLess a b = true → Op.bytesLess b c = true → Op.bytesLess a c = true
  | [], [], _, h, _ => by simp [Op.bytesLess] at h
  | [], _ :: _, [], _, h => by simp [Op.bytesLess] at h
  | [], _ :: _, _ :: _, _, _ => rfl
  | _ :: _, [], _, h, _ => by simp [Op.bytesLess] at h
  | _ :: _, _ :: _, [], _, h => by simp [Op.bytesLess] at h
  | a :: x, b :: y, c :: z, h1, h2 => by
    unfold Op.bytesLess at *
    rw [Bool.or_eq_true, Bool.and_eq_true, decide_eq_true_eq, beq_iff_eq] at *
    rcases h1 with h1 | ⟨rfl, h1⟩
    · rcases h2 with h2 | ⟨rfl, h2⟩
      · exact .inl (UInt8.lt_trans h1 h2)
      · exact .inl h1
    · rcases h2 with h2 | ⟨rfl, h2⟩
      · exact .inl h2
      · exact .inr ⟨rfl, bl_trans h1 h2⟩
theorem bl_tri : ∀ {a b : List UInt8}, Op.bytesLess a b = false → Op.bytesLess b a = false → a = b
  | [], [], _, _ => rfl
  | [], _ :: _, h, _ => by simp [Op.bytesLess] at h
  | _ :: _, [], _, h => by simp [Op.bytesLess] at h
  | a :: x, b :: y, h1, h2 => by
    unfold Op.bytesLess at *
    rw [Bool.or_eq_false_iff, Bool.and_eq_false_iff, decide_eq_false_iff_not, beq_eq_false_iff_ne] at *
    have hab : a = b := UInt8.le_antisymm (UInt8.not_lt.1 h2.1) (UInt8.not_lt.1 h1.1)
    subst hab
    rw [bl_tri (h1.2.resolve_left (fun h => h rfl)) (h2.2.resolve_left (fun h => h rfl))]

theorem ltB_irrefl (a : ByteArray) : ltB a a = false := bl_irrefl _
theorem ltB_trans {a b c : ByteArray} (h : ltB a b = true) (k : ltB b c = true) : ltB a c = true := bl_trans h k
theorem ltB_tri {a b : ByteArray} (h : ltB a b = false) (k : ltB b a = false) : a = b := bytes_of_list (bl_tri h k)
theorem ltB_asymm {a b : ByteArray} (h : ltB a b = true) : ltB b a = false := by
  cases hb : ltB b a with
  | false => rfl
  | true => have := ltB_trans h hb; rw [ltB_irrefl] at this; cases this
theorem ltB_ne {a b : ByteArray} (h : ltB a b = true) : a ≠ b := fun e => by rw [e, ltB_irrefl] at h; cases h

theorem head_toList {a : ByteArray} (h : 0 < a.size) : ∃ t, a.toList = (a[0]'h) :: t := by
  rw [Lib.toList_data]
  obtain ⟨⟨l⟩⟩ := a
  cases l with
  | nil => exact absurd h (Nat.lt_irrefl 0)
  | cons x t => exact ⟨t, rfl⟩
theorem ltB_head {a b : ByteArray} (ha : 0 < a.size) (hb : 0 < b.size) (h : ltB a b = true) : byteAt a 0 ≤ byteAt b 0 := by
  obtain ⟨x, hx⟩ := head_toList ha
  obtain ⟨y, hy⟩ := head_toList hb
  unfold ltB at h
  rw [hx, hy] at h
  unfold Op.bytesLess at h
  rw [byteAt_eq ha, byteAt_eq hb]
  rw [Bool.or_eq_true, Bool.and_eq_true, decide_eq_true_eq, beq_iff_eq] at h
  rcases h with h | ⟨h, _⟩
  · exact Nat.le_of_lt h
  · rw [h]; exact Nat.le_refl _
theorem ltB_of_head {a b : ByteArray} (ha : 0 < a.size) (hb : 0 < b.size) (h : byteAt a 0 < byteAt b 0) : ltB a b = true := by
  obtain ⟨x, hx⟩ := head_toList ha
  obtain ⟨y, hy⟩ := head_toList hb
  unfold ltB
  rw [hx, hy]
  unfold Op.bytesLess
  rw [byteAt_eq ha, byteAt_eq hb] at h
  rw [Bool.or_eq_true, decide_eq_true_eq]
  exact .inl h

/-- What holds of a first part alone. -/
theorem cnt_iff {p : Slt → Bool} : ∀ {l : List Slt}, (∀ (i j : Nat) (x y : Slt), i ≤ j → l[i]? = some x → l[j]? = some y → p y = true → p x = true) → ∀ {i : Nat} {x : Slt}, l[i]? = some x → (i < l.countP p ↔ p x = true)
  | [], _, i, x, hx => by simp at hx
  | y :: l, h, i, x, hx => by
    have hl : ∀ (i j : Nat) (x y : Slt), i ≤ j → l[i]? = some x → l[j]? = some y → p y = true → p x = true := fun i j a b hij ha hb hp => h (i + 1) (j + 1) a b (by omega) (by simpa using ha) (by simpa using hb) hp
    rw [List.countP_cons]
    cases hy : p y with
    | false =>
      have hz : l.countP p = 0 := by
        rw [List.countP_eq_zero]
        intro a ha hpa
        obtain ⟨j, hj, rfl⟩ := List.getElem_of_mem ha
        have := h 0 (j + 1) y l[j] (by omega) rfl (by simp [hj]) hpa
        rw [hy] at this
        cases this
      rw [hz]
      simp only [Bool.false_eq_true, if_false, Nat.zero_add, Nat.not_lt_zero, false_iff]
      intro hp
      have := h 0 i y x (by omega) rfl hx hp
      rw [hy] at this
      cases this
    | true =>
      simp only [if_true]
      cases i with
      | zero =>
        simp at hx
        subst hx
        rw [hy]
        simp
      | succ i =>
        have := cnt_iff hl (i := i) (x := x) (by simpa using hx)
        rw [← this]
        omega

/-- The keys of a list rise. -/
def Rises (l : List Slt) : Prop := ∀ (i j : Nat) (x y : Slt), i < j → l[i]? = some x → l[j]? = some y → ltB x.k y.k = true
theorem rises_step {l : List Slt} (h : ∀ (i : Nat) (x y : Slt), l[i]? = some x → l[i + 1]? = some y → ltB x.k y.k = true) : Rises l := by
  intro i j x y hij hx hy
  obtain ⟨d, rfl⟩ : ∃ d, j = i + 1 + d := ⟨j - (i + 1), by omega⟩
  clear hij
  induction d generalizing y with
  | zero => exact h i x y hx hy
  | succ d ih =>
    have hlt : i + 1 + d < l.length := by
      rcases Nat.lt_or_ge (i + 1 + d) l.length with h' | h'
      · exact h'
      · rw [List.getElem?_eq_none (by omega)] at hy; cases hy
    exact ltB_trans (ih l[i + 1 + d] (List.getElem?_eq_getElem hlt)) (h (i + 1 + d) _ y (List.getElem?_eq_getElem hlt) hy)
theorem fit_rises {l : List Slt} (h : fitP l = true) : Rises l := by
  refine rises_step fun i x y hx hy => ?_
  unfold fitP fitL at h
  rw [Bool.and_eq_true, List.all_eq_true] at h
  have hlt : i + 1 < l.length := by
    rcases Nat.lt_or_ge (i + 1) l.length with h' | h'
    · exact h'
    · rw [List.getElem?_eq_none h'] at hy; cases hy
  have := h.2 (i + 1) (List.mem_range.2 hlt)
  unfold fitAt at this
  rw [hy] at this
  simp only [Bool.and_eq_true, Bool.or_eq_true, decide_eq_true_eq, Nat.add_sub_cancel, hx] at this
  rcases this.1.1.2 with h0 | h0
  · omega
  · exact h0
theorem rises_le {l : List Slt} (h : Rises l) {i j : Nat} {x y : Slt} (hij : i ≤ j) (hx : l[i]? = some x) (hy : l[j]? = some y) : x = y ∨ ltB x.k y.k = true := by
  rcases Nat.lt_or_eq_of_le hij with h' | rfl
  · exact .inr (h i j x y h' hx hy)
  · rw [hx] at hy
    exact .inl (Option.some.inj hy)

/-- How many keys are below some bytes. -/
def firstN (l : List Slt) (k : ByteArray) : Nat := l.countP fun x => ltB x.k k
theorem first_iff {l : List Slt} (h : Rises l) (k : ByteArray) {i : Nat} {x : Slt} (hx : l[i]? = some x) : i < firstN l k ↔ ltB x.k k = true := by
  refine cnt_iff (p := fun x => ltB x.k k) (fun i j x y hij hx hy hp => ?_) hx
  rcases rises_le h hij hx hy with rfl | h'
  · exact hp
  · exact ltB_trans h' hp
theorem fan_iff {l : List Slt} (h : Rises l) (h32 : ∀ x ∈ l, x.k.size = 32) (b : Nat) {i : Nat} {x : Slt} (hx : l[i]? = some x) : i < fanN l b ↔ byteAt x.k 0 ≤ b := by
  have := cnt_iff (p := fun x => decide (byteAt x.k 0 ≤ b)) (l := l) (fun i j x y hij hx hy hp => by
    rcases rises_le h hij hx hy with rfl | h'
    · exact hp
    · have h1 := h32 x (List.mem_of_getElem? hx)
      have h2 := h32 y (List.mem_of_getElem? hy)
      have := ltB_head (by omega) (by omega) h'
      simp only [decide_eq_true_eq] at hp ⊢
      omega) hx
  rw [decide_eq_true_eq] at this
  exact this

theorem code_zero {s : ByteArray} (h : codeOf s = 0) : fitP (slotsOf s) = true ∧ writeB (slotsOf s) = s := by
  have hge := code_ge h
  unfold codeOf at h
  rw [if_neg (by omega)] at h
  split at h
  · cases h
  · split at h
    · cases h
    · split at h
      · cases h
      · rename_i hw
        have hw' : writeB (slotsOf s) = s := Classical.byContradiction hw
        refine ⟨?_, hw'⟩
        cases hf : fitP (slotsOf s) with
        | true => rfl
        | false =>
          unfold writeB at hw'
          rw [hf] at hw'
          have : s.size = 0 := by rw [← hw']; rfl
          omega

end Go.Proofs.Ytjjenpklcbpkmaa
