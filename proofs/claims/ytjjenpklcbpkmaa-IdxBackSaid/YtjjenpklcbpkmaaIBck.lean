/-
  Plain laws of IdxBack: an index's bytes are read as their slots; two in one; what is found; what begins alike.
-/
import Derived.Test.YtjjenpklcbpkmaaIRMgi
import Derived.Test.YtjjenpklcbpkmaaIRSht
namespace Go.Proofs.Ytjjenpklcbpkmaa
open Go.RowKit Go.Proofs.Mem
set_option linter.unusedVariables false

theorem extract_list (s : ByteArray) (a b : Nat) : (s.extract a b).data.toList = (s.data.toList.drop a).take (b - a) := by
  rw [ByteArray.data_extract, Array.toList_extract, List.extract_eq_take_drop]
theorem extract_is {s k : ByteArray} {a b : Nat} (h : (s.data.toList.drop a).take (b - a) = k.data.toList) : s.extract a b = k := by
  apply ByteArray.ext
  apply Array.toList_inj.1
  rw [extract_list, h]

theorem fit_32 {l : List Slt} (h : fitP l = true) : ∀ x ∈ l, x.k.size = 32 := fun x hx => (fit_at h hx).1
theorem body_len {l : List Slt} (h : fitP l = true) : (bodyL l).length = 1028 + 40 * l.length := by
  unfold bodyL
  rw [List.length_append, List.length_append, fansL_len, entsL_len l (fit_32 h)]
  show 4 + 4 * 256 + _ = _
  omega
theorem write_size {l : List Slt} (h : fitP l = true) : (writeB l).size = 1032 + 40 * l.length := by
  unfold writeB
  rw [if_pos h, ByteArray.size_append, crcB_size]
  show (bodyL l).length + 4 = _
  rw [body_len h]
  omega
theorem write_list {l : List Slt} (h : fitP l = true) : (writeB l).data.toList = bodyL l ++ crcL (crcN (bodyB l)) := by
  unfold writeB
  rw [if_pos h, ByteArray.data_append, Array.toList_append]
  rfl
theorem ents_at : ∀ {l : List Slt} (h : ∀ x ∈ l, x.k.size = 32) {i j : Nat} {x : Slt}, l[i]? = some x → j < 40 → (entsL l)[40 * i + j]? = (entL x)[j]?
  | [], _, i, j, x, hx, _ => by simp at hx
  | y :: l, h, i, j, x, hx, hj => by
    have hy := entL_len y (h y List.mem_cons_self)
    show (entL y ++ entsL l)[40 * i + j]? = _
    cases i with
    | zero =>
      simp at hx
      subst hx
      rw [Nat.mul_zero, Nat.zero_add, List.getElem?_append_left (by omega)]
    | succ i =>
      rw [List.getElem?_append_right (by omega), hy, show 40 * (i + 1) + j - 40 = 40 * i + j by omega]
      exact ents_at (fun z hz => h z (List.mem_cons_of_mem _ hz)) (by simpa using hx) hj
theorem write_at {l : List Slt} (h : fitP l = true) {i j : Nat} {x : Slt} (hx : l[i]? = some x) (hj : j < 40) : (writeB l).data.toList[1028 + i * 40 + j]? = (entL x)[j]? := by
  have hil : i < l.length := by
    rcases Nat.lt_or_ge i l.length with h' | h'
    · exact h'
    · rw [List.getElem?_eq_none h'] at hx; cases hx
  rw [writeB_toList h, List.getElem?_append_right (by show 4 ≤ _; omega), List.getElem?_append_right (by rw [fansL_len]; show 4 * 256 ≤ _ - 4; omega), List.getElem?_append_left (by rw [fansL_len, entsL_len l (fit_32 h)]; show _ - 4 - 4 * 256 < _; omega), fansL_len]
  show (entsL l)[1028 + i * 40 + j - 4 - 4 * 256]? = _
  rw [show 1028 + i * 40 + j - 4 - 4 * 256 = 40 * i + j by omega]
  exact ents_at (fit_32 h) hx hj
theorem entL_key {x : Slt} (h : x.k.size = 32) {j : Nat} (hj : j < 32) : (entL x)[j]? = x.k.data.toList[j]? := by
  have hl : x.k.data.toList.length = 32 := by rw [Array.length_toList]; exact h
  unfold entL
  rw [List.append_assoc, List.getElem?_append_left (by omega)]
theorem entL_a {x : Slt} (h : x.k.size = 32) {j : Nat} (hj : j < 4) : (entL x)[32 + j]? = (wordL x.a.toNat)[j]? := by
  have hl : x.k.data.toList.length = 32 := by rw [Array.length_toList]; exact h
  unfold entL
  rw [List.append_assoc, List.getElem?_append_right (by omega), hl, Nat.add_sub_cancel_left, List.getElem?_append_left (by rw [wordL_len]; exact hj)]
theorem entL_s {x : Slt} (h : x.k.size = 32) {j : Nat} (hj : j < 4) : (entL x)[36 + j]? = (wordL x.s.toNat)[j]? := by
  have hl : x.k.data.toList.length = 32 := by rw [Array.length_toList]; exact h
  unfold entL
  rw [List.getElem?_append_right (by rw [List.length_append, wordL_len]; omega), List.length_append, wordL_len, hl, Nat.add_sub_cancel_left]
theorem slot_back {l : List Slt} (h : fitP l = true) {i : Nat} {x : Slt} (hx : l[i]? = some x) : slotAt (writeB l) (1028 + i * 40) = x := by
  obtain ⟨h32, ha, hs⟩ := fit_at h (List.mem_of_getElem? hx)
  have hil : i < l.length := by
    rcases Nat.lt_or_ge i l.length with h' | h'
    · exact h'
    · rw [List.getElem?_eq_none h'] at hx; cases hx
  have e1 : (writeB l).extract (1028 + i * 40) (1028 + i * 40 + 32) = x.k := by
    apply extract_is
    refine List.ext_getElem? fun j => ?_
    rw [List.getElem?_take, Nat.add_sub_cancel_left, List.getElem?_drop]
    split
    · rename_i hj
      rw [write_at h hx (by omega), entL_key h32 hj]
    · rename_i hj
      rw [List.getElem?_eq_none (by rw [Array.length_toList]; show x.k.size ≤ j; omega)]
  have e2 : numAt (writeB l) (1028 + i * 40 + 32) = x.a.toNat := by
    refine word_at (by have := ha.2; omega) fun j hj => ?_
    rw [show 1028 + i * 40 + 32 + j = 1028 + i * 40 + (32 + j) by omega, write_at h hx (by omega), entL_a h32 hj]
  have e3 : numAt (writeB l) (1028 + i * 40 + 36) = x.s.toNat := by
    refine word_at (by have := hs.2; omega) fun j hj => ?_
    rw [show 1028 + i * 40 + 36 + j = 1028 + i * 40 + (36 + j) by omega, write_at h hx (by omega), entL_s h32 hj]
  unfold slotAt
  rw [e1, e2, e3, Int.toNat_of_nonneg ha.1, Int.toNat_of_nonneg hs.1]
theorem slots_back {l : List Slt} (h : fitP l = true) : slotsOf (writeB l) = l := by
  have hc : countV (writeB l) = l.length := by unfold countV; rw [write_size h]; omega
  unfold slotsOf
  rw [hc]
  refine List.ext_getElem? fun i => ?_
  rcases Nat.lt_or_ge i l.length with hi | hi
  · rw [slots_get hi, List.getElem?_eq_getElem hi, slot_back h (List.getElem?_eq_getElem hi)]
  · rw [List.getElem?_eq_none (by rw [slotsN_len]; exact hi), List.getElem?_eq_none hi]
theorem code_back {l : List Slt} (h : fitP l = true) : codeOf (writeB l) = 0 := by
  have hs := write_size h
  have e1 : (writeB l).extract 0 4 = magicB := by
    apply extract_is
    rw [writeB_toList h]
    rfl
  have e2 : (writeB l).extract 0 ((writeB l).size - 4) = bodyB l := by
    apply extract_is
    rw [write_list h, hs, List.drop_zero, List.take_append_of_le_length (by rw [body_len h]; omega), List.take_of_length_le (by rw [body_len h]; omega)]
    rfl
  have e3 : (writeB l).extract ((writeB l).size - 4) (writeB l).size = crcB (crcN (bodyB l)) := by
    apply extract_is
    rw [write_list h, hs, List.drop_append_of_le_length (by rw [body_len h]; omega), List.drop_of_length_le (by rw [body_len h]; omega), List.nil_append]
    rw [List.take_of_length_le (by show 4 ≤ _; omega)]
    rfl
  unfold codeOf
  rw [if_neg (by omega), if_neg (by rw [e1, hs]; rintro (h | h); exact h rfl; omega), e2, e3, if_neg (fun h => h rfl), slots_back h, if_neg (fun h => h rfl)]
theorem read_back {l : List Slt} (h : fitP l = true) : readL (writeB l) = l := by
  unfold readL
  rw [if_pos (code_back h), slots_back h]

/-- The slot of a key of a list that rises. -/
theorem find_mem {l : List Slt} (h : Rises l) {x : Slt} (hx : x ∈ l) : findL l x.k = some x := by
  cases hf : findL l x.k with
  | none =>
    unfold findL at hf
    rw [List.find?_eq_none] at hf
    exact absurd (decide_eq_true rfl) (hf x hx)
  | some y =>
    obtain ⟨hy, hk⟩ := find_some hf
    obtain ⟨i, hi, rfl⟩ := List.getElem_of_mem hx
    obtain ⟨j, hj, rfl⟩ := List.getElem_of_mem hy
    rcases Nat.lt_trichotomy i j with h1 | h1 | h1
    · exact absurd hk.symm (ltB_ne (h i j _ _ h1 (List.getElem?_eq_getElem hi) (List.getElem?_eq_getElem hj)))
    · subst h1; rfl
    · exact absurd hk (ltB_ne (h j i _ _ h1 (List.getElem?_eq_getElem hj) (List.getElem?_eq_getElem hi)))
theorem find_is {l : List Slt} {key : ByteArray} : (findL l key).isSome = l.any fun x => decide (x.k = key) := by
  unfold findL
  rw [List.isSome_find?]
  rfl

/-- Two in one. -/
theorem merge_left : ∀ {a b : List Slt}, ∀ x ∈ a, x ∈ mergeL a b
  | [], _, x, h => by cases h
  | x :: a, [], z, h => by rw [mergeL_nil]; exact h
  | x :: a, y :: b, z, h => by
    have h1 := fun z hz => merge_left (a := x :: a) (b := b) z hz
    have h2 := fun z hz => merge_left (a := a) (b := y :: b) z hz
    rw [mergeL]
    split
    · exact List.mem_cons_of_mem _ (h1 z h)
    · split
      · rcases List.mem_cons.1 h with rfl | h
        · exact List.mem_cons_self
        · exact List.mem_cons_of_mem _ (h2 z h)
      · exact h1 z h
termination_by a b => a.length + b.length
theorem merge_right : ∀ {a b : List Slt}, ∀ y ∈ b, y ∈ mergeL a b ∨ ∃ x ∈ a, x.k = y.k
  | [], b, y, h => by rw [mergeL_nil']; exact .inl h
  | x :: a, [], z, h => by cases h
  | x :: a, y :: b, z, h => by
    have h1 := fun z hz => merge_right (a := x :: a) (b := b) z hz
    have h2 := fun z hz => merge_right (a := a) (b := y :: b) z hz
    rw [mergeL]
    split
    · rcases List.mem_cons.1 h with rfl | h
      · exact .inl List.mem_cons_self
      · exact (h1 z h).imp_left (List.mem_cons_of_mem _)
    · split
      · rcases h2 z h with h | ⟨q, hq, he⟩
        · exact .inl (List.mem_cons_of_mem _ h)
        · exact .inr ⟨q, List.mem_cons_of_mem _ hq, he⟩
      · rename_i n1 n2
        rcases List.mem_cons.1 h with rfl | h
        · refine .inr ⟨x, List.mem_cons_self, ?_⟩
          exact ltB_tri (by simpa using n2) (by simpa using n1)
        · exact h1 z h
termination_by a b => a.length + b.length
theorem rises_cons {x : Slt} {l : List Slt} (h : Rises l) (hx : ∀ y ∈ l, ltB x.k y.k = true) : Rises (x :: l) := by
  intro i j y z hij hy hz
  obtain ⟨j, rfl⟩ : ∃ k, j = k + 1 := ⟨j - 1, by omega⟩
  have hz' : l[j]? = some z := by simpa using hz
  cases i with
  | zero =>
    simp at hy
    subst hy
    exact hx z (List.mem_of_getElem? hz')
  | succ i => exact h i j y z (by omega) (by simpa using hy) hz'
theorem merge_rises : ∀ {a b : List Slt}, Rises a → Rises b → Rises (mergeL a b)
  | [], b, _, hb => by rw [mergeL_nil']; exact hb
  | x :: a, [], ha, _ => by rw [mergeL_nil]; exact ha
  | x :: a, y :: b, ha, hb => by
    have ta := rises_tail ha
    have tb := rises_tail hb
    have h1 := merge_rises ha tb
    have h2 := merge_rises ta hb
    rw [mergeL]
    split
    · rename_i hyx
      refine rises_cons h1 fun z hz => ?_
      rcases mergeL_mem _ _ z hz with h | h
      · rcases List.mem_cons.1 h with rfl | h
        · exact hyx
        · exact ltB_trans hyx (rises_head ha z h)
      · exact rises_head hb z h
    · split
      · rename_i hxy
        refine rises_cons h2 fun z hz => ?_
        rcases mergeL_mem _ _ z hz with h | h
        · exact rises_head ha z h
        · rcases List.mem_cons.1 h with rfl | h
          · exact hxy
          · exact ltB_trans hxy (rises_head hb z h)
      · exact h1
termination_by a b => a.length + b.length
theorem fit_of {l : List Slt} (hl : l.length ≤ 4096) (hr : Rises l) (h : ∀ x ∈ l, x.k.size = 32 ∧ numP x.a ∧ numP x.s) : fitP l = true := by
  unfold fitP fitL
  rw [decide_eq_true hl, Bool.true_and, List.all_eq_true]
  intro k hk
  have hk' := List.mem_range.1 hk
  obtain ⟨h1, h2, h3⟩ := h l[k] (List.getElem_mem hk')
  unfold fitAt
  rw [List.getElem?_eq_getElem hk']
  simp only [Bool.and_eq_true, Bool.or_eq_true, decide_eq_true_eq]
  refine ⟨⟨⟨h1, ?_⟩, h2⟩, h3⟩
  rcases Nat.eq_zero_or_pos k with h0 | h0
  · exact .inl h0
  · right
    rw [List.getElem?_eq_getElem (show k - 1 < l.length by omega)]
    exact hr (k - 1) k _ _ (by omega) (List.getElem?_eq_getElem (by omega)) (List.getElem?_eq_getElem hk')
theorem merge_fit {a b : List Slt} (ha : fitP a = true) (hb : fitP b = true) (hl : a.length + b.length ≤ 4096) : fitP (mergeL a b) = true := by
  refine fit_of (Nat.le_trans (mergeL_len a b) hl) (merge_rises (fit_rises ha) (fit_rises hb)) fun x hx => ?_
  rcases mergeL_mem _ _ x hx with h | h
  · exact fit_at ha h
  · exact fit_at hb h
theorem find_left {a b : List Slt} (ha : fitP a = true) (hb : fitP b = true) {x : Slt} (hx : x ∈ a) : findL (mergeL a b) x.k = some x :=
  find_mem (merge_rises (fit_rises ha) (fit_rises hb)) (merge_left x hx)
/-- What the second list has is found: its own slot, where the first list has none of that key. -/
theorem find_right {a b : List Slt} (ha : fitP a = true) (hb : fitP b = true) {y : Slt} (hy : y ∈ b) : ∃ z, findL (mergeL a b) y.k = some z ∧ ((findL a y.k).isSome = false → z = y) := by
  rcases merge_right (a := a) y hy with h | ⟨x, hx, he⟩
  · exact ⟨y, find_mem (merge_rises (fit_rises ha) (fit_rises hb)) h, fun _ => rfl⟩
  · refine ⟨x, by rw [← he]; exact find_left ha hb hx, fun h => ?_⟩
    rw [find_is, List.any_eq_false] at h
    exact absurd (decide_eq_true he) (by simpa using h x hx)

theorem under_all (l : List Slt) : underL l ⟨#[]⟩ = l.map (·.k) := by
  unfold underL
  congr 1
  rw [List.filter_eq_self]
  intro x _
  exact pre_iff.2 ⟨x.k.toList, by rw [show (⟨#[]⟩ : ByteArray).toList = [] by rw [Lib.toList_data]]; rfl⟩
theorem pre_self (k : ByteArray) {n : Nat} (h : n ≤ k.size) : pre k (k.extract 0 n) = true := by
  unfold pre
  have hs : (k.extract 0 n).size = n := by rw [ByteArray.size_extract]; omega
  rw [hs, decide_eq_true h, decide_eq_true rfl]
  rfl
theorem under_mem {l : List Slt} {x : Slt} (hx : x ∈ l) {n : Nat} (h : n ≤ x.k.size) : 0 < (underL l (x.k.extract 0 n)).length := by
  unfold underL
  rw [List.length_map]
  refine List.length_pos_of_mem (a := x) ?_
  rw [List.mem_filter]
  exact ⟨hx, pre_self _ h⟩

/-- Keys that begin with the same bytes begin with the same digits. -/
theorem pre_alike {z k : ByteArray} {n : Nat} (hn : n ≤ k.size) (h : pre z (k.extract 0 n) = true) : 2 * n ≤ alikeK z k := by
  have hs : (k.extract 0 n).size = n := by rw [ByteArray.size_extract]; omega
  have hz : n ≤ z.size := by
    unfold pre at h
    rw [Bool.and_eq_true, decide_eq_true_eq, hs] at h
    exact h.1
  have he : z.extract 0 n = k.extract 0 n := by
    unfold pre at h
    rw [Bool.and_eq_true, decide_eq_true_eq, decide_eq_true_eq, hs] at h
    exact h.2
  rw [← alikeK_extract (by omega) (by omega), extract_take, hexB_toList, hexB_toList]
  have one : ∀ (l : List UInt8) (n : Nat), (hexL l).take (2 * n) = hexL (l.take n) := by
    intro l
    induction l with
    | nil => intro n; simp [hexL]
    | cons b l ih =>
      intro n
      cases n with
      | zero => rfl
      | succ n =>
        rw [List.take_succ_cons, hexL_cons, hexL_cons, ← ih n]
        rfl
  rw [one, one, (extract_take.1 he)]
theorem single {α : Type} {l : List α} {x : α} (hn : l.Nodup) (hx : x ∈ l) (h : ∀ z ∈ l, z = x) : l = [x] := by
  cases l with
  | nil => cases hx
  | cons a l =>
    have e := h a List.mem_cons_self
    subst e
    cases l with
    | nil => rfl
    | cons b l =>
      have e := h b (List.mem_cons_of_mem _ List.mem_cons_self)
      subst e
      simp at hn
theorem under_one {l : List Slt} (hr : Rises l) (h32 : ∀ x ∈ l, x.k.size = 32) {x : Slt} (hx : x ∈ l) {n : Nat} (hn : shortN l x.k = 2 * n) : (underL l (x.k.extract 0 n)).length = 1 := by
  have h64 := short_64 h32 (h32 x hx)
  have hle : n ≤ x.k.size := by rw [h32 x hx]; omega
  have hp := short_pos l x.k
  have hsh := (short_le (l := l) (key := x.k) (n := 2 * n) (by omega)).1 (by omega)
  have hall : ∀ z ∈ l, pre z.k (x.k.extract 0 n) = true → z = x := by
    intro z hz hpz
    have h1 := pre_alike hle hpz
    rcases hsh z hz with h2 | h2
    · have h3 := find_mem hr hz
      have h4 := find_mem hr hx
      rw [h2, h4] at h3
      exact (Option.some.inj h3).symm
    · omega
  unfold underL
  rw [List.length_map]
  have hnd : l.Nodup := by
    rw [List.nodup_iff_pairwise_ne, List.pairwise_iff_getElem]
    intro i j hi hj hij he
    have := hr i j _ _ hij (List.getElem?_eq_getElem hi) (List.getElem?_eq_getElem hj)
    rw [he, ltB_irrefl] at this
    cases this
  have hf : (l.filter fun z => pre z.k (x.k.extract 0 n)) = [x] := by
    have hndf : (l.filter fun z => pre z.k (x.k.extract 0 n)).Nodup := hnd.filter _
    have hxm : x ∈ l.filter fun z => pre z.k (x.k.extract 0 n) := by
      rw [List.mem_filter]
      exact ⟨hx, pre_self _ hle⟩
    have hal : ∀ z ∈ l.filter fun z => pre z.k (x.k.extract 0 n), z = x := fun z hz => by
      rw [List.mem_filter] at hz
      exact hall z hz.1 hz.2
    exact single hndf hxm hal
  rw [hf]
  rfl

end Go.Proofs.Ytjjenpklcbpkmaa
