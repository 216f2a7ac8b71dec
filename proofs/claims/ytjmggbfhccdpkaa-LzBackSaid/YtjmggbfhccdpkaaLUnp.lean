/-
  There and back, the plain law: a packed text is parts that are unpacked to it.
-/
import Derived.Test.YtjmggbfhccdpkaaLRoo
namespace Go.Proofs.Ytjmggbfhccdpkaa
open Go.RowKit Go.Shelf Go.Proofs.Mem Go.Maps
set_option linter.unusedVariables false

/-- What is left of the bytes, what is unpacked so far, and the text. -/
inductive Unp : List UInt8 → List UInt8 → List UInt8 → Prop
  | done (out : List UInt8) : Unp [] out out
  | row (l rest out t : List UInt8) (h0 : 0 < l.length) (h1 : l.length ≤ 128) (h : Unp rest (out ++ l) t) : Unp (UInt8.ofNat (l.length - 1) :: (l ++ rest)) out t
  | again (n f : Nat) (m rest out t : List UInt8) (h4 : 4 ≤ n) (h131 : n ≤ 131) (hf1 : 1 ≤ f) (hf : f ≤ 4096) (hfo : f ≤ out.length) (hm : m.length = n) (hc : ∀ j, j < n → (out ++ m)[out.length + j]? = (out ++ m)[out.length - f + j]?) (h : Unp rest (out ++ m) t) : Unp (UInt8.ofNat (n + 124) :: ((putB f).data.toList ++ rest)) out t
theorem Unp.le {r o t : List UInt8} (h : Unp r o t) : o.length ≤ t.length := by
  induction h with
  | done => exact Nat.le_refl _
  | row l rest out t h0 h1 h ih => rw [List.length_append] at ih; omega
  | again n f m rest out t h4 h131 hf1 hf hfo hm hc h ih => rw [List.length_append] at ih; omega
theorem unp_row {l rest out t : List UInt8} (h1 : l.length ≤ 128) (h : Unp rest (out ++ l) t) : Unp (rowL l ++ rest) out t := by
  unfold rowL
  split
  · rename_i h0
    subst h0
    simpa using h
  · rename_i h0
    exact Unp.row l rest out t (List.length_pos_iff.2 h0) h1 h
theorem pack_unp (s : ByteArray) (i : Nat) (out r : List UInt8) (hi : i ≤ s.size) (hr : r.length < 128) (hri : r.length ≤ i) (hs : s.data.toList.take (i - r.length) ++ r = s.data.toList.take i) :
    ∃ tail, packL s i out r = out ++ tail ∧ Unp tail (s.data.toList.take (i - r.length)) s.data.toList := by
  induction hk : s.size - i using Nat.strongRecOn generalizing i out r with
  | _ k ih =>
    have hsz : s.data.toList.length = s.size := Array.length_toList
    by_cases hlt : i < s.size
    case neg =>
      refine ⟨rowL r, pack_end hlt, ?_⟩
      have := unp_row (l := r) (rest := []) (out := s.data.toList.take (i - r.length)) (t := s.data.toList) (by omega) (by
        rw [hs, List.take_of_length_le (by omega)]
        exact Unp.done _)
      simpa using this
    have hsnoc : s.data.toList.take (i + 1) = s.data.toList.take i ++ [s[i]] := by
      rw [List.take_add_one, List.getElem?_eq_getElem (by omega)]
      rfl
    obtain ⟨hn131, hnroom, hf2, hf4, hn4⟩ := bestP_le s i hi
    by_cases hb : (bestP s i).1 = 0
    · have hs' : s.data.toList.take (i - r.length) ++ (r ++ [s[i]]) = s.data.toList.take (i + 1) := by rw [hsnoc, ← hs, List.append_assoc]
      by_cases hf : r.length + 1 = 128
      · rw [pack_full hlt hb hf]
        obtain ⟨tail, h1, h2⟩ := ih (s.size - (i + 1)) (by omega) (i + 1) (out ++ rowL (r ++ [s[i]])) [] (by omega) (by simp) (by simp) (by simp) rfl
        refine ⟨rowL (r ++ [s[i]]) ++ tail, by rw [h1, List.append_assoc], unp_row (by rw [List.length_append, List.length_singleton]; omega) ?_⟩
        rw [hs']
        simpa using h2
      · rw [pack_lit hlt hb hf]
        obtain ⟨tail, h1, h2⟩ := ih (s.size - (i + 1)) (by omega) (i + 1) out (r ++ [s[i]]) (by omega) (by rw [List.length_append, List.length_singleton]; omega) (by rw [List.length_append, List.length_singleton]; omega) (by
          rw [List.length_append, List.length_singleton, show i + 1 - (r.length + 1) = i - r.length by omega]; exact hs') rfl
        refine ⟨tail, h1, ?_⟩
        rw [List.length_append, List.length_singleton, show i + 1 - (r.length + 1) = i - r.length by omega] at h2
        exact h2
    · rw [pack_match hlt hb]
      obtain ⟨h4, hf1, hsame⟩ := hn4.resolve_left hb
      obtain ⟨n, hn⟩ : ∃ n, n = (bestP s i).1 := ⟨_, rfl⟩
      obtain ⟨f, hf⟩ : ∃ f, f = (bestP s i).2 := ⟨_, rfl⟩
      rw [← hn] at hn131 hnroom h4 hsame ⊢
      rw [← hf] at hf2 hf4 hf1 hsame ⊢
      obtain ⟨tail, h1, h2⟩ := ih (s.size - (i + n)) (by omega) (i + n) (out ++ rowL r ++ [UInt8.ofNat (n + 124)] ++ (putB f).data.toList) [] (by omega) (by simp) (by simp) (by simp) rfl
      refine ⟨rowL r ++ (UInt8.ofNat (n + 124) :: ((putB f).data.toList ++ tail)), by rw [h1]; simp, unp_row (by omega) ?_⟩
      rw [hs]
      have hcat : s.data.toList.take i ++ (s.data.toList.drop i).take n = s.data.toList.take (i + n) := (List.take_add).symm
      have hl : (s.data.toList.take i).length = i := by rw [List.length_take]; omega
      refine Unp.again n f ((s.data.toList.drop i).take n) tail _ _ h4 hn131 hf1 hf4 (by omega) (by rw [List.length_take, List.length_drop]; omega) ?_ (by rw [hcat]; simpa using h2)
      intro j hj
      have hm := same_meet (s := s) (a := i - f) (b := i) (i := j) (by omega)
      have e1 : i + j < s.size := by omega
      have e2 : i - f + j < s.size := by omega
      have hm2 := hm.2
      rw [byteAt_eq _ _ e1, byteAt_eq _ _ e2] at hm2
      have hm3 : s[i - f + j] = s[i + j] := UInt8.toNat_inj.1 hm2
      rw [hcat, hl, List.getElem?_take_of_lt (by omega), List.getElem?_take_of_lt (by omega), List.getElem?_eq_getElem (by omega), List.getElem?_eq_getElem (by omega)]
      congr 1
      exact hm3.symm
theorem packB_unp (s : ByteArray) : Unp (packB s).data.toList [] s.data.toList := by
  obtain ⟨tail, h1, h2⟩ := pack_unp s 0 [] [] (Nat.zero_le _) (by simp) (by simp) (by simp)
  have : (packB s).data.toList = tail := by unfold packB; rw [h1]; simp
  rw [this]
  simpa using h2

end Go.Proofs.Ytjmggbfhccdpkaa
