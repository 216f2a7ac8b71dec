/-
  THE ITERATOR OVER A NUMBER'S GROUPS (varint.groups).
-/
import Derived.Test.YthlajcohbpjgkaaDoorVRTake
import Derived.Test.YthlajcohbpjgkaaDoorLBase
namespace Go.Proofs.YthlajcohbpjgkaaDoor
open Go.RowKit Go.Shelf Go.Proofs.Mem
attribute [local go_sem] Oper.semAt_some
set_option linter.unusedVariables false

/-- The groups: seven bits, is it the last one. -/
def grpL (s : ByteArray) : Nat → Nat → List (Nat × Bool)
  | 0, _ => []
  | f + 1, i => if s.size ≤ i then [] else (byteAt s i % 128, decide (byteAt s i < 128)) :: (if byteAt s i < 128 then [] else grpL s f (i + 1))
abbrev Grp (s : ByteArray) := { q : Nat × Bool // q ∈ grpL s 10 0 }
def encG {s : ByteArray} (x : Grp s) : Array Value := #[.int .u64 (x.1.1 : Nat), .bool x.1.2]
theorem grpL_len (s : ByteArray) (f i : Nat) : (grpL s f i).length ≤ f := by
  induction f generalizing i with
  | zero => exact Nat.le_refl _
  | succ f ih =>
    rw [grpL]
    split
    · exact Nat.zero_le _
    · rw [List.length_cons]
      split
      · simp
      · have := ih (i + 1); omega
theorem grpL_lt (s : ByteArray) (f i : Nat) : ∀ q ∈ grpL s f i, q.1 < 128 := by
  induction f generalizing i with
  | zero => intro q h; cases h
  | succ f ih =>
    intro q hq
    rw [grpL] at hq
    split at hq
    · cases hq
    · rcases List.mem_cons.1 hq with rfl | h
      · exact Nat.mod_lt _ (by decide)
      · split at h
        · cases h
        · exact ih _ q h
/-- What the program's loop does with the groups, from the i-th on; nothing: they have run out. -/
def runL : List (Nat × Bool) → Nat → Nat → Option (Nat × Nat × Nat)
  | [], _, _ => none
  | (b, last) :: t, i, n => if i = 9 ∧ (1 < b ∨ last = false) then some (0, 0, 4) else if last = false then runL t (i + 1) (n + b * 2 ^ (7 * i)) else if b = 0 ∧ 0 < i then some (0, 0, 2) else some (n + b * 2 ^ (7 * i), i + 1, 0)
theorem run_step (c i n : Nat) (t : List (Nat × Bool)) (hb : c < 256) : runL ((c % 128, decide (c < 128)) :: t) i n =
    if i = 9 ∧ 1 < c then some (0, 0, 4) else if c < 128 then (if c = 0 ∧ 0 < i then some (0, 0, 2) else some (n + c % 128 * 2 ^ (7 * i), i + 1, 0)) else runL t (i + 1) (n + c % 128 * 2 ^ (7 * i)) := by
  rw [runL]
  by_cases h : c < 128
  · have e : c % 128 = c := by omega
    rw [decide_eq_true h, e]
    by_cases h9 : i = 9 ∧ 1 < c
    · rw [if_pos ⟨h9.1, .inl h9.2⟩, if_pos h9]
    · have hn : ¬(i = 9 ∧ (1 < c ∨ true = false)) := by
        rintro ⟨h1, h2 | h2⟩
        · exact h9 ⟨h1, h2⟩
        · cases h2
      have ht : ¬(true = false) := fun h => by cases h
      rw [if_neg hn, if_neg h9, if_neg ht, if_pos h]
  · rw [decide_eq_false h]
    by_cases h9 : i = 9
    · rw [if_pos ⟨h9, .inr rfl⟩, if_pos ⟨h9, by omega⟩]
    · have hA : ¬(i = 9 ∧ (1 < c % 128 ∨ false = false)) := fun x => h9 x.1
      have hB : ¬(i = 9 ∧ 1 < c) := fun x => h9 x.1
      rw [if_neg hA, if_pos rfl, if_neg hB, if_neg h]
theorem run_take (s : ByteArray) (f i n : Nat) (hi : i + (f + 1) = 10) : takeR s (f + 1) i n = (runL (grpL s (f + 1) i) i n).getD (0, 0, 1) := by
  induction f generalizing i n with
  | zero =>
    rw [takeR, grpL]
    by_cases h1 : s.size ≤ i
    · rw [if_pos h1, if_pos h1]; rfl
    · rw [if_neg h1, if_neg h1, run_step _ _ _ _ (byteAt_lt s i)]
      by_cases h9 : i = 9 ∧ 1 < byteAt s i
      · rw [if_pos h9, if_pos h9]; rfl
      · rw [if_neg h9, if_neg h9]
        have h128 : byteAt s i < 128 := by
          rcases Nat.lt_or_ge (byteAt s i) 128 with h | h
          · exact h
          · exact absurd ⟨by omega, by omega⟩ h9
        rw [if_pos h128, if_pos h128]
        split <;> rfl
  | succ f ih =>
    rw [takeR, grpL]
    by_cases h1 : s.size ≤ i
    · rw [if_pos h1, if_pos h1]; rfl
    · rw [if_neg h1, if_neg h1, run_step _ _ _ _ (byteAt_lt s i)]
      by_cases h9 : i = 9 ∧ 1 < byteAt s i
      · exfalso; omega
      · rw [if_neg h9, if_neg h9]
        by_cases h128 : byteAt s i < 128
        · rw [if_pos h128, if_pos h128]
          split <;> rfl
        · rw [if_neg h128, if_neg h128, if_neg h128]
          exact ih (i + 1) _ (by omega)
/-- The number behind some groups. -/
def accL : List (Nat × Bool) → Nat → Nat → Nat
  | [], _, n => n
  | (b, _) :: t, i, n => accL t (i + 1) (n + b * 2 ^ (7 * i))
theorem runL_snoc (l : List (Nat × Bool)) (x : Nat × Bool) (i n : Nat) : runL (l ++ [x]) i n = match runL l i n with | some t => some t | none => runL [x] (i + l.length) (accL l i n) := by
  induction l generalizing i n with
  | nil => simp [runL, accL]
  | cons y l ih =>
    obtain ⟨b, last⟩ := y
    rw [List.cons_append, runL, runL]
    split
    · rfl
    · split
      · rw [ih, List.length_cons, show i + 1 + l.length = i + (l.length + 1) by omega]; rfl
      · split <;> rfl
theorem accL_snoc (l : List (Nat × Bool)) (x : Nat × Bool) (i n : Nat) : accL (l ++ [x]) i n = accL l i n + x.1 * 2 ^ (7 * (i + l.length)) := by
  induction l generalizing i n with
  | nil => obtain ⟨b, last⟩ := x; simp [accL]
  | cons y l ih =>
    obtain ⟨b, last⟩ := y
    rw [List.cons_append, accL, accL, ih, List.length_cons, show i + 1 + l.length = i + (l.length + 1) by omega]
theorem accL_lt (l : List (Nat × Bool)) (i n : Nat) (h : ∀ q ∈ l, q.1 < 128) (hn : n < 2 ^ (7 * i)) : accL l i n < 2 ^ (7 * (i + l.length)) := by
  induction l generalizing i n with
  | nil => exact hn
  | cons y l ih =>
    obtain ⟨b, last⟩ := y
    rw [accL, List.length_cons, show i + (l.length + 1) = i + 1 + l.length by omega]
    refine ih _ _ (fun q hq => h q (List.mem_cons_of_mem _ hq)) ?_
    have h1 : 2 ^ (7 * (i + 1)) = 128 * 2 ^ (7 * i) := by rw [Nat.mul_add, Nat.pow_add]; omega
    have h2 : b * 2 ^ (7 * i) ≤ 127 * 2 ^ (7 * i) := Nat.mul_le_mul_right _ (by have := h (b, last) List.mem_cons_self; dsimp only at this; omega)
    omega
/-- An outcome stays whatever else there is. -/
theorem runL_more (l m : List (Nat × Bool)) (i n : Nat) (t : Nat × Nat × Nat) (h : runL l i n = some t) : runL (l ++ m) i n = some t := by
  induction l generalizing i n with
  | nil => cases h
  | cons y l ih =>
    obtain ⟨b, last⟩ := y
    rw [List.cons_append]
    rw [runL] at h ⊢
    split
    · rename_i h1
      rw [if_pos h1] at h
      exact h
    · rename_i h1
      rw [if_neg h1] at h
      split
      · rename_i h2
        rw [if_pos h2] at h
        exact ih _ _ h
      · rename_i h2
        rw [if_neg h2] at h
        exact h

theorem groups_any (s : ByteArray) (w : World) :
    Calls Tryd.prog 65 #[.string s] w fun e w' => e = .returned (.func (.func 70) #[] #[.pointer (some ⟨w.heap.size, 0, none⟩)]) ∧ w.alloc (.cells #[.string s] 9) = w' := by
  go_enter Tryd.func65, Tryd.ntmps65
  go_wp2
  go_ret
  exact ⟨rfl, rfl⟩

set_option maxHeartbeats 600000 in
theorem groups1_in (l Bk : Nat) (s : ByteArray) (hz : s.size ≤ 1000000) (J Jx : List (Grp s) → World → Prop)
    (hY : ∀ pre x W, J pre W → pre.length < (grpL s 10 0).length → YieldAt Fence.wide 7 Tryd.prog l (encG x) W fun e W' =>
      (e = .returned (.bool true) ∧ J (pre ++ [x]) W' ∧ CellK Bk W W') ∨ (e = .returned (.bool false) ∧ Jx (pre ++ [x]) W'))
    (W : World) (hJ : AbidesFrom W.heap.size J) (hBk : W.cell? ⟨Bk, 0, none⟩ = some (.string s)) (h0 : J [] W) :
    CallsIn Fence.wide 8 Tryd.prog 70 #[.func (.yield l) #[] #[], .pointer (some ⟨Bk, 0, none⟩)] W fun e' W' => (∃ v, e' = .returned v) ∧
      ((∃ ys, ys = (grpL s 10 0).attach ∧ J ys W') ∨ (∃ pre, pre <+: (grpL s 10 0).attach ∧ Jx pre W')) := by
  refine callsIn_of_wp Tryd.func70 rfl trivial ?_ rfl
  simp only [Tryd.ntmps70, List.size_toArray, List.length_cons, List.length_nil, Nat.reduceAdd, Nat.reduceSub, Array.replicate_succ, Array.replicate_zero, List.push_toArray, List.append_toArray, List.nil_append, List.cons_append]
  refine wpIn_wide.2 ?_
  obtain ⟨M, hM⟩ : ∃ M, M = min s.size 10 := ⟨_, rfl⟩
  have hmin : min (s.size : Int) 10 = (M : Int) := by omega
  obtain ⟨L, hL⟩ : ∃ L, L = grpL s 10 0 := ⟨_, rfl⟩
  have HLL := Lib.hid hL
  have HMM := Lib.hid hM
  clear hM hL
  go_wp2
  go_loopw [3, 4, 8] (fun _ _ i wr => ∃ k f : Nat, i = .int .i64 k ∧ k + f = 10 ∧ k ≤ M ∧ Hid ((grpL s 10 0).drop k = grpL s f k ∧ k ≤ (grpL s 10 0).length) ∧ J ((grpL s 10 0).attach.take k) wr ∧ wr.cell? ⟨Bk, 0, none⟩ = some (.string s)) (fun _ _ i _ => M - (intOf i).toNat)
  case atStart => exact ⟨0, 10, rfl, rfl, Nat.zero_le _, Lib.hid ⟨rfl, Nat.zero_le _⟩, h0, hBk⟩
  case round =>
    obtain ⟨k, f, rfl, hkf, hkM, HD, hJk, c0⟩ := hrel
    clear h0 hBk
    by_cases hk : k = M
    · have d1 : decide ((k : Int) < (M : Int)) = false := decide_eq_false (by omega)
      have d2 : decide (k < M) = false := decide_eq_false (by omega)
      have hnil : grpL s f k = [] := by
        cases f with
        | zero => rfl
        | succ f => rw [grpL, if_pos (by have := HMM.out; omega)]
      have HT : Hid ((grpL s 10 0).attach.take k = (grpL s 10 0).attach) := Lib.hid (List.take_of_length_le (by
        rw [List.length_attach]
        have h1 := HD.out.1
        rw [hnil] at h1
        exact List.drop_eq_nil_iff.1 h1))
      clear hk hnil
      go_wp2
      go_end0
      exact ⟨⟨_, rfl⟩, .inl ⟨_, rfl, by rw [← HT.out]; exact hJk⟩⟩
    · have hlt : k < M := by omega
      have hlti : (k : Int) < (M : Int) := by omega
      have hks : k < s.size := by have := HMM.out; omega
      have hksi : (k : Int) < (s.size : Int) := by omega
      have hk0 : (0 : Int) ≤ (k : Int) := Int.natCast_nonneg _
      have d1 : decide ((k : Int) < (M : Int)) = true := decide_eq_true (by omega)
      have d2 : decide (k < M) = true := decide_eq_true (by omega)
      obtain ⟨f, rfl⟩ : ∃ g, f = g + 1 := ⟨f - 1, by have := HMM.out; omega⟩
      obtain ⟨hdr, hkl0⟩ := HD.out
      have hg : grpL s (f + 1) k = (byteAt s k % 128, decide (byteAt s k < 128)) :: (if byteAt s k < 128 then [] else grpL s f (k + 1)) := by rw [grpL, if_neg (by omega)]
      rw [hg] at hdr
      clear hg
      obtain ⟨c, hc⟩ : ∃ c, c = byteAt s k := ⟨_, rfl⟩
      have hsc : (s[k].toNat : Int) = (c : Int) := by rw [hc, byteAt_eq s k hks]
      have hc8 : c < 256 := by rw [hc]; exact byteAt_lt _ _
      rw [← hc] at hdr
      have hkl : k < (grpL s 10 0).length := by
        rcases Nat.lt_or_ge k (grpL s 10 0).length with h | h
        · exact h
        · rw [List.drop_eq_nil_of_le h] at hdr; cases hdr
      have hget : (grpL s 10 0)[k] = (c % 128, decide (c < 128)) := by
        have h1 := List.drop_eq_getElem_cons hkl
        rw [hdr] at h1
        injection h1 with h1 _
        exact h1.symm
      have hrest : (grpL s 10 0).drop (k + 1) = if c < 128 then [] else grpL s f (k + 1) := by
        have h1 := List.drop_eq_getElem_cons hkl
        rw [hdr] at h1
        injection h1 with _ h2
        exact h2.symm
      obtain ⟨q, hq⟩ : ∃ q : Grp s, q = ⟨(grpL s 10 0)[k], List.getElem_mem hkl⟩ := ⟨_, rfl⟩
      have hq1 : q.1 = (c % 128, decide (c < 128)) := by rw [hq]; exact hget
      have HQ := Lib.hid hq
      have hT := Lib.hid (attach_take (grpL s 10 0) k hkl)
      have HRest := Lib.hid hrest
      have HKL := Lib.hid hkl
      have hand : bits .and .u8 (c : Int) 127 = (c : Int) % 128 := by
        have h1 := and_u8 c 127 (by omega) (by decide)
        rw [show (127 : Nat) = 2 ^ 7 - 1 from rfl, Nat.and_two_pow_sub_one_eq_mod] at h1
        rw [show (127 : Int) = ((2 ^ 7 - 1 : Nat) : Int) from rfl, h1]
        omega
      obtain ⟨fn, tmps, assign, body, hy, hR⟩ := hY _ q wr hJk (by rw [List.length_take]; omega)
      unfold encG at hy
      rw [hq1] at hy
      dsimp only at hy
      rw [show ((c % 128 : Nat) : Int) = (c : Int) % 128 from by omega] at hy
      have HR := Lib.hid hR
      have HKF := Lib.hid hkf
      clear hq hq1 hR hY hdr hkl0 hget hrest hc HD hkf
      by_cases h128 : c < 128
      · have d3 : decide ((c : Int) < 128) = true := decide_eq_true (by omega)
        have d4 : decide (c < 128) = true := decide_eq_true h128
        rw [d4] at hy
        have HA : Hid ((grpL s 10 0).attach.take (k + 1) = (grpL s 10 0).attach) := Lib.hid (List.take_of_length_le (by
          rw [List.length_attach]
          have h1 := HRest.out
          rw [if_pos h128] at h1
          exact List.drop_eq_nil_iff.1 h1))
        clear h128
        refine (wpIn_wide (n := 8)).1 ?_
        gi_wp2
        refine HR.out.mono ?_
        rintro e W3 (⟨rfl, hJ3, hk3⟩ | ⟨rfl, hJx3⟩)
        · gi_wp2
          refine bodyPost_ret (results_none rfl _ _ _) rfl ?_
          exact ⟨⟨_, rfl⟩, .inl ⟨_, rfl, by rw [← HA.out, hT.out, ← HQ.out]; exact hJ3⟩⟩
        · gi_wp2
          refine bodyPost_ret (results_none rfl _ _ _) rfl ?_
          exact ⟨⟨_, rfl⟩, .inr ⟨_, ⟨(grpL s 10 0).attach.drop (k + 1), by rw [HQ.out, ← hT.out]; exact List.take_append_drop _ _⟩, hJx3⟩⟩
      · have d3 : decide ((c : Int) < 128) = false := decide_eq_false (by omega)
        have d4 : decide (c < 128) = false := decide_eq_false h128
        rw [d4] at hy
        have HRR : Hid ((grpL s 10 0).drop (k + 1) = grpL s f (k + 1)) := Lib.hid (by rw [HRest.out, if_neg h128])
        clear h128
        refine (wpIn_wide (n := 8)).1 ?_
        gi_wp2
        refine HR.out.mono ?_
        rintro e W3 (⟨rfl, hJ3, hk3⟩ | ⟨rfl, hJx3⟩)
        · gi_wp2
          go_roundw
          case rel => exact ⟨k + 1, f, by go_num, by have := HKF.out; omega, by omega, Lib.hid ⟨HRR.out, HKL.out⟩, by rw [hT.out, ← HQ.out]; exact hJ3, Eq.trans hk3 c0⟩
          case measure => simp [intOf]; omega
        · gi_wp2
          refine bodyPost_ret (results_none rfl _ _ _) rfl ?_
          exact ⟨⟨_, rfl⟩, .inr ⟨_, ⟨(grpL s 10 0).attach.drop (k + 1), by rw [HQ.out, ← hT.out]; exact List.take_append_drop _ _⟩, hJx3⟩⟩
end Go.Proofs.YthlajcohbpjgkaaDoor
