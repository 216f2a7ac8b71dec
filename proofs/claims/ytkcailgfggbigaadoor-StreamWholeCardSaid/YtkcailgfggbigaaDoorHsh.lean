/-
  THE ITERATOR OVER HASHES (cdc.hashes): it hands out each place and the hash behind the byte there, till it is told to stop.
-/
import Derived.Test.YtkcailgfggbigaaDoorGear
import Derived.RangeFuncNested
import Derived.RangeFuncBound
import Derived.RangeFuncCalls
import Derived.RangeFuncLeaves
import Derived.Shelf.Abstract
import Derived.Shelf.RegionOpen
import Derived.OwnWalkIn
import Derived.TacticsInMore
import Derived.LoopNIn
import Derived.LoopIn
namespace Go.Proofs.YtkcailgfggbigaaDoor
open Go.RowKit Go.Shelf Go.Proofs.Gear
attribute [local go_sem] Oper.semAt_some
set_option linter.unusedVariables false

/-- The hash behind k + 1 bytes from a place on. -/
def hashAt (s : ByteArray) (fr k : Nat) : Nat := hashFrom 0 ((s.data.toList.drop fr).take (k + 1))
/-- What the iterator hands out. -/
def hashL (s : ByteArray) (fr en : Nat) : List (Nat × Nat) := (List.range (en - fr)).map fun k => (fr + k, hashAt s fr k)
abbrev HashX (s : ByteArray) (fr en : Nat) := { p : Nat × Nat // p ∈ hashL s fr en }
def encH {s : ByteArray} {fr en : Nat} (x : HashX s fr en) : Array Value := #[.int .i64 (x.1.1 : Nat), .int .u64 (x.1.2 : Nat)]

theorem hashL_length (s : ByteArray) (fr en : Nat) : (hashL s fr en).length = en - fr := by simp [hashL]
theorem hashL_get (s : ByteArray) (fr en k : Nat) (h : k < en - fr) : (hashL s fr en)[k]'(by rw [hashL_length]; exact h) = (fr + k, hashAt s fr k) := by simp [hashL]
theorem attach_take {α : Type} (l : List α) (k : Nat) (h : k < l.length) : l.attach.take (k + 1) = l.attach.take k ++ [⟨l[k], List.getElem_mem h⟩] := by
  rw [List.take_succ_eq_append_getElem (by simpa using h)]
  simp

theorem hashAt_zero (s : ByteArray) (fr : Nat) (h : fr < s.size) : roll 0 (s[fr].toNat) = hashAt s fr 0 := by
  unfold hashAt
  have : (s.data.toList.drop fr).take (0 + 1) = [s[fr]] := by
    rw [List.drop_eq_getElem_cons (by simpa using h)]
    rfl
  rw [this, hashFrom_cons, hashFrom_nil]
theorem hashAt_succ (s : ByteArray) (fr k : Nat) (h : fr + (k + 1) < s.size) : roll (hashAt s fr k) (s[fr + (k + 1)].toNat) = hashAt s fr (k + 1) := by
  unfold hashAt
  have h1 : k + 1 < (s.data.toList.drop fr).length := by rw [List.length_drop]; simp; omega
  have : (s.data.toList.drop fr).take (k + 1 + 1) = (s.data.toList.drop fr).take (k + 1) ++ [s[fr + (k + 1)]] := by
    rw [List.take_succ_eq_append_getElem h1, List.getElem_drop]
    rfl
  rw [this, hashFrom_append, hashFrom_cons, hashFrom_nil]
/-- The hash before round k. -/
def hashB (s : ByteArray) (fr k : Nat) : Nat := if k = 0 then 0 else hashAt s fr (k - 1)
theorem hashB_succ (s : ByteArray) (fr k : Nat) (h : fr + k < s.size) : roll (hashB s fr k) (s[fr + k].toNat) = hashAt s fr k := by
  cases k with
  | zero => simp only [hashB, if_pos]; exact hashAt_zero s fr h
  | succ k => simp only [hashB, if_neg (Nat.succ_ne_zero k), Nat.add_sub_cancel]; exact hashAt_succ s fr k h

set_option maxHeartbeats 2000000 in
theorem hashes1_in (l Bf Be Bs n₀ fr en : Nat) (s : ByteArray) (hen : en ≤ s.size) (hs : s.size ≤ 9223372036854775807) (J Jx : List (HashX s fr en) → World → Prop)
    (hf1 : Bf < n₀) (hf2 : Be < n₀) (hf3 : Bs < n₀) (hle : fr ≤ 9223372036854775807)
    (hY : ∀ pre x W, J pre W → pre.length < en - fr → YieldAt Fence.wide 7 Tryd.prog l (encH x) W fun e W' =>
      (e = .returned (.bool true) ∧ J (pre ++ [x]) W' ∧ Below n₀ W W') ∨ (e = .returned (.bool false) ∧ Jx (pre ++ [x]) W'))
    (W : World) (hBf : W.cell? ⟨Bf, 0, none⟩ = some (.int .i64 fr)) (hBe : W.cell? ⟨Be, 0, none⟩ = some (.int .i64 en)) (hBs : W.cell? ⟨Bs, 0, none⟩ = some (.string s)) (h0 : J [] W) :
    CallsIn Fence.wide 8 Tryd.prog 36 #[.func (.yield l) #[] #[], .pointer (some ⟨Bf, 0, none⟩), .pointer (some ⟨Be, 0, none⟩), .pointer (some ⟨Bs, 0, none⟩)] W fun e W' => (∃ v, e = .returned v) ∧
      ((∃ ys, ys = (hashL s fr en).attach ∧ J ys W') ∨ (∃ pre, pre <+: (hashL s fr en).attach ∧ Jx pre W')) := by
  refine callsIn_of_wp Tryd.func36 rfl trivial ?_ rfl
  simp only [Tryd.ntmps36, List.size_toArray, List.length_cons, List.length_nil, Nat.reduceAdd, Nat.reduceSub, Array.replicate_succ, Array.replicate_zero, List.push_toArray, List.append_toArray, List.nil_append, List.cons_append]
  gi_wp2
  gi_loopw [5, 6] (fun h i wr => ∃ k : Nat, k ≤ en - fr ∧ i = .int .i64 ((fr + k : Nat) : Int) ∧ h = .int .u64 (hashB s fr k : Nat) ∧ J ((hashL s fr en).attach.take k) wr ∧ Below n₀ W wr) (fun _ i _ => en - (intOf i).toNat)
  case atStart => exact ⟨0, Nat.zero_le _, rfl, rfl, h0, Below.refl _ _⟩
  case round =>
    obtain ⟨k, hk, rfl, rfl, hJ, hB⟩ := hrel
    have ce := (hB.cell (p := ⟨Be, 0, none⟩) hf2).trans hBe
    have cs := (hB.cell (p := ⟨Bs, 0, none⟩) hf3).trans hBs
    by_cases hlt : k < en - fr
    · have hp : fr + k < s.size := by omega
      have hkl : k < (hashL s fr en).length := by rw [hashL_length]; exact hlt
      have HS := Lib.hid (hashB_succ s fr k hp)
      obtain ⟨x, hx⟩ : ∃ x : HashX s fr en, x = ⟨(hashL s fr en)[k], List.getElem_mem hkl⟩ := ⟨_, rfl⟩
      have hx1 : x.1 = (fr + k, hashAt s fr k) := by rw [hx]; exact hashL_get s fr en k hlt
      have HX := Lib.hid hx
      have HX1 := Lib.hid hx1
      have hT := Lib.hid (attach_take (hashL s fr en) k hkl)
      obtain ⟨fn, tmps, assign, body, hy, hR⟩ := hY _ x wr hJ (by rw [List.length_take]; omega)
      unfold encH at hy
      rw [HX1.out] at hy
      dsimp only at hy
      simp only [Int.natCast_add] at hy
      clear hx hx1
      have hb := byte_lt (s[fr + k])
      gi_wp2_with (refine ⟨trivial, ?_⟩; gi_at_call 37; refine (callsIn_wide.2 (roll_any _ (s[fr + k]).toNat hb _)).mono ?_; rintro e w' ⟨rfl, rfl⟩; rw [HS.out])
      refine hR.mono ?_
      rintro e W3 (⟨rfl, hJ3, hk3⟩ | ⟨rfl, hJx3⟩)
      · gi_wp2
        go_roundw
        case rel => exact ⟨k + 1, by omega, by go_num, by simp [hashB], by rw [hT.out, ← HX.out]; exact hJ3, hB.trans hk3⟩
        case measure => simp [intOf]; omega
      · gi_wp2
        refine bodyPost_ret (results_none rfl _ _ _) rfl ?_
        exact ⟨⟨_, rfl⟩, .inr ⟨_, ⟨(hashL s fr en).attach.drop (k + 1), by rw [HX.out, ← hT.out]; exact List.take_append_drop _ _⟩, hJx3⟩⟩
    · have hkk : k = en - fr := by omega
      have HT : Hid ((hashL s fr en).attach.take k = (hashL s fr en).attach) := Lib.hid (List.take_of_length_le (by rw [List.length_attach, hashL_length]; omega))
      gi_wp2
      go_end0
      exact ⟨⟨_, rfl⟩, .inl ⟨_, rfl, by rw [← HT.out]; exact hJ⟩⟩

end Go.Proofs.YtkcailgfggbigaaDoor
