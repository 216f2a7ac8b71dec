/-
  The statements of chapter 6: the example, and each statement's walk: it returns true, and nothing that was there has changed.
-/
import Derived.Test.YtbbopmhbbaapfaaGear
namespace Go.Proofs.Ytbbopmhbbaapfaa
open Go.RowKit Go.Proofs.Gear

theorem hash_as (s : ByteArray) (n : Nat) (hs : s.size ≤ 9223372036854775807) (hn : ghash s.data.toList = n) (w : World) :
    Calls Try.prog 12 #[.string s] w fun e w' => e = .returned (.int .u64 n) ∧ Below w.heap.size w w' := by
  subst hn; exact hash_any s hs w
theorem rhash_as (s : ByteArray) (n : Nat) (hs : s.size ≤ 9223372036854775807) (hn : ghash s.data.toList = n) (w : World) :
    Calls Try.prog 13 #[.string s] w fun e w' => e = .returned (.int .u64 n) ∧ w = w' := by
  subst hn; exact rhash_any s hs w

theorem ghash_one : ghash (ByteArray.mk #[97]).data.toList = tab 97 := by
  show ghash [97] = tab 97
  rw [ghash_def, hashFrom_cons, hashFrom_nil]
  unfold roll
  rw [Nat.mul_zero, Nat.zero_add]
  exact Nat.mod_eq_of_lt (tab_lt _)

theorem size_one : (ByteArray.mk #[97]).size ≤ 9223372036854775807 := show (1 : Nat) ≤ 9223372036854775807 by omega

theorem awake_any (w : World) :
    Calls Try.prog 7 #[] w fun e w' => e = .returned (.bool true) ∧ Below w.heap.size w w' := by
  have ht : (((tab 0 : Nat) : Int) != 0) = true := by have := tab_zero; simp; omega
  go_enter Try.func7, Try.ntmps7
  go_wp2_with fail
  refine (hash_as _ 0 (Nat.zero_le _) rfl _).mono ?_
  rintro e w1 ⟨rfl, hb1⟩
  go_wp2_with fail
  refine (hash_as ⟨#[97]⟩ (tab 97) size_one ghash_one _).mono ?_
  rintro e w2 ⟨rfl, hb2⟩
  go_wp2_with fail
  refine (table_any 97 (by decide) _).mono ?_
  rintro e w' ⟨rfl, rfl⟩
  go_wp2_with fail
  refine (table_any 0 (by decide) _).mono ?_
  rintro e w' ⟨rfl, rfl⟩
  go_wp2_with fail
  go_ret
  exact ⟨rfl, hb1.trans (hb2.mono hb1.size)⟩

theorem bel {w w1 w2 : World} (h1 : Below w.heap.size w w1) (h2 : Below w1.heap.size w1 w2) : Below w.heap.size w w2 := h1.trans (h2.mono h1.size)

theorem tells_walk (b h : Nat) (hb : b < 256) (s : ByteArray) (hs : s.size ≤ 9223372036854775807) (w : World) :
    Calls Try.prog 3 #[.int .u8 b, .int .u64 h, .string s] w fun e w' => e = .returned (.bool true) ∧ Below w.heap.size w w' := by
  by_cases hl : 3000 < s.size
  · go_enter Try.func3, Try.ntmps3
    go_wp2_with (go_at_call 7; refine (awake_any _).mono ?_; rintro e w' ⟨rfl, hb1⟩)
    go_ret
    exact ⟨rfl, hb1⟩
  · go_enter Try.func3, Try.ntmps3
    go_wp2_with fail
    refine (table_any b hb _).mono ?_
    rintro e w' ⟨rfl, rfl⟩
    go_wp2_with fail
    refine (rtable_any b hb _).mono ?_
    rintro e w' ⟨rfl, rfl⟩
    go_wp2_with fail
    refine (roll_any h b hb _).mono ?_
    rintro e w' ⟨rfl, rfl⟩
    go_wp2_with fail
    refine (rroll_any h b hb _).mono ?_
    rintro e w' ⟨rfl, rfl⟩
    go_wp2_with fail
    refine (hash_any s hs _).mono ?_
    rintro e w1 ⟨rfl, hb1⟩
    go_wp2_with fail
    refine (rhash_any s hs _).mono ?_
    rintro e w' ⟨rfl, rfl⟩
    go_wp2_with fail
    refine (awake_any _).mono ?_
    rintro e w2 ⟨rfl, hb2⟩
    go_wp2_with fail
    go_ret
    exact ⟨rfl, bel hb1 hb2⟩

end Go.Proofs.Ytbbopmhbbaapfaa
