/-
  THE WALKS OF THE PACKAGES gear AND siloref06: what a byte adds, a roll, the hash of a text: each function returns what the plain law's functions give.
-/
import Derived.Test.YtkcailgfggbigaaDoorRows
import Derived.Test.YtkcailgfggbigaaDoorMath
import Derived.WalkKit
import Derived.WalkSpells
import Derived.WalkLawsBesides
import Derived.Laws.Bits64
import Derived.Laws.IdiomStrings
import Derived.Lib.Hide
import Derived.Handy
namespace Go.Proofs.YtkcailgfggbigaaDoor
open Go.RowKit Go.Proofs.Gear

theorem u64_mod (x : Int) (y : Nat) (h : (y : Int) = x) : IntKind.u64.wrap x = ((y % M : Nat) : Int) := by
  subst h; rw [IntKind.wrap_u64, Int.natCast_emod]; rfl
theorem xor_div (x s : Nat) (hx : x < M) : bits .xor .u64 (x : Int) ((x : Int) / (s : Int)) = ((x ^^^ x / s : Nat) : Int) := xorShift_u64 x s hx
theorem step_eq (x s c : Nat) (hx : x < M) : IntKind.u64.wrap (bits .xor .u64 (x : Int) ((x : Int) / (s : Int)) * (c : Int)) = (((x ^^^ x / s) * c % M : Nat) : Int) := by
  rw [xor_div x s hx]; exact u64_mod _ _ (by rw [Int.natCast_mul])
theorem mix1_eq (n : Nat) : IntKind.u64.wrap (((n : Int) + 1) * 11400714819323198485) = (mix1 n : Int) := u64_mod _ _ (by rw [Int.natCast_mul]; rfl)
theorem mix2_eq (n : Nat) : IntKind.u64.wrap (bits .xor .u64 (mix1 n : Int) ((mix1 n : Int) / 1073741824) * 13787848793156543929) = (mix2 n : Int) := step_eq (mix1 n) 1073741824 13787848793156543929 (mix1_lt n)
theorem mix3_eq (n : Nat) : IntKind.u64.wrap (bits .xor .u64 (mix2 n : Int) ((mix2 n : Int) / 134217728) * 10723151780598845931) = (mix3 n : Int) := step_eq (mix2 n) 134217728 10723151780598845931 (mix2_lt n)
theorem tab_eq (n : Nat) : bits .xor .u64 (mix3 n : Int) ((mix3 n : Int) / 2147483648) = (tab n : Int) := xor_div (mix3 n) 2147483648 (mix3_lt n)
theorem tab_eq1 (n : Nat) : IntKind.u64.wrap (bits .xor .u64 (mix3 n : Int) ((mix3 n : Int) / 2147483648) * 1) = (tab n : Int) := by
  rw [tab_eq, Int.mul_one, u64_mod _ (tab n) rfl, Nat.mod_eq_of_lt (tab_lt n)]

theorem ret_int {k : IntKind} {a b : Int} (h : a = b) : Ending.returned (.int k a) = .returned (.int k b) := by rw [h]

theorem fold_any (m : Nat) (b t : Int) (r : Nat) (hb0 : 0 ≤ b) (hb : b ≤ 64) (hr : IntKind.u64.wrap (bits .xor .u64 (m : Int) ((m : Int) / 2 ^ b.toNat) * t) = (r : Int)) (w : World) :
    Calls Tryd.prog 44 #[.int .u64 m, .int .i64 b, .int .u64 t] w fun e w' => e = .returned (.int .u64 r) ∧ w = w' := by
  have H := Lib.hid hr
  clear hr
  go_enter Tryd.func44, Tryd.ntmps44
  go_wp2
  go_ret
  exact ⟨ret_int H.out, rfl⟩

theorem chain_any (n : Nat) (w : World) :
    Calls Tryd.prog 43 #[.int .u64 (mix1 n), .func (.func 44) #[] #[]] w fun e w' => e = .returned (.int .u64 (tab n : Nat)) ∧ w = w' := by
  go_enter Tryd.func43, Tryd.ntmps43
  go_wp2_with fail
  refine (fold_any (mix1 n) 30 13787848793156543929 (mix2 n) (by decide) (by decide) (mix2_eq n) _).mono ?_
  rintro e w' ⟨rfl, rfl⟩
  go_wp2_with fail
  refine (fold_any (mix2 n) 27 10723151780598845931 (mix3 n) (by decide) (by decide) (mix3_eq n) _).mono ?_
  rintro e w' ⟨rfl, rfl⟩
  go_wp2_with fail
  refine (fold_any (mix3 n) 31 1 (tab n) (by decide) (by decide) (tab_eq1 n) _).mono ?_
  rintro e w' ⟨rfl, rfl⟩
  go_wp2_with fail
  go_ret
  exact ⟨rfl, rfl⟩

theorem table_any (n : Nat) (hn : n < 256) (w : World) :
    Calls Tryd.prog 42 #[.int .u8 n] w fun e w' => e = .returned (.int .u64 (tab n : Nat)) ∧ w = w' := by
  go_enter Tryd.func42, Tryd.ntmps42
  go_wp2_with fail
  rw [mix1_eq]
  refine (chain_any n _).mono ?_
  rintro e w' ⟨rfl, rfl⟩
  go_wp2_with fail
  go_ret
  exact ⟨rfl, rfl⟩

theorem rtable_any (n : Nat) (hn : n < 256) (w : World) :
    Calls Tryd.prog 39 #[.int .u8 n] w fun e w' => e = .returned (.int .u64 (tab n : Nat)) ∧ w = w' := by
  go_enter Tryd.func39, Tryd.ntmps39
  go_wp2
  go_ret
  exact ⟨ret_int (by rw [mix1_eq, mix2_eq, mix3_eq, tab_eq]), rfl⟩

theorem roll_eq (h b : Nat) : IntKind.u64.wrap (IntKind.u64.wrap ((h : Int) * 2) + (tab b : Int)) = (roll h b : Int) := by
  rw [u64_mod ((h : Int) * 2) (h * 2) (by rw [Int.natCast_mul]; rfl), u64_mod _ (h * 2 % M + tab b) (by rw [Int.natCast_add])]
  unfold roll
  rw [Nat.mul_comm 2 h, Nat.mod_add_mod]
theorem roll_eq2 (h b : Nat) : IntKind.u64.wrap (IntKind.u64.wrap (2 * (h : Int)) + (tab b : Int)) = (roll h b : Int) := by
  rw [Int.mul_comm]; exact roll_eq h b

theorem roll_any (h n : Nat) (hn : n < 256) (w : World) :
    Calls Tryd.prog 37 #[.int .u64 h, .int .u8 n] w fun e w' => e = .returned (.int .u64 (roll h n : Nat)) ∧ w = w' := by
  go_enter Tryd.func37, Tryd.ntmps37
  go_wp2_with (go_at_call 42; refine (table_any n hn _).mono ?_; rintro e w' ⟨rfl, rfl⟩)
  go_ret
  exact ⟨ret_int (roll_eq h n), rfl⟩

theorem rroll_any (h n : Nat) (hn : n < 256) (w : World) :
    Calls Tryd.prog 30 #[.int .u64 h, .int .u8 n] w fun e w' => e = .returned (.int .u64 (roll h n : Nat)) ∧ w = w' := by
  go_enter Tryd.func30, Tryd.ntmps30
  go_wp2_with (go_at_call 39; refine (rtable_any n hn _).mono ?_; rintro e w' ⟨rfl, rfl⟩)
  go_ret
  exact ⟨ret_int (roll_eq2 h n), rfl⟩

theorem ghash_take (s : ByteArray) (k : Nat) (hk : k < s.size) : ghash (s.data.toList.take (k + 1)) = roll (ghash (s.data.toList.take k)) (s[k].toNat) := by
  rw [List.take_succ_eq_append_getElem (by simpa using hk), ghash_snoc]; rfl
theorem ghash_all (s : ByteArray) : ghash (s.data.toList.take s.size) = ghash s.data.toList := by rw [List.take_of_length_le (by simp)]
theorem byte_lt (b : UInt8) : b.toNat < 256 := b.toNat_lt


theorem row_cell (w : World) (s : ByteArray) (cap : Nat) (C : Array Value) (e : TypeId) (m : Nat × Nat) (hC : C = bytesRow s cap) (k : Nat) (hk : k < s.size) :
    (w.alloc (.cells C e m)).drew.cell? ⟨w.heap.size, k, none⟩ = some (.int .u8 (s[k].toNat : Nat)) := by
  show (w.alloc (.cells C e m)).cell? ⟨w.heap.size, k, none⟩ = _
  have hh : (w.alloc (.cells C e m)).heap[w.heap.size]? = some (.cells C e m) := heap_alloc_new w _
  have h1 : (s.data.map (fun b => Value.int .u8 b.toNat)).size = s.size := by simp
  have hk' : k < s.data.size := hk
  rw [cell_of_row _ _ k C e m hh, hC]
  unfold bytesRow
  rw [Array.getElem?_append_left (by rw [h1]; exact hk), Array.getElem?_map, Array.getElem?_eq_getElem hk']
  rfl


end Go.Proofs.YtkcailgfggbigaaDoor
