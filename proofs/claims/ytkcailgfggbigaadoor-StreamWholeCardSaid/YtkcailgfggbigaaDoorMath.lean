/-
  THE PLAIN LAW OF THE ROLLING HASH: what a byte adds (tab), a roll, the ghash of a list of bytes; a ghash of two lists; the last 64 bytes; no two bytes add the same.
-/
import Derived.Laws.Bits64
namespace Go.Proofs.Gear

/-- 2 to the power of 64. -/
def M : Nat := 18446744073709551616
theorem M_eq : M = 2 ^ 64 := by decide
theorem M_pos : 0 < M := by unfold M; omega

/-- What a byte adds. -/
def mix1 (b : Nat) : Nat := (b + 1) * 11400714819323198485 % M
def mix2 (b : Nat) : Nat := (mix1 b ^^^ mix1 b / 1073741824) * 13787848793156543929 % M
def mix3 (b : Nat) : Nat := (mix2 b ^^^ mix2 b / 134217728) * 10723151780598845931 % M
def tab (b : Nat) : Nat := mix3 b ^^^ mix3 b / 2147483648

theorem mix1_lt (b : Nat) : mix1 b < M := Nat.mod_lt _ M_pos
theorem mix2_lt (b : Nat) : mix2 b < M := Nat.mod_lt _ M_pos
theorem mix3_lt (b : Nat) : mix3 b < M := Nat.mod_lt _ M_pos
theorem tab_lt (b : Nat) : tab b < M := by
  have h1 : mix3 b < 2 ^ 64 := by rw [← M_eq]; exact mix3_lt b
  have h2 : mix3 b / 2147483648 < 2 ^ 64 := Nat.lt_of_le_of_lt (Nat.div_le_self _ _) h1
  have := Nat.xor_lt_two_pow h1 h2
  rw [M_eq]
  exact this

def roll (h b : Nat) : Nat := (2 * h + tab b) % M
theorem roll_lt (h b : Nat) : roll h b < M := Nat.mod_lt _ M_pos

def hashFrom (h : Nat) (l : List UInt8) : Nat := l.foldl (fun h b => roll h b.toNat) h
def ghash (l : List UInt8) : Nat := hashFrom 0 l

theorem hashFrom_nil (h : Nat) : hashFrom h [] = h := rfl
theorem hashFrom_cons (h : Nat) (b : UInt8) (l : List UInt8) : hashFrom h (b :: l) = hashFrom (roll h b.toNat) l := rfl
theorem hashFrom_lt (l : List UInt8) : ∀ h, h < M → hashFrom h l < M := by
  induction l with
  | nil => intro h hh; rw [hashFrom_nil]; exact hh
  | cons b l ih => intro h _; rw [hashFrom_cons]; exact ih _ (roll_lt _ _)
theorem ghash_def (l : List UInt8) : ghash l = hashFrom 0 l := rfl
theorem ghash_lt (l : List UInt8) : ghash l < M := by rw [ghash_def]; exact hashFrom_lt l 0 M_pos
theorem ghash_nil : ghash [] = 0 := rfl
theorem hashFrom_append (h : Nat) (a b : List UInt8) : hashFrom h (a ++ b) = hashFrom (hashFrom h a) b := List.foldl_append ..
theorem ghash_append (a b : List UInt8) : ghash (a ++ b) = hashFrom (ghash a) b := by rw [ghash_def, ghash_def, hashFrom_append]
theorem ghash_snoc (l : List UInt8) (b : UInt8) : ghash (l ++ [b]) = roll (ghash l) b.toNat := by rw [ghash_append, hashFrom_cons, hashFrom_nil]

/-- A ghash that goes on from h: h, shifted up by as many places as there are bytes, and the bytes' own. -/
theorem hashFrom_eq (l : List UInt8) : ∀ h, h < M → hashFrom h l = (h * 2 ^ l.length + ghash l) % M := by
  induction l with
  | nil => intro h hh; rw [hashFrom_nil, ghash_nil, List.length_nil, Nat.pow_zero, Nat.mul_one, Nat.add_zero, Nat.mod_eq_of_lt hh]
  | cons b l ih =>
    intro h _
    rw [ghash_def (b :: l), hashFrom_cons, hashFrom_cons, ih _ (roll_lt _ _), ih _ (roll_lt _ _)]
    have r1 : roll h b.toNat % M = (2 * h + tab b.toNat) % M := by unfold roll; exact Nat.mod_mod _ _
    have r2 : roll 0 b.toNat % M = tab b.toNat % M := by
      unfold roll
      rw [Nat.mod_mod, Nat.mul_zero, Nat.zero_add]
    have e1 : (roll h b.toNat * 2 ^ l.length + ghash l) % M = ((2 * h + tab b.toNat) * 2 ^ l.length + ghash l) % M := by
      rw [Nat.add_mod, Nat.mul_mod, r1, ← Nat.mul_mod, ← Nat.add_mod]
    have e2 : (h * 2 ^ (b :: l).length + (roll 0 b.toNat * 2 ^ l.length + ghash l) % M) % M = (h * 2 ^ (b :: l).length + (tab b.toNat * 2 ^ l.length + ghash l)) % M := by
      have : (roll 0 b.toNat * 2 ^ l.length + ghash l) % M = (tab b.toNat * 2 ^ l.length + ghash l) % M := by
        rw [Nat.add_mod, Nat.mul_mod, r2, ← Nat.mul_mod, ← Nat.add_mod]
      rw [this, Nat.add_mod, Nat.mod_mod, ← Nat.add_mod]
    rw [e1, e2]
    congr 1
    rw [List.length_cons, Nat.pow_succ, Nat.add_mul, Nat.add_assoc]
    congr 1
    rw [Nat.mul_comm 2 h, Nat.mul_assoc, Nat.mul_comm 2]

/-- The ghash of two texts, one behind the other. -/
theorem ghash_two (a b : List UInt8) : ghash (a ++ b) = (ghash a * 2 ^ b.length + ghash b) % M := by
  rw [ghash_append, hashFrom_eq _ _ (ghash_lt a)]

theorem pow_mod_M (n k : Nat) : n * 2 ^ (64 + k) % M = 0 := by
  rw [M_eq, Nat.pow_add, Nat.mul_comm (2 ^ 64), ← Nat.mul_assoc]
  exact Nat.mul_mod_left _ _

/-- THE LAST 64. -/
theorem ghash_last (a s : List UInt8) (h : s.length = 64) : ghash (a ++ s) = ghash s := by
  rw [ghash_two, h, Nat.add_mod]
  have := pow_mod_M (ghash a) 0
  rw [Nat.add_zero] at this
  rw [this, Nat.zero_add, Nat.mod_mod, Nat.mod_eq_of_lt (ghash_lt s)]

theorem tab_all : ((List.range 256).map tab).Nodup := by decide +kernel

theorem tab_inj (x y : Nat) (hx : x < 256) (hy : y < 256) (h : tab x = tab y) : x = y := by
  have hn := tab_all
  rw [List.Nodup, List.pairwise_map] at hn
  have key : ∀ x y : Nat, x < y → y < 256 → tab x ≠ tab y := by
    intro x y hxy hy
    rw [List.pairwise_iff_getElem] at hn
    have := hn x y (by simp; omega) (by simpa using hy) hxy
    simpa using this
  rcases Nat.lt_trichotomy x y with hl | he | hl
  · exact absurd h (key x y hl hy)
  · exact he
  · exact absurd h.symm (key y x hl hx)

theorem tab_zero : tab 0 ≠ 0 := by decide +kernel

end Go.Proofs.Gear
