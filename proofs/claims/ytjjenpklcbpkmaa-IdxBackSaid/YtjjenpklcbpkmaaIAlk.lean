/-
  How many digits two keys begin with that are the same.
-/
import Derived.Test.YtjjenpklcbpkmaaIHex
namespace Go.Proofs.Ytjjenpklcbpkmaa
open Go.RowKit Go.Proofs.Mem
set_option linter.unusedVariables false

def alikeN : List UInt8 → List UInt8 → Nat
  | a :: x, b :: y => if a = b then alikeN x y + 1 else 0
  | _, _ => 0
theorem alikeN_le : ∀ (x y : List UInt8), alikeN x y ≤ x.length ∧ alikeN x y ≤ y.length
  | [], _ => by simp [alikeN]
  | _ :: _, [] => by simp [alikeN]
  | a :: x, b :: y => by
    unfold alikeN
    have := alikeN_le x y
    split
    · simp only [List.length_cons]; omega
    · simp
theorem alikeN_in : ∀ {x y : List UInt8} {n : Nat}, n < alikeN x y → x[n]? = y[n]?
  | [], _, n, h => by simp [alikeN] at h
  | _ :: _, [], n, h => by simp [alikeN] at h
  | a :: x, b :: y, n, h => by
    unfold alikeN at h
    split at h
    · rename_i e
      subst e
      cases n with
      | zero => rfl
      | succ n => exact alikeN_in (x := x) (y := y) (n := n) (by omega)
    · omega
theorem alikeN_end : ∀ {x y : List UInt8}, alikeN x y < x.length → alikeN x y < y.length → x[alikeN x y]? ≠ y[alikeN x y]?
  | [], _, h, _ => by simp [alikeN] at h
  | _ :: _, [], _, h => by simp [alikeN] at h
  | a :: x, b :: y, h1, h2 => by
    unfold alikeN at *
    split at h1
    · rename_i e
      rw [if_pos e] at *
      simp only [List.length_cons] at h1 h2
      have := alikeN_end (x := x) (y := y) (by omega) (by omega)
      simpa using this
    · rename_i e
      rw [if_neg e] at *
      simpa using e
theorem alike_take {x y : List UInt8} {n : Nat} (hx : n ≤ x.length) (hy : n ≤ y.length) : x.take n = y.take n ↔ n ≤ alikeN x y := by
  constructor
  · intro h
    rcases Nat.lt_or_ge (alikeN x y) n with h1 | h1
    · exfalso
      refine alikeN_end (x := x) (y := y) (by omega) (by omega) ?_
      have h2 := congrArg (fun l => l[alikeN x y]?) h
      simp only [List.getElem?_take, if_pos h1] at h2
      exact h2
    · exact h1
  · intro h
    refine List.ext_getElem? fun i => ?_
    rw [List.getElem?_take, List.getElem?_take]
    split
    · exact alikeN_in (by omega)
    · rfl

theorem hexD_inj : ∀ {a b : Nat}, a < 16 → b < 16 → hexD a = hexD b → a = b := by
  intro a b ha hb h
  unfold hexD at h
  split at h <;> split at h <;> omega
theorem hexL_cons (b : UInt8) (l : List UInt8) : hexL (b :: l) = UInt8.ofNat (hexD (b.toNat / 16)) :: UInt8.ofNat (hexD (b.toNat % 16)) :: hexL l := rfl
theorem ofNat_inj {a b : Nat} (ha : a < 256) (hb : b < 256) (h : UInt8.ofNat a = UInt8.ofNat b) : a = b := by
  have := congrArg UInt8.toNat h
  rw [UInt8.toNat_ofNat', UInt8.toNat_ofNat', Nat.mod_eq_of_lt (by omega), Nat.mod_eq_of_lt (by omega)] at this
  exact this
theorem hexL_inj : ∀ {a b : List UInt8}, hexL a = hexL b → a = b
  | [], [], _ => rfl
  | [], _ :: _, h => by rw [hexL_cons] at h; cases h
  | _ :: _, [], h => by rw [hexL_cons] at h; cases h
  | a :: x, b :: y, h => by
    rw [hexL_cons, hexL_cons] at h
    injection h with h1 h2
    injection h2 with h2 h3
    have ha := a.toNat_lt
    have hb := b.toNat_lt
    have e1 := hexD_inj (by omega) (by omega) (ofNat_inj (hexD_lt (by omega)) (hexD_lt (by omega)) h1)
    have e2 := hexD_inj (by omega) (by omega) (ofNat_inj (hexD_lt (by omega)) (hexD_lt (by omega)) h2)
    have e : a = b := UInt8.toNat_inj.1 (by omega)
    rw [e, hexL_inj h3]

theorem hexB_toList (k : ByteArray) : (hexB k).data.toList = hexL k.data.toList := rfl
theorem hexB_size (k : ByteArray) : (hexB k).size = 2 * k.size := by
  show (hexL k.data.toList).toArray.size = _
  rw [List.size_toArray, hexL_len, Array.length_toList]
  rfl
theorem hexB_inj {a b : ByteArray} (h : hexB a = hexB b) : a = b := by
  have := congrArg (fun s : ByteArray => s.data.toList) h
  have h2 := hexL_inj (a := a.data.toList) (b := b.data.toList) this
  cases a; cases b
  congr 1
  exact Array.toList_inj.1 h2
def alikeK (a b : ByteArray) : Nat := alikeN (hexB a).data.toList (hexB b).data.toList
theorem hexB_len (k : ByteArray) : (hexB k).data.toList.length = 2 * k.size := by
  rw [← hexB_size]
  exact Array.length_toList
theorem alikeK_le {a b : ByteArray} : alikeK a b ≤ 2 * a.size ∧ alikeK a b ≤ 2 * b.size := by
  have := alikeN_le (hexB a).data.toList (hexB b).data.toList
  rw [hexB_len, hexB_len] at this
  exact this
theorem extract_take {s t : ByteArray} {n : Nat} : s.extract 0 n = t.extract 0 n ↔ s.data.toList.take n = t.data.toList.take n := by
  have e : ∀ s : ByteArray, (s.extract 0 n).data.toList = s.data.toList.take n := fun s => by
    rw [ByteArray.data_extract, Array.toList_extract, List.extract_eq_take_drop]
    simp
  constructor
  · intro h
    rw [← e, ← e, h]
  · intro h
    rw [← e, ← e] at h
    apply ByteArray.ext
    exact Array.toList_inj.1 h
theorem alikeK_extract {a b : ByteArray} {n : Nat} (ha : n ≤ 2 * a.size) (hb : n ≤ 2 * b.size) : (hexB a).extract 0 n = (hexB b).extract 0 n ↔ n ≤ alikeK a b := by
  rw [extract_take]
  exact alike_take (by rw [hexB_len]; exact ha) (by rw [hexB_len]; exact hb)
theorem alikeK_ne {a b : ByteArray} (ha : a.size = 32) (hb : b.size = 32) (h : a ≠ b) : alikeK a b < 64 := by
  rcases Nat.lt_or_ge (alikeK a b) 64 with h1 | h1
  · exact h1
  · exfalso
    refine h (hexB_inj ?_)
    have := (alikeK_extract (a := a) (b := b) (n := 64) (by omega) (by omega)).2 h1
    have e : ∀ k : ByteArray, k.size = 32 → (hexB k).extract 0 64 = hexB k := fun k hk => by
      have hs : (hexB k).size = 64 := by rw [hexB_size]; omega
      rw [← hs]
      exact ByteArray.extract_zero_size
    rw [e a ha, e b hb] at this
    exact this
theorem getElem_list {s : ByteArray} {n : Nat} (h : n < s.size) : s.data.toList[n]? = some s[n] := by
  rw [List.getElem?_eq_getElem (by rw [Array.length_toList]; exact h)]
  rfl

set_option maxHeartbeats 1000000 in
theorem alike_any (a b : ByteArray) (w : World) (ha : a.size = 32) (hb : b.size = 32) :
    Calls Try.prog 45 #[.string a, .string b] w fun e w' => e = .returned (.int .i64 (alikeK a b : Nat)) ∧ Below w.heap.size w w' := by
  have HA := Lib.hid (fun W => khex_any a W (by omega))
  have HB := Lib.hid (fun W => khex_any b W (by omega))
  obtain ⟨N, hN⟩ : ∃ N, N = alikeK a b := ⟨_, rfl⟩
  have hNle := alikeK_le (a := a) (b := b)
  have hxs := hexB_size a
  have hys := hexB_size b
  unfold alikeK at hN
  obtain ⟨x, hx⟩ : ∃ x, x = hexB a := ⟨_, rfl⟩
  obtain ⟨y, hy⟩ : ∃ x, x = hexB b := ⟨_, rfl⟩
  have hN' : alikeK a b = N := by rw [hN]; rfl
  rw [hN'] at hNle ⊢
  rw [← hx] at HA hxs hN
  rw [← hy] at HB hys hN
  have hx64 : x.size = 64 := by omega
  have hy64 : y.size = 64 := by omega
  have hN64 : N ≤ 64 := by omega
  have HEQ : Hid (∀ n (h1 : n < x.size) (h2 : n < y.size), n < N → x[n] = y[n]) := Lib.hid (fun n h1 h2 h => by
    have := alikeN_in (x := x.data.toList) (y := y.data.toList) (n := n) (by rw [← hN]; exact h)
    rw [getElem_list h1, getElem_list h2] at this
    exact Option.some.inj this)
  have HNE : Hid (∀ (h1 : N < x.size) (h2 : N < y.size), x[N] ≠ y[N]) := Lib.hid (fun h1 h2 e => by
    refine alikeN_end (x := x.data.toList) (y := y.data.toList) (by rw [← hN, Array.length_toList]; exact h1) (by rw [← hN, Array.length_toList]; exact h2) ?_
    rw [← hN, getElem_list h1, getElem_list h2, e])
  have HX64 := Lib.hid hx64
  have HY64 := Lib.hid hy64
  have hx0 : x.size ≤ 64 := by omega
  have hy0 : y.size ≤ 64 := by omega
  clear hx hy hxs hys hN hN' hNle hx64 hy64
  go_enter Try.func45, Try.ntmps45
  go_wp2_with (first
    | (go_at_call 55; (with_reducible refine Calls.mono (HA.out _) ?_); rintro e w1 ⟨rfl, hB1⟩; have HB1 := Lib.hid hB1; clear hB1)
    | (go_at_call 55; (with_reducible refine Calls.mono (HB.out _) ?_); rintro e w2 ⟨rfl, hB2⟩; have HB2 := Lib.hid (bel HB1.out hB2); clear hB2))
  go_loopw [7] (fun i wr => ∃ n : Nat, i = .int .i64 n ∧ n ≤ N ∧ Hid (Below w.heap.size w wr)) (fun i _ => 65 - (intOf i).toNat)
  case atStart => exact ⟨0, rfl, Nat.zero_le _, HB2⟩
  case round =>
    obtain ⟨n, rfl, hn, hB⟩ := hrel
    by_cases h64 : n < 64
    case neg =>
      have d1 : decide (n < x.size) = false := decide_eq_false (by have := HX64.out; omega)
      obtain rfl : n = N := by omega
      go_wp2_with fail
      go_quiet (fail)
      go_wp2_with fail
      go_ret
      exact ⟨rfl, below_drewN hB.out _⟩
    have d1 : decide (n < x.size) = true := decide_eq_true (by have := HX64.out; omega)
    have d2 : decide (n < y.size) = true := decide_eq_true (by have := HY64.out; omega)
    have i0 : (0 : Int) ≤ (n : Int) := by omega
    have i1 : (n : Int) < (x.size : Int) := by have := HX64.out; omega
    have i2 : (n : Int) < (y.size : Int) := by have := HY64.out; omega
    have k1 : n < x.size := by have := HX64.out; omega
    have k2 : n < y.size := by have := HY64.out; omega
    by_cases hlt : n < N
    · have d3 : ((x[n].toNat : Int) == (y[n].toNat : Int)) = true := by rw [HEQ.out n k1 k2 hlt]; simp
      go_wp2_with fail
      go_quiet (fail)
      go_wp2_with fail
      go_roundw
      case rel => exact ⟨n + 1, by go_num, by omega, Lib.hid (below_drewN hB.out _)⟩
      case measure => simp [intOf]; omega
    · obtain rfl : n = N := by omega
      have d3 : ((x[n].toNat : Int) == (y[n].toNat : Int)) = false := by
        rw [beq_eq_false_iff_ne]
        intro e
        exact HNE.out k1 k2 (UInt8.toNat_inj.1 (Int.ofNat_inj.1 e))
      go_wp2_with fail
      go_quiet (fail)
      go_wp2_with fail
      go_ret
      exact ⟨rfl, below_drewN hB.out _⟩

end Go.Proofs.Ytjjenpklcbpkmaa
