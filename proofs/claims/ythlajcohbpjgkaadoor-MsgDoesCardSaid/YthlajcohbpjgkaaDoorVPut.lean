/-
  NUMBERS AS BYTES: both Puts.
-/
import Derived.Test.YthlajcohbpjgkaaDoorVSh
import Derived.Test.YthlajcohbpjgkaaDoorLBase
namespace Go.Proofs.YthlajcohbpjgkaaDoor
open Go.RowKit Go.Proofs.Mem
set_option linter.unusedVariables false

/-- A number's groups of seven bits, the lowest first; of all but the last the eighth bit is set. -/
def putL : Nat → Nat → List UInt8
  | 0, n => [UInt8.ofNat n]
  | k + 1, n => if n < 128 then [UInt8.ofNat n] else UInt8.ofNat (n % 128 + 128) :: putL k (n / 128)
def putB (n : Nat) : ByteArray := ⟨(putL 10 n).toArray⟩
theorem putL_small (k n : Nat) (h : n < 128) : putL k n = [UInt8.ofNat n] := by
  cases k with
  | zero => rfl
  | succ k => show (if n < 128 then _ else _) = _; rw [if_pos h]
theorem putL_big (k n : Nat) (h : ¬n < 128) (hk : n < 128 ^ k) : ∃ j, k = j + 1 ∧ n / 128 < 128 ^ j ∧ putL k n = UInt8.ofNat (n % 128 + 128) :: putL j (n / 128) := by
  cases k with
  | zero => exfalso; simp at hk; omega
  | succ j =>
    refine ⟨j, rfl, ?_, ?_⟩
    · rw [Nat.pow_succ] at hk
      exact Nat.div_lt_of_lt_mul (by rw [Nat.mul_comm]; exact hk)
    · show (if n < 128 then _ else _) = _
      rw [if_neg h]
theorem or_128 : ∀ c : Fin 256, c.val ||| 128 = c.val % 128 + 128 := by decide +kernel
theorem or_128' (m : Nat) : bits .or .u8 (IntKind.u8.wrap (m : Int)) 128 = ((m % 128 + 128 : Nat) : Int) := by
  have e : IntKind.u8.wrap (m : Int) = ((m % 256 : Nat) : Int) := by simp [IntKind.wrap, IntKind.bits, IntKind.signed]
  have h := or_u8 (m % 256) 128 (by omega) (by decide)
  rw [e]
  have h2 := or_128 ⟨m % 256, by omega⟩
  dsimp only at h2
  rw [h2] at h
  have h3 : m % 256 % 128 = m % 128 := by omega
  rw [h3] at h
  exact h

theorem wrap_u8 (m : Nat) : IntKind.u8.wrap (m : Int) = ((m % 256 : Nat) : Int) := by simp [IntKind.wrap, IntKind.bits, IntKind.signed]
theorem byteCells_snoc (l : List UInt8) (x : Nat) (hx : x < 256) : Lib.byteCells l ++ [.int .u8 (x : Nat)] = Lib.byteCells (l ++ [UInt8.ofNat x]) := by
  unfold Lib.byteCells
  rw [List.map_append]
  congr 1
  show [Value.int .u8 (x : Nat)] = [Value.int .u8 ((UInt8.ofNat x).toNat : Nat)]
  rw [UInt8.toNat_ofNat', Nat.mod_eq_of_lt (by omega)]
theorem byteCells_len (l : List UInt8) : (Lib.byteCells l).length = l.length := by unfold Lib.byteCells; rw [List.length_map]

set_option maxHeartbeats 1000000 in
theorem vput_any (n : Nat) (w : World) (hn : n < 18446744073709551616) :
    Calls Tryd.prog 22 #[.int .u64 n] w fun e w' => e = .returned (.string (putB n)) ∧ Below w.heap.size w w' := by
  have hI0 := Lib.fresh_isBuilder 46 5 w
  have HI0 : Hid (Lib.IsBuilder 46 5 w.heap.size w.heap.size (Lib.byteCells []) (w.alloc (.cells #[.pointer none, .slice none 0 0] 46))) := Lib.hid hI0
  have HB0 : Hid (Below w.heap.size w (w.alloc (.cells #[.pointer none, .slice none 0 0] 46))) := Lib.hid ((Below.refl _ _).alloc (Nat.le_refl _) _)
  clear hI0
  go_enter Tryd.func22, Tryd.ntmps22
  go_wp2
  go_loopw [0] (fun v wr => ∃ (m k : Nat) (l : List UInt8), v = .int .u64 m ∧ m < 18446744073709551616 ∧ l.length + k = 10 ∧ Hid (m < 128 ^ k) ∧ Hid (l ++ putL k m = putL 10 n) ∧ Hid (Lib.IsBuilder 46 5 w.heap.size w.heap.size (Lib.byteCells l) wr) ∧ Hid (Below w.heap.size w wr)) (fun v _ => (intOf v).toNat)
  case atStart => exact ⟨n, 10, [], rfl, hn, rfl, Lib.hid (by have : 128 ^ 10 = 1180591620717411303424 := by decide
                                                              omega), Lib.hid rfl, HI0, HB0⟩
  case round =>
    obtain ⟨m, k, l, rfl, hm, hlk, HM, HL, HI, HB⟩ := hrel
    clear HI0 HB0
    by_cases hs : m < 128
    · have d1 : decide (127 < (m : Int)) = false := decide_eq_false (by omega)
      have d2 : decide (127 < m) = false := decide_eq_false (by omega)
      have hw : IntKind.u8.wrap (m : Int) = (m : Int) := by rw [wrap_u8, Nat.mod_eq_of_lt (by omega)]
      have hres : (⟨(l ++ [UInt8.ofNat m]).toArray⟩ : ByteArray) = putB n := by have := HL.out; rw [putL_small k m hs] at this; unfold putB; rw [this]
      have HRES := Lib.hid hres
      have HS := Lib.hid hs
      clear hres hs
      go_wp2_with (first
        | (go_at_call 19
           refine Calls.mono (bld_write w.heap.size w.heap.size (Lib.byteCells l) (m : Int) _ HI.out (by rw [byteCells_len]; omega) HB.out.size) ?_
           rintro e w1 ⟨rfl, hbl, hB1⟩
           rw [byteCells_snoc l m (by have := HS.out; omega)] at hbl
           have HBL := Lib.hid hbl
           have HB1 := Lib.hid (HB.out.trans hB1)
           clear hbl hB1)
        | (go_at_call 24
           refine Calls.mono (bld_string w.heap.size w.heap.size (l ++ [UInt8.ofNat m]) _ (.inr HBL.out) HB1.out.size) ?_
           rw [HRES.out]
           rintro e w2 ⟨rfl, hB2⟩))
      go_ret
      exact ⟨rfl, HB1.out.trans hB2⟩
    · obtain ⟨j, hj, hm2, hpl⟩ := putL_big k m hs HM.out
      have d1 : decide (127 < (m : Int)) = true := decide_eq_true (by omega)
      have d2 : decide (127 < m) = true := decide_eq_true (by omega)
      have hor := or_128' m
      rw [wrap_u8, Int.natCast_emod] at hor
      have HOR : Hid (bits .or .u8 ((m : Int) % 256) 128 = ((m % 128 + 128 : Nat) : Int)) := Lib.hid hor
      clear hor
      have hm0 : (0 : Int) ≤ (m : Int) := Int.natCast_nonneg _
      have HJ := Lib.hid hj
      have HM2 := Lib.hid hm2
      have HPL : Hid ((l ++ [UInt8.ofNat (m % 128 + 128)]) ++ putL j (m / 128) = putL 10 n) := Lib.hid (by rw [← HL.out, hpl, List.append_assoc]; rfl)
      have HS := Lib.hid hs
      clear hj hm2 hpl hs
      go_wp2_with (go_at_call 19
                   refine Calls.mono (bld_write w.heap.size w.heap.size (Lib.byteCells l) _ _ HI.out (by rw [byteCells_len]; omega) HB.out.size) ?_
                   rintro e w1 ⟨rfl, hbl, hB1⟩
                   rw [HOR.out, byteCells_snoc l (m % 128 + 128) (by omega)] at hbl
                   have HBL := Lib.hid hbl
                   have HB1 := Lib.hid (HB.out.trans hB1)
                   clear hbl hB1)
      go_roundw
      case rel => exact ⟨m / 128, j, l ++ [UInt8.ofNat (m % 128 + 128)], by go_num, by omega, by rw [List.length_append, List.length_singleton]; have := HJ.out; omega, HM2, HPL, Lib.hid (.inr HBL.out), HB1⟩
      case measure => have := HS.out; simp [intOf]; omega

/-- Bytes of the call's own, as a text. -/
theorem conv_own (w : World) (base : Nat) (v : Value) (l : List UInt8) (h0 : l ≠ []) (h : w.ownsRow base 5 1 v l.length (Lib.byteCells l)) :
    Sem.run Tryd.prog (convert 44 9 v) w = .ok (.string ⟨l.toArray⟩) w := by
  rcases h.2 with ⟨_, hn⟩ | ⟨g, cap, cur, rfl, _, hh, _, _, _, hx⟩
  · exfalso
    exact h0 (List.length_eq_zero_iff.1 hn)
  · refine run_convert_bytes_back (P := Tryd.prog) w 44 9 5 ⟨g, 0, none⟩ cap l Tryd.underlying44 Tryd.underlying5 Tryd.underlying9 fun j hj => ?_
    have ha : Addr.add ⟨g, 0, none⟩ j = ⟨g, j, none⟩ := by cases j <;> simp [Addr.add]
    rw [ha, cell_of_row w g j cur 5 (0, 0) hh]
    have h1 : (Lib.byteCells l)[j]? = some (.int .u8 (l[j].toNat : Nat)) := by unfold Lib.byteCells; rw [List.getElem?_map, List.getElem?_eq_getElem hj]; rfl
    rw [← hx, List.getElem?_take] at h1
    rw [Nat.mul_one, if_pos hj] at h1
    simpa using h1

set_option maxHeartbeats 1000000 in
theorem rput_any (n : Nat) (w : World) (hn : n < 18446744073709551616) :
    Calls Tryd.prog 40 #[.int .u64 n] w fun e w' => e = .returned (.string (putB n)) ∧ Below w.heap.size w w' := by
  obtain ⟨i0, hi, hz0, hz1, hz2⟩ := info_parts Tryd.infoU
  go_enter Tryd.func40, Tryd.ntmps40
  go_wp2
  go_loopw [0, 3] (fun v s wr => ∃ (m k : Nat) (l : List UInt8), v = .int .u64 m ∧ m < 18446744073709551616 ∧ l.length + k = 10 ∧ Hid (m < 128 ^ k) ∧ Hid (l ++ putL k m = putL 10 n) ∧ wr.ownsRow w.heap.size 5 1 s l.length (Lib.byteCells l) ∧ Hid (Below w.heap.size w wr)) (fun v _ _ => (intOf v).toNat)
  case atStart => exact ⟨n, 10, [], rfl, hn, rfl, Lib.hid (by have : 128 ^ 10 = 1180591620717411303424 := by decide
                                                              omega), Lib.hid rfl, World.ownsRow_nil _ _ _ _, Lib.hid (Below.refl _ _)⟩
  case round =>
    obtain ⟨m, k, l, rfl, hm, hlk, HM, HL, hown, HB⟩ := hrel
    obtain ⟨A0, n0, k0, rfl⟩ := own_slice hown
    have HSz := Lib.hid HB.out.size
    by_cases hs : m < 128
    · have d1 : decide (128 ≤ (m : Int)) = false := decide_eq_false (by omega)
      have d2 : decide (128 ≤ m) = false := decide_eq_false (by omega)
      have hw : (m : Int) % 256 = (m : Int) := by omega
      have hres : (⟨(l ++ [UInt8.ofNat m]).toArray⟩ : ByteArray) = putB n := by have := HL.out; rw [putL_small k m hs] at this; unfold putB; rw [this]
      have HRES := Lib.hid hres
      have HS := Lib.hid hs
      clear hres hs
      go_wp2_with (at_builtin
                   refine wpList_append_lies _ rfl _ _ _ rfl w.heap.size 5 i0 _ 1 1 Tryd.underlying44 hi hz0 hz1 hz2 rfl (by omega) _ l.length _ rfl (hown.alloc _) ⟨wr.heap.size, 0, none⟩ 1 1 [.int .u8 (m : Int)] rfl rfl (World.news_of_block (cs := #[.int .u8 (m : Int)]) (t := 5) (fr := (0, 0)) (heap_alloc_new wr _)) (by simp [Value.oneCell']) (by omega) (by unfold maxLen; omega) (by omega) (by have := HSz.out; simp; omega) (wr.heap.size + 1) (by simp) ?_
                   intro gg cap w2 hown2 hgrow hat hlt
                   have hb2 : Below w.heap.size wr w2 := (((Below.refl _ _).alloc HSz.out _)).grown hgrow (by have := HSz.out; simp; omega) (fun q e => (hown.lt q e).1)
                   have HB2 := Lib.hid (HB.out.trans hb2)
                   rw [byteCells_snoc l m (by have := HS.out; omega)] at hown2
                   have hcv := conv_own w2 w.heap.size _ (l ++ [UInt8.ofNat m]) (by simp) (by rw [List.length_append, List.length_singleton]; exact hown2)
                   rw [HRES.out] at hcv
                   clear hown2 hgrow hat hlt hb2)
      go_ret
      exact ⟨rfl, HB2.out⟩
    · obtain ⟨j, hj, hm2, hpl⟩ := putL_big k m hs HM.out
      have d1 : decide (128 ≤ (m : Int)) = true := decide_eq_true (by omega)
      have d2 : decide (128 ≤ m) = true := decide_eq_true (by omega)
      have hm0 : (0 : Int) ≤ (m : Int) := Int.natCast_nonneg _
      have HW3 : Hid ((m : Int) % 128 + 128 = ((m % 128 + 128 : Nat) : Int)) := Lib.hid (by omega)
      have HJ := Lib.hid hj
      have HM2 := Lib.hid hm2
      have HPL : Hid ((l ++ [UInt8.ofNat (m % 128 + 128)]) ++ putL j (m / 128) = putL 10 n) := Lib.hid (by rw [← HL.out, hpl, List.append_assoc]; rfl)
      have HS := Lib.hid hs
      clear hj hm2 hpl hs
      go_wp2_with (at_builtin
                   refine wpList_append_lies _ rfl _ _ _ rfl w.heap.size 5 i0 _ 1 1 Tryd.underlying44 hi hz0 hz1 hz2 rfl (by omega) _ l.length _ rfl (hown.alloc _) ⟨wr.heap.size, 0, none⟩ 1 1 [.int .u8 ((m : Int) % 128 + 128)] rfl rfl (World.news_of_block (cs := #[.int .u8 ((m : Int) % 128 + 128)]) (t := 5) (fr := (0, 0)) (heap_alloc_new wr _)) (by simp [Value.oneCell']) (by omega) (by unfold maxLen; omega) (by omega) (by have := HSz.out; simp; omega) (wr.heap.size + 1) (by simp) ?_
                   intro gg cap w2 hown2 hgrow hat hlt
                   have hb2 : Below w.heap.size wr w2 := (((Below.refl _ _).alloc HSz.out _)).grown hgrow (by have := HSz.out; simp; omega) (fun q e => (hown.lt q e).1)
                   have HB2 := Lib.hid (HB.out.trans hb2)
                   rw [HW3.out, byteCells_snoc l (m % 128 + 128) (by omega)] at hown2
                   have HO2 := Lib.hid hown2
                   clear hown2 hgrow hat hlt hb2)
      go_roundw
      case rel => exact ⟨m / 128, j, l ++ [UInt8.ofNat (m % 128 + 128)], by go_num, by omega, by rw [List.length_append, List.length_singleton]; have := HJ.out; omega, HM2, HPL, by rw [List.length_append, List.length_singleton]; exact HO2.out, HB2⟩
      case measure => have := HS.out; simp [intOf]; omega
end Go.Proofs.YthlajcohbpjgkaaDoor
