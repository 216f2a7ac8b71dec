/-
  Checksums: both packages.
-/
import Derived.Test.YtjjenpklcbpkmaaVSh
import Derived.Test.YtjjenpklcbpkmaaMem
import Derived.Laws.Bits64
import Derived.Shelf.Spec.TrailingZeros
import Derived.Lib.Hide
import Derived.Handy
namespace Go.Proofs.Ytjjenpklcbpkmaa
open Go.RowKit Go.Proofs.Mem
set_option linter.unusedVariables false

theorem wrap_u32 (n : Int) : IntKind.u32.wrap n = n % 4294967296 := by simp [IntKind.wrap, IntKind.bits, IntKind.signed]
theorem xor_u32 (a b : Nat) (ha : a < 4294967296) (hb : b < 4294967296) : bits .xor .u32 (a : Int) (b : Int) = ((a ^^^ b : Nat) : Int) := by
  have hx : a ^^^ b < 2 ^ 32 := Nat.xor_lt_two_pow (by omega) (by omega)
  have h1 : (BitVec.ofInt 32 (a : Int)).toNat = a := by
    rw [BitVec.ofInt_natCast, BitVec.toNat_ofNat]; exact Nat.mod_eq_of_lt (by omega)
  have h2 : (BitVec.ofInt 32 (b : Int)).toNat = b := by
    rw [BitVec.ofInt_natCast, BitVec.toNat_ofNat]; exact Nat.mod_eq_of_lt (by omega)
  show IntKind.u32.wrap ((BitVec.ofInt 32 (a : Int) ^^^ BitVec.ofInt 32 (b : Int)).toNat : Int) = _
  rw [BitVec.toNat_xor, h1, h2, wrap_u32]
  omega

/-- A checksum behind one bit. -/
def crcR (c : Nat) : Nat := if c % 2 = 1 then (c / 2) ^^^ 2197175160 else c / 2
theorem crcR_lt {c : Nat} (h : c < 4294967296) : crcR c < 4294967296 := by
  unfold crcR
  split
  · have : c / 2 ^^^ 2197175160 < 2 ^ 32 := Nat.xor_lt_two_pow (by omega) (by omega)
    omega
  · omega
def crcI : Nat → Nat → Nat
  | 0, c => c
  | k + 1, c => crcI k (crcR c)
theorem crcI_succ (k c : Nat) : crcI (k + 1) c = crcR (crcI k c) := by
  induction k generalizing c with
  | zero => rfl
  | succ k ih => exact ih (crcR c)
theorem crcI_lt {c : Nat} (k : Nat) (h : c < 4294967296) : crcI k c < 4294967296 := by
  induction k generalizing c with
  | zero => exact h
  | succ k ih => exact ih (crcR_lt h)
def crcS (c b : Nat) : Nat := crcI 8 (c ^^^ b)
theorem xor_lt {c b : Nat} (h : c < 4294967296) (hb : b < 256) : c ^^^ b < 4294967296 := by
  have : c ^^^ b < 2 ^ 32 := Nat.xor_lt_two_pow (by omega) (by omega)
  omega
theorem crcS_lt {c b : Nat} (h : c < 4294967296) (hb : b < 256) : crcS c b < 4294967296 := crcI_lt 8 (xor_lt h hb)
def crcF (c : Nat) (l : List UInt8) : Nat := l.foldl (fun c b => crcS c b.toNat) c
theorem crcF_lt {c : Nat} (l : List UInt8) (h : c < 4294967296) : crcF c l < 4294967296 := by
  induction l generalizing c with
  | nil => exact h
  | cons b l ih => exact ih (crcS_lt h b.toNat_lt)
theorem crcF_snoc (c : Nat) (l : List UInt8) (b : UInt8) : crcF c (l ++ [b]) = crcS (crcF c l) b.toNat := by unfold crcF; rw [List.foldl_append]; rfl
/-- A text's checksum. -/
def crcN (s : ByteArray) : Nat := 4294967295 - crcF 4294967295 s.data.toList

set_option maxHeartbeats 1000000 in
theorem step_any (c b : Nat) (w : World) (hc : c < 4294967296) (hb : b < 256) :
    Calls Try.prog 59 #[.int .u32 c, .int .u8 b] w fun e w' => e = .returned (.int .u32 (crcS c b : Nat)) ∧ w' = w := by
  obtain ⟨x, hx⟩ : ∃ x, x = c ^^^ b := ⟨_, rfl⟩
  have hxl : x < 4294967296 := by rw [hx]; exact xor_lt hc hb
  have hxx := xor_u32 c b hc (by omega)
  rw [← hx] at hxx
  have hwb : IntKind.u32.wrap (b : Int) = (b : Int) := by rw [wrap_u32]; omega
  have HR : Hid (crcS c b = crcI 8 x) := Lib.hid (by rw [hx]; rfl)
  clear hx
  go_enter Try.func59, Try.ntmps59
  go_wp2_with fail
  go_loopw [0, 9] (fun c i wr => ∃ (k y : Nat), i = .int .i64 k ∧ k ≤ 8 ∧ c = .int .u32 y ∧ y < 4294967296 ∧ wr = w ∧ Hid (crcI (8 - k) y = crcI 8 x)) (fun _ i _ => 9 - (intOf i).toNat)
  case atStart => exact ⟨0, x, rfl, by omega, rfl, hxl, rfl, Lib.hid rfl⟩
  case round =>
    obtain ⟨k, y, rfl, hk, rfl, hy, rfl, hE⟩ := hrel
    by_cases hlt : k < 8
    · have i1 : (k : Int) < 8 := by omega
      have hand : bits .and .u32 (y : Int) 1 = ((y % 2 : Nat) : Int) := by
        have := bits_and_u32_nat y 1 hy (by omega)
        rw [Nat.and_one_is_mod] at this
        exact this
      have hE' : Hid (crcI (8 - (k + 1)) (crcR y) = crcI 8 x) := Lib.hid (by
        have h1 := hE.out
        rw [show 8 - k = (8 - (k + 1)) + 1 by omega] at h1
        exact h1)
      have hrl := crcR_lt hy
      clear hE
      by_cases ho : y % 2 = 1
      · rw [ho] at hand
        have hr : ((y / 2 ^^^ 2197175160 : Nat) : Int) = (crcR y : Nat) := by unfold crcR; rw [if_pos ho]
        have hx2 := xor_u32 (y / 2) 2197175160 (by omega) (by omega)
        rw [hr] at hx2
        have hx3 : bits .xor .u32 ((y : Int) / 2) 2197175160 = (crcR y : Nat) := by rw [← hx2]; congr 1
        have hm : bits .and .u32 2197175160 4294967295 = 2197175160 := by decide +kernel
        clear hr hx2
        go_wp2_with fail
        go_roundw
        case rel => exact ⟨k + 1, crcR y, by go_num, by omega, rfl, hrl, trivial, hE'⟩
        case measure => simp [intOf]; omega
      · have ho : y % 2 = 0 := by omega
        rw [ho] at hand
        have hr : ((y / 2 ^^^ 0 : Nat) : Int) = (crcR y : Nat) := by unfold crcR; rw [if_neg (by omega), Nat.xor_zero]
        have hx2 := xor_u32 (y / 2) 0 (by omega) (by omega)
        rw [hr] at hx2
        have hx3 : bits .xor .u32 ((y : Int) / 2) 0 = (crcR y : Nat) := by rw [← hx2]; congr 1
        have hm : bits .and .u32 2197175160 0 = 0 := by decide +kernel
        clear hr hx2
        go_wp2_with fail
        go_roundw
        case rel => exact ⟨k + 1, crcR y, by go_num, by omega, rfl, hrl, trivial, hE'⟩
        case measure => simp [intOf]; omega
    · obtain rfl : k = 8 := by omega
      go_wp2_with fail
      go_ret
      refine ⟨?_, rfl⟩
      rw [HR.out, ← hE.out]
      rfl

theorem by_any (c b : Nat) (w : World) (hc : c < 4294967296) (hb : b < 256) :
    Calls Try.prog 58 #[.int .u32 c, .int .u8 b] w fun e w' => e = .returned (.int .u32 (crcS c b : Nat)) ∧ w' = w := by
  go_enter Try.func58, Try.ntmps58
  go_wp2_with (go_at_call 59; refine (step_any c b _ hc hb).mono ?_; rintro e w' ⟨rfl, rfl⟩)
  go_ret
  exact ⟨rfl, rfl⟩

theorem take_snoc {s : ByteArray} {k : Nat} (h : k < s.size) : s.data.toList.take (k + 1) = s.data.toList.take k ++ [s[k]] := by
  rw [List.take_add_one]
  congr 1
  have : s.data.toList[k]? = some s[k] := by
    rw [List.getElem?_eq_getElem (by simpa using h)]
    rfl
  rw [this]
  rfl

set_option maxHeartbeats 1000000 in
theorem fold_any (c : Nat) (s : ByteArray) (w : World) (hc : c < 4294967296) (hs : s.size ≤ 9223372036854775807) :
    Calls Try.prog 57 #[.int .u32 c, .string s, .func (.func 58) #[] #[]] w fun e w' => e = .returned (.int .u32 (crcF c s.data.toList : Nat)) ∧ Below w.heap.size w w' := by
  go_enter Try.func57, Try.ntmps57
  go_wp2_with fail
  go_loopw [0, 7, 10] (fun v _ i wr => ∃ (k : Nat), i = .int .i64 k ∧ k ≤ s.size ∧ v = .int .u32 (crcF c (s.data.toList.take k) : Nat) ∧ Hid (Below w.heap.size w wr)) (fun _ _ i _ => s.size + 1 - (intOf i).toNat)
  case atStart => exact ⟨0, rfl, Nat.zero_le _, rfl, Lib.hid (Below.refl _ _)⟩
  case round =>
    obtain ⟨k, rfl, hk, rfl, hB⟩ := hrel
    by_cases hlt : k < s.size
    · have i1 : (k : Int) < (s.size : Int) := by omega
      have hT : Hid (crcF c (s.data.toList.take (k + 1)) = crcS (crcF c (s.data.toList.take k)) (s[k]).toNat) := Lib.hid (by rw [take_snoc hlt, crcF_snoc])
      obtain ⟨y, hy⟩ : ∃ y, y = crcF c (s.data.toList.take k) := ⟨_, rfl⟩
      have hyl : y < 4294967296 := by rw [hy]; exact crcF_lt _ hc
      rw [← hy] at hT ⊢
      clear hy
      have hbl := (s[k]).toNat_lt
      go_wp2_with (first
        | (go_at_call 58; refine (by_any y _ _ hyl (by exact hbl)).mono ?_; rintro e w' ⟨rfl, rfl⟩))
      go_roundw
      case rel => exact ⟨k + 1, by go_num, by omega, by rw [hT.out], hB⟩
      case measure => simp [intOf]; omega
    · obtain rfl : k = s.size := by omega
      go_wp2_with fail
      go_ret
      refine ⟨?_, hB.out⟩
      rw [List.take_of_length_le (by simp)]
      rfl

theorem compl_u32 (c : Nat) (hc : c < 4294967296) : bits .xor .u32 IntKind.u32.max (c : Int) = ((4294967295 - c : Nat) : Int) := by
  have h := xor_u32 4294967295 c (by omega) hc
  have e : 4294967295 ^^^ c = 4294967295 - c := by
    have h1 : (BitVec.allOnes 32 ^^^ BitVec.ofNat 32 c).toNat = 4294967295 ^^^ c := by
      rw [BitVec.toNat_xor, BitVec.toNat_allOnes, BitVec.toNat_ofNat, Nat.mod_eq_of_lt (by omega)]
    have h2 : (~~~ (BitVec.ofNat 32 c)).toNat = 4294967295 - c := by
      rw [BitVec.toNat_not, BitVec.toNat_ofNat, Nat.mod_eq_of_lt (by omega)]
    rw [← h1, ← h2, BitVec.allOnes_xor]
  rw [e] at h
  exact h

theorem more_any (c : Nat) (s : ByteArray) (w : World) (hc : c < 4294967296) (hs : s.size ≤ 9223372036854775807) :
    Calls Try.prog 51 #[.int .u32 c, .string s] w fun e w' => e = .returned (.int .u32 (4294967295 - crcF (4294967295 - c) s.data.toList : Nat)) ∧ Below w.heap.size w w' := by
  obtain ⟨d, hd⟩ : ∃ d, d = 4294967295 - c := ⟨_, rfl⟩
  have hdl : d < 4294967296 := by omega
  rw [← hd]
  obtain ⟨f, hf⟩ : ∃ f, f = crcF d s.data.toList := ⟨_, rfl⟩
  have hfl : f < 4294967296 := by rw [hf]; exact crcF_lt _ hdl
  have C := Lib.hid (fun W => fold_any d s W hdl hs)
  rw [← hf] at C ⊢
  clear hf
  have h1 := compl_u32 c hc
  have h2 := compl_u32 f hfl
  rw [← hd] at h1
  clear hd
  go_enter Try.func51, Try.ntmps51
  go_wp2_with (go_at_call 57; (first | rw [show ((if IntKind.u32.signed = true then -1 else IntKind.u32.max : Int)) = IntKind.u32.max from rfl, h1] | skip); refine (C.out _).mono ?_; rintro e w' ⟨rfl, hB⟩; have HB := Lib.hid hB; clear hB)
  go_ret
  exact ⟨rfl, HB.out⟩

theorem sum_any (s : ByteArray) (w : World) (hs : s.size ≤ 9223372036854775807) :
    Calls Try.prog 33 #[.string s] w fun e w' => e = .returned (.int .u32 (crcN s : Nat)) ∧ Below w.heap.size w w' := by
  have C := Lib.hid (fun W => more_any 0 s W (by omega) hs)
  obtain ⟨f, hf⟩ : ∃ f, f = crcN s := ⟨_, rfl⟩
  rw [show 4294967295 - crcF (4294967295 - 0) s.data.toList = f from hf.symm] at C
  rw [← hf]
  clear hf
  go_enter Try.func33, Try.ntmps33
  go_wp2_with (go_at_call 51; refine (C.out _).mono ?_; rintro e w' ⟨rfl, hB⟩; have HB := Lib.hid hB; clear hB)
  go_ret
  exact ⟨rfl, HB.out⟩


def crcL (c : Nat) : List UInt8 := [UInt8.ofNat c, UInt8.ofNat (c / 256), UInt8.ofNat (c / 65536), UInt8.ofNat (c / 16777216)]
/-- A checksum as bytes. -/
def crcB (c : Nat) : ByteArray := ⟨(crcL c).toArray⟩

theorem wrap_u8 (m : Nat) : IntKind.u8.wrap (m : Int) = ((m % 256 : Nat) : Int) := by simp [IntKind.wrap, IntKind.bits, IntKind.signed]

theorem conv_bytes (w : World) (g cap : Nat) (l : List UInt8) (h : ∀ j (hj : j < l.length), w.cell? ⟨g, j, none⟩ = some (.int .u8 (l[j].toNat : Nat))) :
    Sem.run Try.prog (convert 55 9 (.slice (some ⟨g, 0, none⟩) l.length cap)) w = .ok (.string ⟨l.toArray⟩) w := by
  refine run_convert_bytes_back (P := Try.prog) w 55 9 5 ⟨g, 0, none⟩ cap l Try.underlying55 Try.underlying5 Try.underlying9 fun j hj => ?_
  have ha : Addr.add ⟨g, 0, none⟩ j = ⟨g, j, none⟩ := by cases j <;> simp [Addr.add]
  rw [ha]
  exact h j hj
theorem u8_int {x : Int} (h0 : 0 ≤ x) (h : x < 256) : ((UInt8.ofNat x.toNat).toNat : Int) = x := by
  rw [UInt8.toNat_ofNat']
  omega
/-- Four numbers laid anew, as a string. -/
theorem conv4 (w : World) (x0 x1 x2 x3 : Int) (h0 : 0 ≤ x0 ∧ x0 < 256) (h1 : 0 ≤ x1 ∧ x1 < 256) (h2 : 0 ≤ x2 ∧ x2 < 256) (h3 : 0 ≤ x3 ∧ x3 < 256) :
    Sem.run Try.prog (convert 55 9 (.slice (some ⟨w.heap.size, 0, none⟩) 4 4)) (w.alloc (.cells #[.int .u8 x0, .int .u8 x1, .int .u8 x2, .int .u8 x3] 5))
      = .ok (.string ⟨#[UInt8.ofNat x0.toNat, UInt8.ofNat x1.toNat, UInt8.ofNat x2.toNat, UInt8.ofNat x3.toNat]⟩) (w.alloc (.cells #[.int .u8 x0, .int .u8 x1, .int .u8 x2, .int .u8 x3] 5)) := by
  refine conv_bytes (w.alloc (.cells #[.int .u8 x0, .int .u8 x1, .int .u8 x2, .int .u8 x3] 5)) w.heap.size 4 [UInt8.ofNat x0.toNat, UInt8.ofNat x1.toNat, UInt8.ofNat x2.toNat, UInt8.ofNat x3.toNat] fun j hj => ?_
  rw [cell_of_row _ _ j _ _ (0, 0) (heap_alloc_new w _)]
  have hj4 : j = 0 ∨ j = 1 ∨ j = 2 ∨ j = 3 := by
    have : j < 4 := hj
    omega
  rcases hj4 with rfl | rfl | rfl | rfl
  · show some (Value.int .u8 x0) = some (Value.int .u8 ((UInt8.ofNat x0.toNat).toNat : Nat)); rw [u8_int h0.1 h0.2]
  · show some (Value.int .u8 x1) = some (Value.int .u8 ((UInt8.ofNat x1.toNat).toNat : Nat)); rw [u8_int h1.1 h1.2]
  · show some (Value.int .u8 x2) = some (Value.int .u8 ((UInt8.ofNat x2.toNat).toNat : Nat)); rw [u8_int h2.1 h2.2]
  · show some (Value.int .u8 x3) = some (Value.int .u8 ((UInt8.ofNat x3.toNat).toNat : Nat)); rw [u8_int h3.1 h3.2]
theorem ofNat_mod (n : Nat) : UInt8.ofNat (n % 256) = UInt8.ofNat n := by
  apply UInt8.toNat_inj.1
  rw [UInt8.toNat_ofNat', UInt8.toNat_ofNat']
  omega
theorem byteCells_snoc (l : List UInt8) (x : Nat) (hx : x < 256) : Lib.byteCells l ++ [.int .u8 (x : Nat)] = Lib.byteCells (l ++ [UInt8.ofNat x]) := by
  unfold Lib.byteCells
  rw [List.map_append]
  congr 1
  show [Value.int .u8 (x : Nat)] = [Value.int .u8 ((UInt8.ofNat x).toNat : Nat)]
  rw [UInt8.toNat_ofNat', Nat.mod_eq_of_lt (by omega)]
theorem byteCells_len (l : List UInt8) : (Lib.byteCells l).length = l.length := by unfold Lib.byteCells; rw [List.length_map]

set_option maxHeartbeats 1000000 in
theorem rbytes_any (c : Nat) (w : World) (hc : c < 4294967296) :
    Calls Try.prog 25 #[.int .u32 c] w fun e w' => e = .returned (.string (crcB c)) ∧ Below w.heap.size w w' := by
  have hcv := conv4 w ((c : Int) % 256) ((c : Int) / 256 % 256) ((c : Int) / 65536 % 256) ((c : Int) / 16777216) (by omega) (by omega) (by omega) (by omega)
  have hR : (⟨#[UInt8.ofNat ((c : Int) % 256).toNat, UInt8.ofNat ((c : Int) / 256 % 256).toNat, UInt8.ofNat ((c : Int) / 65536 % 256).toNat, UInt8.ofNat ((c : Int) / 16777216).toNat]⟩ : ByteArray) = crcB c := by
    rw [show ((c : Int) % 256).toNat = c % 256 by omega, show ((c : Int) / 256 % 256).toNat = c / 256 % 256 by omega, show ((c : Int) / 65536 % 256).toNat = c / 65536 % 256 by omega, show ((c : Int) / 16777216).toNat = c / 16777216 by omega, ofNat_mod, ofNat_mod, ofNat_mod]
    rfl
  rw [hR] at hcv
  clear hR
  go_enter Try.func25, Try.ntmps25
  go_wp2_with fail
  go_ret
  exact ⟨rfl, by go_grown⟩

set_option maxHeartbeats 1000000 in
theorem bytes_any (c : Nat) (w : World) (hc : c < 4294967296) :
    Calls Try.prog 32 #[.int .u32 c] w fun e w' => e = .returned (.string (crcB c)) ∧ Below w.heap.size w w' := by
  have hI0 := Lib.fresh_isBuilder 57 5 w
  have HI0 : Hid (Lib.IsBuilder 57 5 w.heap.size w.heap.size (Lib.byteCells []) (w.alloc (.cells #[.pointer none, .slice none 0 0] 57))) := Lib.hid hI0
  have HB0 : Hid (Below w.heap.size w (w.alloc (.cells #[.pointer none, .slice none 0 0] 57))) := Lib.hid ((Below.refl _ _).alloc (Nat.le_refl _) _)
  clear hI0
  go_enter Try.func32, Try.ntmps32
  go_wp2_with fail
  refine wp_loop_rounds 5 ?_
  rw [rounds_succ]
  go_wp2_with (go_at_call 50
               refine Calls.mono (bld_write w.heap.size w.heap.size (Lib.byteCells []) _ _ HI0.out (by rw [byteCells_len]; simp) HB0.out.size) ?_
               rintro e w1 ⟨rfl, hbl, hB⟩
               have HI1 : Hid (Lib.IsBuilder 57 5 w.heap.size w.heap.size (Lib.byteCells [UInt8.ofNat c]) w1) := Lib.hid (.inr (by
                 have h := byteCells_snoc [] (c % 256) (by omega)
                 rw [ofNat_mod] at h
                 rw [show Lib.byteCells [UInt8.ofNat c] = _ from h.symm]
                 exact hbl))
               have HB1 := Lib.hid (HB0.out.trans hB)
               clear hbl hB HI0 HB0)
  rw [rounds_succ]
  go_wp2_with (go_at_call 50
               refine Calls.mono (bld_write w.heap.size w.heap.size (Lib.byteCells [UInt8.ofNat c]) _ _ HI1.out (by rw [byteCells_len]; simp) HB1.out.size) ?_
               rintro e w2 ⟨rfl, hbl, hB⟩
               have HI2 : Hid (Lib.IsBuilder 57 5 w.heap.size w.heap.size (Lib.byteCells [UInt8.ofNat c, UInt8.ofNat (c / 256)]) w2) := Lib.hid (.inr (by
                 have h := byteCells_snoc [UInt8.ofNat c] ((c / 256) % 256) (by omega)
                 rw [ofNat_mod] at h
                 rw [show Lib.byteCells [UInt8.ofNat c, UInt8.ofNat (c / 256)] = _ from h.symm]
                 exact hbl))
               have HB2 := Lib.hid (HB1.out.trans hB)
               clear hbl hB HI1 HB1)
  rw [rounds_succ]
  go_wp2_with (go_at_call 50
               refine Calls.mono (bld_write w.heap.size w.heap.size (Lib.byteCells [UInt8.ofNat c, UInt8.ofNat (c / 256)]) _ _ HI2.out (by rw [byteCells_len]; simp) HB2.out.size) ?_
               rintro e w3 ⟨rfl, hbl, hB⟩
               have HI3 : Hid (Lib.IsBuilder 57 5 w.heap.size w.heap.size (Lib.byteCells [UInt8.ofNat c, UInt8.ofNat (c / 256), UInt8.ofNat (c / 65536)]) w3) := Lib.hid (.inr (by
                 have h := byteCells_snoc [UInt8.ofNat c, UInt8.ofNat (c / 256)] ((c / 65536) % 256) (by omega)
                 rw [ofNat_mod] at h
                 rw [show Lib.byteCells [UInt8.ofNat c, UInt8.ofNat (c / 256), UInt8.ofNat (c / 65536)] = _ from h.symm]
                 exact hbl))
               have HB3 := Lib.hid (HB2.out.trans hB)
               clear hbl hB HI2 HB2)
  rw [rounds_succ]
  go_wp2_with (go_at_call 50
               refine Calls.mono (bld_write w.heap.size w.heap.size (Lib.byteCells [UInt8.ofNat c, UInt8.ofNat (c / 256), UInt8.ofNat (c / 65536)]) _ _ HI3.out (by rw [byteCells_len]; simp) HB3.out.size) ?_
               rintro e w4 ⟨rfl, hbl, hB⟩
               have HI4 : Hid (Lib.IsBuilder 57 5 w.heap.size w.heap.size (Lib.byteCells [UInt8.ofNat c, UInt8.ofNat (c / 256), UInt8.ofNat (c / 65536), UInt8.ofNat (c / 16777216)]) w4) := Lib.hid (.inr (by
                 have h := byteCells_snoc [UInt8.ofNat c, UInt8.ofNat (c / 256), UInt8.ofNat (c / 65536)] (c / 16777216) (by omega)
                 rw [show Lib.byteCells [UInt8.ofNat c, UInt8.ofNat (c / 256), UInt8.ofNat (c / 65536), UInt8.ofNat (c / 16777216)] = _ from h.symm]
                 exact hbl))
               have HB4 := Lib.hid (HB3.out.trans hB)
               clear hbl hB HI3 HB3)
  rw [rounds_succ]
  go_wp2_with (go_at_call 34
               refine Calls.mono (bld_string w.heap.size w.heap.size (crcL c) _ HI4.out HB4.out.size) ?_
               rintro e w5 ⟨rfl, hB⟩
               have HB5 := Lib.hid (HB4.out.trans hB)
               clear hB)
  go_ret
  exact ⟨rfl, HB5.out⟩

set_option maxHeartbeats 2000000 in
theorem rmore_any (c : Nat) (s : ByteArray) (w : World) (hc : c < 4294967296) (hs : s.size ≤ 9223372036854775807) :
    Calls Try.prog 47 #[.int .u32 c, .string s] w fun e w' => e = .returned (.int .u32 (4294967295 - crcF (4294967295 - c) s.data.toList : Nat)) ∧ Below w.heap.size w w' := by
  obtain ⟨d, hd⟩ : ∃ d, d = 4294967295 - c := ⟨_, rfl⟩
  have hdl : d < 4294967296 := by omega
  have hdi : (4294967295 : Int) - (c : Int) = (d : Int) := by omega
  rw [← hd]
  clear hd
  go_enter Try.func47, Try.ntmps47
  go_wp2_with fail
  go_loopw [0, 5, 6] (fun v i _ wr => ∃ (k : Nat), i = .int .i64 k ∧ k ≤ s.size ∧ v = .int .u32 (crcF d (s.data.toList.take k) : Nat) ∧ Hid (Below w.heap.size w wr)) (fun _ i _ _ => s.size + 1 - (intOf i).toNat)
  case atStart => exact ⟨0, rfl, Nat.zero_le _, rfl, Lib.hid (Below.refl _ _)⟩
  case round =>
    obtain ⟨k, rfl, hk, rfl, hB⟩ := hrel
    by_cases hlt : k < s.size
    · have i1 : (k : Int) < (s.size : Int) := by omega
      have i0 : (0 : Int) ≤ (k : Int) := by omega
      have hT : Hid (crcF d (s.data.toList.take (k + 1)) = crcS (crcF d (s.data.toList.take k)) (s[k]).toNat) := Lib.hid (by rw [take_snoc hlt, crcF_snoc])
      obtain ⟨y, hy⟩ : ∃ y, y = crcF d (s.data.toList.take k) := ⟨_, rfl⟩
      have hyl : y < 4294967296 := by rw [hy]; exact crcF_lt _ hdl
      rw [← hy] at hT ⊢
      clear hy
      have hbl : (s[k]).toNat < 256 := (s[k]).toNat_lt
      obtain ⟨x, hx⟩ : ∃ x, x = y ^^^ (s[k]).toNat := ⟨_, rfl⟩
      have hxl : x < 4294967296 := by rw [hx]; exact xor_lt hyl hbl
      have hxx := xor_u32 y (s[k]).toNat hyl (by omega)
      rw [← hx] at hxx
      have hwb : IntKind.u32.wrap ((s[k]).toNat : Int) = ((s[k]).toNat : Int) := by rw [wrap_u32]; omega
      have HR : Hid (crcF d (s.data.toList.take (k + 1)) = crcI 8 x) := Lib.hid (by rw [hT.out, hx]; rfl)
      clear hT hx
      go_wp2_with fail
      go_loopw [0, 6] (fun v i wq => ∃ (m y : Nat), i = .int .i64 m ∧ m ≤ 8 ∧ v = .int .u32 y ∧ y < 4294967296 ∧ Hid (Below w.heap.size w wq) ∧ Hid (crcI (8 - m) y = crcI 8 x)) (fun _ i _ => 9 - (intOf i).toNat)
      case atStart => exact ⟨0, x, rfl, by omega, rfl, hxl, Lib.hid (by first | exact hB.out | exact hB.out.drew), Lib.hid rfl⟩
      case round =>
        obtain ⟨m, y, rfl, hm, rfl, hy, hB, hE⟩ := hrel
        by_cases hlm : m < 8
        · have j1 : (m : Int) < 8 := by omega
          have hE' : Hid (crcI (8 - (m + 1)) (crcR y) = crcI 8 x) := Lib.hid (by
            have h1 := hE.out
            rw [show 8 - m = (8 - (m + 1)) + 1 by omega] at h1
            exact h1)
          have hrl := crcR_lt hy
          clear hE
          by_cases ho : y % 2 = 1
          · have hr : ((y / 2 ^^^ 2197175160 : Nat) : Int) = (crcR y : Nat) := by unfold crcR; rw [if_pos ho]
            have hx2 := xor_u32 (y / 2) 2197175160 (by omega) (by omega)
            rw [hr] at hx2
            have hx3 : bits .xor .u32 ((y : Int) / 2) 2197175160 = (crcR y : Nat) := by rw [← hx2]; congr 1
            have ho2 : (y : Int) % 2 = 1 := by omega
            clear hr hx2
            go_wp2_with fail
            go_roundw
            case rel => exact ⟨m + 1, crcR y, by go_num, by omega, rfl, hrl, hB, hE'⟩
            case measure => simp [intOf]; omega
          · have hr : (y : Int) / 2 = (crcR y : Nat) := by unfold crcR; rw [if_neg ho]; omega
            have ho2 : (y : Int) % 2 = 0 := by omega
            go_wp2_with fail
            go_roundw
            case rel => exact ⟨m + 1, crcR y, by go_num, by omega, rfl, hrl, hB, hE'⟩
            case measure => simp [intOf]; omega
        · obtain rfl : m = 8 := by omega
          go_wp2_with fail
          go_roundw
          case rel => exact ⟨k + 1, by go_num, by omega, by rw [HR.out, ← hE.out]; rfl, hB⟩
          case measure => simp [intOf]; omega
    · obtain rfl : k = s.size := by omega
      rw [List.take_of_length_le (by simp)]
      obtain ⟨f, hf⟩ : ∃ f, f = crcF d s.data.toList := ⟨_, rfl⟩
      have hfl : f < 4294967296 := by rw [hf]; exact crcF_lt _ hdl
      have hfi : (4294967295 : Int) - (f : Int) = ((4294967295 - f : Nat) : Int) := by omega
      have HF := Lib.hid hf
      rw [← hf]
      clear hf
      go_wp2_with fail
      go_ret
      refine ⟨?_, hB.out⟩
      rw [← HF.out]
      rfl

theorem rsum_any (s : ByteArray) (w : World) (hs : s.size ≤ 9223372036854775807) :
    Calls Try.prog 26 #[.string s] w fun e w' => e = .returned (.int .u32 (crcN s : Nat)) ∧ Below w.heap.size w w' := by
  have C := Lib.hid (fun W => rmore_any 0 s W (by omega) hs)
  obtain ⟨f, hf⟩ : ∃ f, f = crcN s := ⟨_, rfl⟩
  rw [show 4294967295 - crcF (4294967295 - 0) s.data.toList = f from hf.symm] at C
  rw [← hf]
  clear hf
  go_enter Try.func26, Try.ntmps26
  go_wp2_with (go_at_call 47; refine (C.out _).mono ?_; rintro e w' ⟨rfl, hB⟩; have HB := Lib.hid hB; clear hB)
  go_ret
  exact ⟨rfl, HB.out⟩
theorem crcN_lt (s : ByteArray) : crcN s < 4294967296 := by unfold crcN; omega
theorem crcB_size (c : Nat) : (crcB c).size = 4 := rfl

end Go.Proofs.Ytjjenpklcbpkmaa
