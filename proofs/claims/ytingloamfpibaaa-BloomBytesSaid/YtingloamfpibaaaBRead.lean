/-
  A SIEVE FROM BYTES: both Reads.
-/
import Derived.Test.YtingloamfpibaaaBBack
import Derived.Test.YtingloamfpibaaaBNone
import Derived.Test.YtingloamfpibaaaVTake
namespace Go.Proofs.Ytingloamfpibaaa
open Go.RowKit Go.Proofs.Mem
set_option linter.unusedVariables false

def readV (t : Int × Int × ByteArray × Int) : Value := .tuple #[.agg #[.int .i64 t.1, .int .i64 t.2.1, .string t.2.2.1], .int .i64 t.2.2.2]
theorem takeR_end (s : ByteArray) (f i n : Nat) : (takeR s f i n).2.1 ≤ s.size := by
  induction f generalizing i n with
  | zero => exact Nat.zero_le _
  | succ f ih =>
    rw [takeR]
    split
    · exact Nat.zero_le _
    · split
      · exact Nat.zero_le _
      · split
        · split
          · exact Nat.zero_le _
          · dsimp only; omega
        · exact ih _ _
theorem vtake_any (s : ByteArray) (w : World) (hz : s.size ≤ 1000000) :
    Calls Try.prog 32 #[.string s] w fun e' w' => e' = .returned (tripV (takeB s)) ∧ Below w.heap.size w w' := callsIn_wide.1 (vtake_in s w hz)

set_option maxRecDepth 100000 in
set_option maxHeartbeats 1000000 in
theorem bread_any (s : ByteArray) (w : World) (hs : s.size ≤ 1000000) :
    Calls Try.prog 24 #[.string s] w fun e w' => e = .returned (readV (readB s)) ∧ Below w.heap.size w w' := by
  obtain ⟨⟨x, k, e1⟩, hx⟩ : ∃ t, t = takeB s := ⟨_, rfl⟩
  have hke : k ≤ s.size := by have := takeR_end s 10 0 0; rw [show takeR s 10 0 0 = (x, k, e1) from hx.symm] at this; exact this
  obtain ⟨⟨y, n, e2⟩, hy⟩ : ∃ t, t = takeB (s.extract k s.size) := ⟨_, rfl⟩
  have hnk : k + n ≤ s.size := by have := takeR_end (s.extract k s.size) 10 0 0; rw [show takeR (s.extract k s.size) 10 0 0 = (y, n, e2) from hy.symm, ByteArray.size_extract] at this; dsimp only at this; omega
  obtain ⟨d, hd⟩ : ∃ d, d = s.extract (k + n) s.size := ⟨_, rfl⟩
  have hrb : readB s = if e1 = 0 ∧ x ≤ 65536 ∧ e2 = 0 ∧ y ≤ 8 ∧ fitB x y d = true then ((x : Int), (y : Int), d, 0) else (0, 0, ⟨#[]⟩, 2) := by unfold readB; rw [← hx]; dsimp only; rw [← hy]; dsimp only; rw [← hd]
  have hds : d.size ≤ 1000000 := by rw [hd, ByteArray.size_extract]; omega
  have HS := Lib.hid hs
  have HX1 := Lib.hid hx.symm
  have HX2 := Lib.hid hy.symm
  have HDD := Lib.hid hd
  have HDS := Lib.hid hds
  have HS2 : Hid ((s.extract k s.size).size ≤ 1000000) := Lib.hid (by rw [ByteArray.size_extract]; omega)
  have hdd : s.extract (k + n) s.size = d := hd.symm
  have hk0 : (0 : Int) ≤ (k : Int) := Int.natCast_nonneg _
  have hkI : (k : Int) ≤ (s.size : Int) := by omega
  have hn0 : (0 : Int) ≤ (k : Int) + (n : Int) := by omega
  have hnI : (k : Int) + (n : Int) ≤ (s.size : Int) := by omega
  have hwk : IntKind.i64.wrap ((k : Int) + (n : Int)) = ((k + n : Nat) : Int) := by rw [IntWalk.i64_in _ (by omega)]; omega
  rw [hrb]
  clear hx hy hd hrb hds
  by_cases he1 : e1 = 0
  case neg =>
    rw [if_neg (by rintro ⟨h1, _⟩; exact he1 h1)]
    have d1 : ((e1 : Int) == 0) = false := beq_eq_false_iff_ne.2 (by omega)
    have d2 : ((e1 : Int) != 0) = true := by rw [bne, d1]; rfl
    clear he1 hs
    go_enter Try.func24, Try.ntmps24
    go_wp2_with (first
      | (go_at_call 32
         refine Calls.mono (vtake_any _ _ (by first | exact HS.out | exact HS2.out)) ?_
         first
           | (rw [HX1.out]
              rintro e w1 ⟨rfl, hB1⟩
              have HA1 := Lib.hid ((BloF.new w 0 0 ⟨#[]⟩ 23).kept hB1)
              have HW1 := Lib.hid (bel ((Below.refl _ _).alloc (Nat.le_refl _) (.cells #[.int .i64 0, .int .i64 0, .string ⟨#[]⟩] 23)) hB1)
              obtain ⟨⟨a0, a1, a2⟩, af⟩ := HA1.out
              dsimp only [tripV]
              clear hB1)))
    refine bodyPost_ret (v := .tuple #[.agg #[.int .i64 0, .int .i64 0, .string ⟨#[]⟩], .int .i64 2]) ?_ rfl ?_
    · simp only [results, Try.f24]
      go_simp
    · exact ⟨rfl, ((HW1.out.setCell (p := ⟨w.heap.size, 0, none⟩) (Nat.le_refl _) _).setCell (p := ⟨w.heap.size, 1, none⟩) (Nat.le_refl _) _).setCell (p := ⟨w.heap.size, 2, none⟩) (Nat.le_refl _) _⟩
  subst he1
  by_cases hx9 : x ≤ 65536
  case neg =>
    rw [if_neg (by rintro ⟨_, h1, _⟩; exact hx9 h1)]
    have d1 : decide ((65536 : Int) < (x : Int)) = true := decide_eq_true (by omega)
    have d2 : decide (65536 < x) = true := decide_eq_true (by omega)
    clear hx9 hs
    go_enter Try.func24, Try.ntmps24
    go_wp2_with (first
      | (go_at_call 32
         refine Calls.mono (vtake_any _ _ (by first | exact HS.out | exact HS2.out)) ?_
         first
           | (rw [HX1.out]
              rintro e w1 ⟨rfl, hB1⟩
              have HA1 := Lib.hid ((BloF.new w 0 0 ⟨#[]⟩ 23).kept hB1)
              have HW1 := Lib.hid (bel ((Below.refl _ _).alloc (Nat.le_refl _) (.cells #[.int .i64 0, .int .i64 0, .string ⟨#[]⟩] 23)) hB1)
              obtain ⟨⟨a0, a1, a2⟩, af⟩ := HA1.out
              dsimp only [tripV]
              clear hB1)))
    refine bodyPost_ret (v := .tuple #[.agg #[.int .i64 0, .int .i64 0, .string ⟨#[]⟩], .int .i64 2]) ?_ rfl ?_
    · simp only [results, Try.f24]
      go_simp
    · exact ⟨rfl, ((HW1.out.setCell (p := ⟨w.heap.size, 0, none⟩) (Nat.le_refl _) _).setCell (p := ⟨w.heap.size, 1, none⟩) (Nat.le_refl _) _).setCell (p := ⟨w.heap.size, 2, none⟩) (Nat.le_refl _) _⟩
  have c1 : decide ((65536 : Int) < (x : Int)) = false := decide_eq_false (by omega)
  have c2 : decide (65536 < x) = false := decide_eq_false (by omega)
  by_cases he2 : e2 = 0
  case neg =>
    rw [if_neg (by rintro ⟨_, _, h1, _⟩; exact he2 h1)]
    have d1 : ((e2 : Int) == 0) = false := beq_eq_false_iff_ne.2 (by omega)
    have d2 : ((e2 : Int) != 0) = true := by rw [bne, d1]; rfl
    clear he2 hs
    go_enter Try.func24, Try.ntmps24
    go_wp2_with (first
      | (go_at_call 32
         refine Calls.mono (vtake_any _ _ (by first | exact HS.out | exact HS2.out)) ?_
         first
           | (rw [HX1.out]
              rintro e w1 ⟨rfl, hB1⟩
              have HA1 := Lib.hid ((BloF.new w 0 0 ⟨#[]⟩ 23).kept hB1)
              have HW1 := Lib.hid (bel ((Below.refl _ _).alloc (Nat.le_refl _) (.cells #[.int .i64 0, .int .i64 0, .string ⟨#[]⟩] 23)) hB1)
              obtain ⟨⟨a0, a1, a2⟩, af⟩ := HA1.out
              dsimp only [tripV]
              clear hB1)
           | (rw [HX2.out]
              rintro e w2 ⟨rfl, hB2⟩
              have HA2 := Lib.hid (HA1.out.kept hB2)
              have HW2 := Lib.hid (bel HW1.out hB2)
              clear a0 a1 a2 af
              obtain ⟨⟨a0, a1, a2⟩, af⟩ := HA2.out
              dsimp only [tripV]
              clear hB2)))
    refine bodyPost_ret (v := .tuple #[.agg #[.int .i64 0, .int .i64 0, .string ⟨#[]⟩], .int .i64 2]) ?_ rfl ?_
    · simp only [results, Try.f24]
      go_simp
    · exact ⟨rfl, ((HW2.out.setCell (p := ⟨w.heap.size, 0, none⟩) (Nat.le_refl _) _).setCell (p := ⟨w.heap.size, 1, none⟩) (Nat.le_refl _) _).setCell (p := ⟨w.heap.size, 2, none⟩) (Nat.le_refl _) _⟩
  subst he2
  by_cases hy9 : y ≤ 8
  case neg =>
    rw [if_neg (by rintro ⟨_, _, _, h1, _⟩; exact hy9 h1)]
    have d1 : decide ((8 : Int) < (y : Int)) = true := decide_eq_true (by omega)
    have d2 : decide (8 < y) = true := decide_eq_true (by omega)
    clear hy9 hs
    go_enter Try.func24, Try.ntmps24
    go_wp2_with (first
      | (go_at_call 32
         refine Calls.mono (vtake_any _ _ (by first | exact HS.out | exact HS2.out)) ?_
         first
           | (rw [HX1.out]
              rintro e w1 ⟨rfl, hB1⟩
              have HA1 := Lib.hid ((BloF.new w 0 0 ⟨#[]⟩ 23).kept hB1)
              have HW1 := Lib.hid (bel ((Below.refl _ _).alloc (Nat.le_refl _) (.cells #[.int .i64 0, .int .i64 0, .string ⟨#[]⟩] 23)) hB1)
              obtain ⟨⟨a0, a1, a2⟩, af⟩ := HA1.out
              dsimp only [tripV]
              clear hB1)
           | (rw [HX2.out]
              rintro e w2 ⟨rfl, hB2⟩
              have HA2 := Lib.hid (HA1.out.kept hB2)
              have HW2 := Lib.hid (bel HW1.out hB2)
              clear a0 a1 a2 af
              obtain ⟨⟨a0, a1, a2⟩, af⟩ := HA2.out
              dsimp only [tripV]
              clear hB2)))
    refine bodyPost_ret (v := .tuple #[.agg #[.int .i64 0, .int .i64 0, .string ⟨#[]⟩], .int .i64 2]) ?_ rfl ?_
    · simp only [results, Try.f24]
      go_simp
    · exact ⟨rfl, ((HW2.out.setCell (p := ⟨w.heap.size, 0, none⟩) (Nat.le_refl _) _).setCell (p := ⟨w.heap.size, 1, none⟩) (Nat.le_refl _) _).setCell (p := ⟨w.heap.size, 2, none⟩) (Nat.le_refl _) _⟩
  have c3 : decide ((8 : Int) < (y : Int)) = false := decide_eq_false (by omega)
  have c4 : decide (8 < y) = false := decide_eq_false (by omega)
  have HX9 := Lib.hid hx9
  have hwx : IntKind.i64.wrap (x : Int) = (x : Int) := IntWalk.i64_in _ (by omega)
  have hwy : IntKind.i64.wrap (y : Int) = (y : Int) := IntWalk.i64_in _ (by omega)
  cases hf : fitB x y d with
  | false =>
    rw [if_neg (by rintro ⟨_, _, _, _, h1⟩; cases h1)]
    have HFIT := Lib.hid hf
    clear hf hs hx9 hy9
    go_enter Try.func24, Try.ntmps24
    go_wp2_with (first
      | (go_at_call 32
         refine Calls.mono (vtake_any _ _ (by first | exact HS.out | exact HS2.out)) ?_
         first
           | (rw [HX1.out]
              rintro e w1 ⟨rfl, hB1⟩
              have HA1 := Lib.hid ((BloF.new w 0 0 ⟨#[]⟩ 23).kept hB1)
              have HW1 := Lib.hid (bel ((Below.refl _ _).alloc (Nat.le_refl _) (.cells #[.int .i64 0, .int .i64 0, .string ⟨#[]⟩] 23)) hB1)
              obtain ⟨⟨a0, a1, a2⟩, af⟩ := HA1.out
              dsimp only [tripV]
              clear hB1)
           | (rw [HX2.out]
              rintro e w2 ⟨rfl, hB2⟩
              have HA2 := Lib.hid (HA1.out.kept hB2)
              have HW2 := Lib.hid (bel HW1.out hB2)
              clear a0 a1 a2 af
              obtain ⟨⟨a0, a1, a2⟩, af⟩ := HA2.out
              dsimp only [tripV]
              clear hB2))
      | (go_at_call 10
         refine Calls.mono (fit_any _ _ _ _ HDS.out (by have := HX9.out; omega)) ?_
         rw [HFIT.out]
         rintro e w3 ⟨rfl, hB3⟩
         have hal := (Below.refl w2.heap.size w2).alloc (Nat.le_refl _) (.cells #[.int .i64 (x : Int), .int .i64 (y : Int), .string d] 23)
         have HA3 := Lib.hid ((HA2.out.kept hal).kept hB3)
         have HD3 := Lib.hid ((Blo.new w2 (x : Int) (y : Int) d 23).kept hB3)
         have HW3 := Lib.hid (bel (bel HW2.out hal) hB3)
         clear a0 a1 a2 af hB3 hal
         obtain ⟨⟨a0, a1, a2⟩, af⟩ := HA3.out
         obtain ⟨b0, b1, b2⟩ := HD3.out))
    refine bodyPost_ret (v := .tuple #[.agg #[.int .i64 0, .int .i64 0, .string ⟨#[]⟩], .int .i64 2]) ?_ rfl ?_
    · simp only [results, Try.f24]
      go_simp
    · exact ⟨rfl, ((HW3.out.setCell (p := ⟨w.heap.size, 0, none⟩) (Nat.le_refl _) _).setCell (p := ⟨w.heap.size, 1, none⟩) (Nat.le_refl _) _).setCell (p := ⟨w.heap.size, 2, none⟩) (Nat.le_refl _) _⟩
  | true =>
    rw [if_pos ⟨rfl, hx9, rfl, hy9, rfl⟩]
    have HFIT := Lib.hid hf
    clear hf hs hx9 hy9
    go_enter Try.func24, Try.ntmps24
    go_wp2_with (first
      | (go_at_call 32
         refine Calls.mono (vtake_any _ _ (by first | exact HS.out | exact HS2.out)) ?_
         first
           | (rw [HX1.out]
              rintro e w1 ⟨rfl, hB1⟩
              have HA1 := Lib.hid ((BloF.new w 0 0 ⟨#[]⟩ 23).kept hB1)
              have HW1 := Lib.hid (bel ((Below.refl _ _).alloc (Nat.le_refl _) (.cells #[.int .i64 0, .int .i64 0, .string ⟨#[]⟩] 23)) hB1)
              obtain ⟨⟨a0, a1, a2⟩, af⟩ := HA1.out
              dsimp only [tripV]
              clear hB1)
           | (rw [HX2.out]
              rintro e w2 ⟨rfl, hB2⟩
              have HA2 := Lib.hid (HA1.out.kept hB2)
              have HW2 := Lib.hid (bel HW1.out hB2)
              clear a0 a1 a2 af
              obtain ⟨⟨a0, a1, a2⟩, af⟩ := HA2.out
              dsimp only [tripV]
              clear hB2))
      | (go_at_call 10
         refine Calls.mono (fit_any _ _ _ _ HDS.out (by have := HX9.out; omega)) ?_
         rw [HFIT.out]
         rintro e w3 ⟨rfl, hB3⟩
         have hal := (Below.refl w2.heap.size w2).alloc (Nat.le_refl _) (.cells #[.int .i64 (x : Int), .int .i64 (y : Int), .string d] 23)
         have HA3 := Lib.hid ((HA2.out.kept hal).kept hB3)
         have HD3 := Lib.hid ((Blo.new w2 (x : Int) (y : Int) d 23).kept hB3)
         have HW3 := Lib.hid (bel (bel HW2.out hal) hB3)
         clear a0 a1 a2 af hB3 hal
         obtain ⟨⟨a0, a1, a2⟩, af⟩ := HA3.out
         obtain ⟨b0, b1, b2⟩ := HD3.out))
    refine bodyPost_ret (v := .tuple #[.agg #[.int .i64 (x : Int), .int .i64 (y : Int), .string d], .int .i64 0]) ?_ rfl ?_
    · simp only [results, Try.f24]
      go_simp
    · exact ⟨rfl, ((HW3.out.setCell (p := ⟨w.heap.size, 0, none⟩) (Nat.le_refl _) _).setCell (p := ⟨w.heap.size, 1, none⟩) (Nat.le_refl _) _).setCell (p := ⟨w.heap.size, 2, none⟩) (Nat.le_refl _) _⟩

set_option maxRecDepth 100000 in
set_option maxHeartbeats 1000000 in
theorem rread_any (s : ByteArray) (w : World) (hs : s.size ≤ 1000000) :
    Calls Try.prog 25 #[.string s] w fun e w' => e = .returned (readV (readB s)) ∧ Below w.heap.size w w' := by
  obtain ⟨⟨x, k, e1⟩, hx⟩ : ∃ t, t = takeB s := ⟨_, rfl⟩
  have hke : k ≤ s.size := by have := takeR_end s 10 0 0; rw [show takeR s 10 0 0 = (x, k, e1) from hx.symm] at this; exact this
  obtain ⟨⟨y, n, e2⟩, hy⟩ : ∃ t, t = takeB (s.extract k s.size) := ⟨_, rfl⟩
  have hnk : k + n ≤ s.size := by have := takeR_end (s.extract k s.size) 10 0 0; rw [show takeR (s.extract k s.size) 10 0 0 = (y, n, e2) from hy.symm, ByteArray.size_extract] at this; dsimp only at this; omega
  obtain ⟨d, hd⟩ : ∃ d, d = s.extract (k + n) s.size := ⟨_, rfl⟩
  have hrb : readB s = if e1 = 0 ∧ x ≤ 65536 ∧ e2 = 0 ∧ y ≤ 8 ∧ fitB x y d = true then ((x : Int), (y : Int), d, 0) else (0, 0, ⟨#[]⟩, 2) := by unfold readB; rw [← hx]; dsimp only; rw [← hy]; dsimp only; rw [← hd]
  have hds : d.size ≤ 1000000 := by rw [hd, ByteArray.size_extract]; omega
  have HS := Lib.hid hs
  have HX1 := Lib.hid hx.symm
  have HX2 := Lib.hid hy.symm
  have HDD := Lib.hid hd
  have HDS := Lib.hid hds
  have HS2 : Hid ((s.extract k s.size).size ≤ 1000000) := Lib.hid (by rw [ByteArray.size_extract]; omega)
  have hdd : s.extract (k + n) s.size = d := hd.symm
  have hk0 : (0 : Int) ≤ (k : Int) := Int.natCast_nonneg _
  have hkI : (k : Int) ≤ (s.size : Int) := by omega
  have hn0 : (0 : Int) ≤ (k : Int) + (n : Int) := by omega
  have hnI : (k : Int) + (n : Int) ≤ (s.size : Int) := by omega
  have hwk : IntKind.i64.wrap ((k : Int) + (n : Int)) = ((k + n : Nat) : Int) := by rw [IntWalk.i64_in _ (by omega)]; omega
  rw [hrb]
  clear hx hy hd hrb hds
  by_cases he1 : e1 = 0
  case neg =>
    rw [if_neg (by rintro ⟨h1, _⟩; exact he1 h1)]
    have d1 : ((e1 : Int) == 0) = false := beq_eq_false_iff_ne.2 (by omega)
    have d2 : ((e1 : Int) != 0) = true := by rw [bne, d1]; rfl
    clear he1 hs
    go_enter Try.func25, Try.ntmps25
    go_wp2_with (first
      | (go_at_call 33
         refine Calls.mono (rtake_any _ _ (by first | exact HS.out | exact HS2.out)) ?_
         first
           | (rw [HX1.out]
              rintro e w1 ⟨rfl, hB1⟩
              have HA1 := Lib.hid ((BloF.new w 0 0 ⟨#[]⟩ 23).kept hB1)
              have HW1 := Lib.hid (bel ((Below.refl _ _).alloc (Nat.le_refl _) (.cells #[.int .i64 0, .int .i64 0, .string ⟨#[]⟩] 23)) hB1)
              obtain ⟨⟨a0, a1, a2⟩, af⟩ := HA1.out
              dsimp only [tripV]
              clear hB1)))
    refine bodyPost_ret (v := .tuple #[.agg #[.int .i64 0, .int .i64 0, .string ⟨#[]⟩], .int .i64 2]) ?_ rfl ?_
    · simp only [results, Try.f25]
      go_simp
    · exact ⟨rfl, ((HW1.out.setCell (p := ⟨w.heap.size, 0, none⟩) (Nat.le_refl _) _).setCell (p := ⟨w.heap.size, 1, none⟩) (Nat.le_refl _) _).setCell (p := ⟨w.heap.size, 2, none⟩) (Nat.le_refl _) _⟩
  subst he1
  by_cases hx9 : x ≤ 65536
  case neg =>
    rw [if_neg (by rintro ⟨_, h1, _⟩; exact hx9 h1)]
    have d1 : decide ((65536 : Int) < (x : Int)) = true := decide_eq_true (by omega)
    have d2 : decide (65536 < x) = true := decide_eq_true (by omega)
    clear hx9 hs
    go_enter Try.func25, Try.ntmps25
    go_wp2_with (first
      | (go_at_call 33
         refine Calls.mono (rtake_any _ _ (by first | exact HS.out | exact HS2.out)) ?_
         first
           | (rw [HX1.out]
              rintro e w1 ⟨rfl, hB1⟩
              have HA1 := Lib.hid ((BloF.new w 0 0 ⟨#[]⟩ 23).kept hB1)
              have HW1 := Lib.hid (bel ((Below.refl _ _).alloc (Nat.le_refl _) (.cells #[.int .i64 0, .int .i64 0, .string ⟨#[]⟩] 23)) hB1)
              obtain ⟨⟨a0, a1, a2⟩, af⟩ := HA1.out
              dsimp only [tripV]
              clear hB1)))
    refine bodyPost_ret (v := .tuple #[.agg #[.int .i64 0, .int .i64 0, .string ⟨#[]⟩], .int .i64 2]) ?_ rfl ?_
    · simp only [results, Try.f25]
      go_simp
    · exact ⟨rfl, ((HW1.out.setCell (p := ⟨w.heap.size, 0, none⟩) (Nat.le_refl _) _).setCell (p := ⟨w.heap.size, 1, none⟩) (Nat.le_refl _) _).setCell (p := ⟨w.heap.size, 2, none⟩) (Nat.le_refl _) _⟩
  have c1 : decide ((65536 : Int) < (x : Int)) = false := decide_eq_false (by omega)
  have c2 : decide (65536 < x) = false := decide_eq_false (by omega)
  by_cases he2 : e2 = 0
  case neg =>
    rw [if_neg (by rintro ⟨_, _, h1, _⟩; exact he2 h1)]
    have d1 : ((e2 : Int) == 0) = false := beq_eq_false_iff_ne.2 (by omega)
    have d2 : ((e2 : Int) != 0) = true := by rw [bne, d1]; rfl
    clear he2 hs
    go_enter Try.func25, Try.ntmps25
    go_wp2_with (first
      | (go_at_call 33
         refine Calls.mono (rtake_any _ _ (by first | exact HS.out | exact HS2.out)) ?_
         first
           | (rw [HX1.out]
              rintro e w1 ⟨rfl, hB1⟩
              have HA1 := Lib.hid ((BloF.new w 0 0 ⟨#[]⟩ 23).kept hB1)
              have HW1 := Lib.hid (bel ((Below.refl _ _).alloc (Nat.le_refl _) (.cells #[.int .i64 0, .int .i64 0, .string ⟨#[]⟩] 23)) hB1)
              obtain ⟨⟨a0, a1, a2⟩, af⟩ := HA1.out
              dsimp only [tripV]
              clear hB1)
           | (rw [HX2.out]
              rintro e w2 ⟨rfl, hB2⟩
              have HA2 := Lib.hid (HA1.out.kept hB2)
              have HW2 := Lib.hid (bel HW1.out hB2)
              clear a0 a1 a2 af
              obtain ⟨⟨a0, a1, a2⟩, af⟩ := HA2.out
              dsimp only [tripV]
              clear hB2)))
    refine bodyPost_ret (v := .tuple #[.agg #[.int .i64 0, .int .i64 0, .string ⟨#[]⟩], .int .i64 2]) ?_ rfl ?_
    · simp only [results, Try.f25]
      go_simp
    · exact ⟨rfl, ((HW2.out.setCell (p := ⟨w.heap.size, 0, none⟩) (Nat.le_refl _) _).setCell (p := ⟨w.heap.size, 1, none⟩) (Nat.le_refl _) _).setCell (p := ⟨w.heap.size, 2, none⟩) (Nat.le_refl _) _⟩
  subst he2
  by_cases hy9 : y ≤ 8
  case neg =>
    rw [if_neg (by rintro ⟨_, _, _, h1, _⟩; exact hy9 h1)]
    have d1 : decide ((8 : Int) < (y : Int)) = true := decide_eq_true (by omega)
    have d2 : decide (8 < y) = true := decide_eq_true (by omega)
    clear hy9 hs
    go_enter Try.func25, Try.ntmps25
    go_wp2_with (first
      | (go_at_call 33
         refine Calls.mono (rtake_any _ _ (by first | exact HS.out | exact HS2.out)) ?_
         first
           | (rw [HX1.out]
              rintro e w1 ⟨rfl, hB1⟩
              have HA1 := Lib.hid ((BloF.new w 0 0 ⟨#[]⟩ 23).kept hB1)
              have HW1 := Lib.hid (bel ((Below.refl _ _).alloc (Nat.le_refl _) (.cells #[.int .i64 0, .int .i64 0, .string ⟨#[]⟩] 23)) hB1)
              obtain ⟨⟨a0, a1, a2⟩, af⟩ := HA1.out
              dsimp only [tripV]
              clear hB1)
           | (rw [HX2.out]
              rintro e w2 ⟨rfl, hB2⟩
              have HA2 := Lib.hid (HA1.out.kept hB2)
              have HW2 := Lib.hid (bel HW1.out hB2)
              clear a0 a1 a2 af
              obtain ⟨⟨a0, a1, a2⟩, af⟩ := HA2.out
              dsimp only [tripV]
              clear hB2)))
    refine bodyPost_ret (v := .tuple #[.agg #[.int .i64 0, .int .i64 0, .string ⟨#[]⟩], .int .i64 2]) ?_ rfl ?_
    · simp only [results, Try.f25]
      go_simp
    · exact ⟨rfl, ((HW2.out.setCell (p := ⟨w.heap.size, 0, none⟩) (Nat.le_refl _) _).setCell (p := ⟨w.heap.size, 1, none⟩) (Nat.le_refl _) _).setCell (p := ⟨w.heap.size, 2, none⟩) (Nat.le_refl _) _⟩
  have c3 : decide ((8 : Int) < (y : Int)) = false := decide_eq_false (by omega)
  have c4 : decide (8 < y) = false := decide_eq_false (by omega)
  have HX9 := Lib.hid hx9
  have hwx : IntKind.i64.wrap (x : Int) = (x : Int) := IntWalk.i64_in _ (by omega)
  have hwy : IntKind.i64.wrap (y : Int) = (y : Int) := IntWalk.i64_in _ (by omega)
  cases hf : fitB x y d with
  | false =>
    rw [if_neg (by rintro ⟨_, _, _, _, h1⟩; cases h1)]
    have HFIT := Lib.hid hf
    clear hf hs hx9 hy9
    go_enter Try.func25, Try.ntmps25
    go_wp2_with (first
      | (go_at_call 33
         refine Calls.mono (rtake_any _ _ (by first | exact HS.out | exact HS2.out)) ?_
         first
           | (rw [HX1.out]
              rintro e w1 ⟨rfl, hB1⟩
              have HA1 := Lib.hid ((BloF.new w 0 0 ⟨#[]⟩ 23).kept hB1)
              have HW1 := Lib.hid (bel ((Below.refl _ _).alloc (Nat.le_refl _) (.cells #[.int .i64 0, .int .i64 0, .string ⟨#[]⟩] 23)) hB1)
              obtain ⟨⟨a0, a1, a2⟩, af⟩ := HA1.out
              dsimp only [tripV]
              clear hB1)
           | (rw [HX2.out]
              rintro e w2 ⟨rfl, hB2⟩
              have HA2 := Lib.hid (HA1.out.kept hB2)
              have HW2 := Lib.hid (bel HW1.out hB2)
              clear a0 a1 a2 af
              obtain ⟨⟨a0, a1, a2⟩, af⟩ := HA2.out
              dsimp only [tripV]
              clear hB2))
      | (go_at_call 11
         refine Calls.mono (rfit_any _ _ _ _ HDS.out) ?_
         rw [HFIT.out]
         rintro e w3 ⟨rfl, hB3⟩
         have hal := (Below.refl w2.heap.size w2).alloc (Nat.le_refl _) (.cells #[.int .i64 (x : Int), .int .i64 (y : Int), .string d] 23)
         have HA3 := Lib.hid ((HA2.out.kept hal).kept hB3)
         have HD3 := Lib.hid ((Blo.new w2 (x : Int) (y : Int) d 23).kept hB3)
         have HW3 := Lib.hid (bel (bel HW2.out hal) hB3)
         clear a0 a1 a2 af hB3 hal
         obtain ⟨⟨a0, a1, a2⟩, af⟩ := HA3.out
         obtain ⟨b0, b1, b2⟩ := HD3.out))
    refine bodyPost_ret (v := .tuple #[.agg #[.int .i64 0, .int .i64 0, .string ⟨#[]⟩], .int .i64 2]) ?_ rfl ?_
    · simp only [results, Try.f25]
      go_simp
    · exact ⟨rfl, ((HW3.out.setCell (p := ⟨w.heap.size, 0, none⟩) (Nat.le_refl _) _).setCell (p := ⟨w.heap.size, 1, none⟩) (Nat.le_refl _) _).setCell (p := ⟨w.heap.size, 2, none⟩) (Nat.le_refl _) _⟩
  | true =>
    rw [if_pos ⟨rfl, hx9, rfl, hy9, rfl⟩]
    have HFIT := Lib.hid hf
    clear hf hs hx9 hy9
    go_enter Try.func25, Try.ntmps25
    go_wp2_with (first
      | (go_at_call 33
         refine Calls.mono (rtake_any _ _ (by first | exact HS.out | exact HS2.out)) ?_
         first
           | (rw [HX1.out]
              rintro e w1 ⟨rfl, hB1⟩
              have HA1 := Lib.hid ((BloF.new w 0 0 ⟨#[]⟩ 23).kept hB1)
              have HW1 := Lib.hid (bel ((Below.refl _ _).alloc (Nat.le_refl _) (.cells #[.int .i64 0, .int .i64 0, .string ⟨#[]⟩] 23)) hB1)
              obtain ⟨⟨a0, a1, a2⟩, af⟩ := HA1.out
              dsimp only [tripV]
              clear hB1)
           | (rw [HX2.out]
              rintro e w2 ⟨rfl, hB2⟩
              have HA2 := Lib.hid (HA1.out.kept hB2)
              have HW2 := Lib.hid (bel HW1.out hB2)
              clear a0 a1 a2 af
              obtain ⟨⟨a0, a1, a2⟩, af⟩ := HA2.out
              dsimp only [tripV]
              clear hB2))
      | (go_at_call 11
         refine Calls.mono (rfit_any _ _ _ _ HDS.out) ?_
         rw [HFIT.out]
         rintro e w3 ⟨rfl, hB3⟩
         have hal := (Below.refl w2.heap.size w2).alloc (Nat.le_refl _) (.cells #[.int .i64 (x : Int), .int .i64 (y : Int), .string d] 23)
         have HA3 := Lib.hid ((HA2.out.kept hal).kept hB3)
         have HD3 := Lib.hid ((Blo.new w2 (x : Int) (y : Int) d 23).kept hB3)
         have HW3 := Lib.hid (bel (bel HW2.out hal) hB3)
         clear a0 a1 a2 af hB3 hal
         obtain ⟨⟨a0, a1, a2⟩, af⟩ := HA3.out
         obtain ⟨b0, b1, b2⟩ := HD3.out))
    refine bodyPost_ret (v := .tuple #[.agg #[.int .i64 (x : Int), .int .i64 (y : Int), .string d], .int .i64 0]) ?_ rfl ?_
    · simp only [results, Try.f25]
      go_simp
    · exact ⟨rfl, ((HW3.out.setCell (p := ⟨w.heap.size, 0, none⟩) (Nat.le_refl _) _).setCell (p := ⟨w.heap.size, 1, none⟩) (Nat.le_refl _) _).setCell (p := ⟨w.heap.size, 2, none⟩) (Nat.le_refl _) _⟩
end Go.Proofs.Ytingloamfpibaaa
