/-
  BloomDoes: the walk.
-/
import Derived.Test.YtingloamfpibaaaBCell
import Derived.Deep.RegionHeld3
namespace Go.Proofs.Ytingloamfpibaaa
open Go.RowKit Go.Proofs.Mem
set_option linter.unusedVariables false

/-- What both answers are: News. -/
def NewsAre (n m x1 x2 : Int) (x3 : ByteArray) (ec : Int) : Prop :=
  (∀ W, Calls Try.prog 8 #[.int .i64 n, .int .i64 m] W fun e w' => e = .returned (.tuple #[.agg #[.int .i64 x1, .int .i64 x2, .string x3], .int .i64 ec]) ∧ Below W.heap.size W w') ∧
  (∀ W, Calls Try.prog 9 #[.int .i64 n, .int .i64 m] W fun e w' => e = .returned (.tuple #[.agg #[.int .i64 x1, .int .i64 x2, .string x3], .int .i64 ec]) ∧ Below W.heap.size W w')
theorem news_are (n m : Int) (hn0 : -9223372036854775808 ≤ n) (hn9 : n ≤ 9223372036854775807) : ∃ x1 x2 x3 ec, NewsAre n m x1 x2 x3 ec := by
  cases h : shapeB n m with
  | true =>
    refine ⟨n, m, zerosB (n / 8).toNat, 0, fun W => ?_, fun W => ?_⟩
    · have := bnew_any n m W hn0 hn9
      rw [h, if_pos rfl] at this
      exact this
    · have := rnew_any n m W
      rw [h, if_pos rfl] at this
      exact this
  | false =>
    refine ⟨0, 0, ⟨#[]⟩, 4, fun W => ?_, fun W => ?_⟩
    · have := bnew_any n m W hn0 hn9
      rw [h, if_neg (by decide)] at this
      exact this
    · have := rnew_any n m W
      rw [h, if_neg (by decide)] at this
      exact this

/-- What both answers are: Joins. -/
def JoinsAre (ai ah bi bh x1 x2 : Int) (a b x3 : ByteArray) (ec : Int) : Prop :=
  (∀ W, Calls Try.prog 12 #[.agg #[.int .i64 ai, .int .i64 ah, .string a], .agg #[.int .i64 bi, .int .i64 bh, .string b]] W fun e w' => e = .returned (.tuple #[.agg #[.int .i64 x1, .int .i64 x2, .string x3], .int .i64 ec]) ∧ Below W.heap.size W w') ∧
  (∀ W, Calls Try.prog 13 #[.agg #[.int .i64 ai, .int .i64 ah, .string a], .agg #[.int .i64 bi, .int .i64 bh, .string b]] W fun e w' => e = .returned (.tuple #[.agg #[.int .i64 x1, .int .i64 x2, .string x3], .int .i64 ec]) ∧ Below W.heap.size W w')
theorem joins_are (ai ah bi bh : Int) (a b : ByteArray) (hs : ai = bi → a.size = b.size) (hz : a.size ≤ 1000000) : ∃ x1 x2 x3 ec, JoinsAre ai ah bi bh x1 x2 a b x3 ec := by
  by_cases h : ai = bi ∧ ah = bh
  · refine ⟨ai, ah, joinB a b, 0, fun W => ?_, fun W => ?_⟩
    · have := bjoin_any ai ah bi bh a b W hs hz
      rw [if_pos h] at this
      exact this
    · have := rjoin_any ai ah bi bh a b W hs hz
      rw [if_pos h] at this
      exact this
  · refine ⟨ai, ah, a, 10, fun W => ?_, fun W => ?_⟩
    · have := bjoin_any ai ah bi bh a b W hs hz
      rw [if_neg h] at this
      exact this
    · have := rjoin_any ai ah bi bh a b W hs hz
      rw [if_neg h] at this
      exact this
/-- What a sieve that can be is. -/
theorem fit_is {bi h : Int} {d : ByteArray} (hf : fitB bi h d = true) : ∃ e H : Nat, e ≤ 10 ∧ 1 ≤ H ∧ H ≤ 8 ∧ bi = ((64 * 2 ^ e : Nat) : Int) ∧ h = (H : Int) ∧ d.size = 8 * 2 ^ e := by
  unfold fitB shapeB at hf
  simp only [Bool.and_eq_true, decide_eq_true_eq] at hf
  obtain ⟨⟨h1, h2, h3⟩, h4⟩ := hf
  obtain ⟨e, he, hb⟩ := sizes_pow h3
  exact ⟨e, h.toNat, he, by omega, by omega, hb, by omega, by omega⟩
/-- A key more, may a key be there: both answers. -/
def KeysAre (ai ah : Int) (a : ByteArray) (f : ByteArray → ByteArray) (g : ByteArray → Bool) : Prop :=
  (∀ k W, Calls Try.prog 14 #[.agg #[.int .i64 ai, .int .i64 ah, .string a], .string k] W fun e w' => e = .returned (.agg #[.int .i64 ai, .int .i64 ah, .string (f k)]) ∧ Below W.heap.size W w') ∧
  (∀ k W, Calls Try.prog 15 #[.agg #[.int .i64 ai, .int .i64 ah, .string a], .string k] W fun e w' => e = .returned (.agg #[.int .i64 ai, .int .i64 ah, .string (f k)]) ∧ Below W.heap.size W w') ∧
  (∀ k W, Calls Try.prog 16 #[.agg #[.int .i64 ai, .int .i64 ah, .string a], .string k] W fun e w' => e = .returned (.bool (g k)) ∧ Below W.heap.size W w') ∧
  (∀ k W, Calls Try.prog 17 #[.agg #[.int .i64 ai, .int .i64 ah, .string a], .string k] W fun e w' => e = .returned (.bool (g k)) ∧ Below W.heap.size W w')
theorem keys_are {ai ah : Int} {a : ByteArray} (hf : fitB ai ah a = true) : ∃ f g, KeysAre ai ah a f g := by
  obtain ⟨e, H, he, h1, h8, rfl, rfl, hd⟩ := fit_is hf
  have hp : 2 ^ e ≤ 2 ^ 10 := Nat.pow_le_pow_right (by decide) he
  have hp1 : 1 ≤ 2 ^ e := Nat.one_le_two_pow
  refine ⟨fun k => addF k (64 * 2 ^ e) H a, fun k => hasF k (64 * 2 ^ e) H a, fun k W => badd_any e H a k W he h8 hd, fun k W => ?_, fun k W => bhas_any e H a k W he h8 hd, fun k W => ?_⟩
  · by_cases hk : k.size = 32
    · have := radd_any (64 * 2 ^ e) H a k W hk (by omega) (by omega) h8 (by omega)
      have hF : addF k (64 * 2 ^ e) H a = addB k (64 * 2 ^ e) H a := if_pos hk
      dsimp only
      rw [hF]
      exact this
    · have := radd_no ((64 * 2 ^ e : Nat) : Int) H a k W hk
      have hF : addF k (64 * 2 ^ e) H a = a := if_neg hk
      dsimp only
      rw [hF]
      exact this
  · have := rhas_any (64 * 2 ^ e) H a k W (by omega) (by omega) h8 (by omega)
    dsimp only
    rw [hasF_hasB]
    exact this
theorem fit_sizes {ai ah bi bh : Int} {a b : ByteArray} (ha : fitB ai ah a = true) (hb : fitB bi bh b = true) : ai = bi → a.size = b.size := by
  obtain ⟨e, H, _, _, _, h1, _, hd⟩ := fit_is ha
  obtain ⟨e', H', _, _, _, h1', _, hd'⟩ := fit_is hb
  intro h
  omega

/-- What the region's order leaves: sieves that lie in blocks. -/
theorem keep4 {W W' : World} {A B X Y : Nat} {ai ah bi bh x1 x2 y1 y2 : Int} {a b x y : ByteArray} (HP : Hid (Blo W A ai ah a ∧ Blo W B bi bh b ∧ Blo W X x1 x2 x ∧ Blo W Y y1 y2 y)) (h : Hid (Below W.heap.size W W')) :
    W'.cell? ⟨A, 0, none⟩ = some (.int .i64 ai) ∧ W'.cell? ⟨A, 1, none⟩ = some (.int .i64 ah) ∧ W'.cell? ⟨A, 2, none⟩ = some (.string a) ∧
    W'.cell? ⟨B, 0, none⟩ = some (.int .i64 bi) ∧ W'.cell? ⟨B, 1, none⟩ = some (.int .i64 bh) ∧ W'.cell? ⟨B, 2, none⟩ = some (.string b) ∧
    W'.cell? ⟨X, 0, none⟩ = some (.int .i64 x1) ∧ W'.cell? ⟨X, 1, none⟩ = some (.int .i64 x2) ∧ W'.cell? ⟨X, 2, none⟩ = some (.string x) ∧
    W'.cell? ⟨Y, 0, none⟩ = some (.int .i64 y1) ∧ W'.cell? ⟨Y, 1, none⟩ = some (.int .i64 y2) ∧ W'.cell? ⟨Y, 2, none⟩ = some (.string y) ∧ Hid (Below W.heap.size W W') := by
  obtain ⟨h1, h2, h3, h4⟩ := HP.out
  obtain ⟨a0, a1, a2⟩ := h1.kept h.out
  obtain ⟨b0, b1, b2⟩ := h2.kept h.out
  obtain ⟨c0, c1, c2⟩ := h3.kept h.out
  obtain ⟨d0, d1, d2⟩ := h4.kept h.out
  exact ⟨a0, a1, a2, b0, b1, b2, c0, c1, c2, d0, d1, d2, h⟩

theorem keep1 {W W' : World} {A : Nat} {ai ah : Int} {a : ByteArray} (HP : Hid (Blo W A ai ah a)) (h : Hid (Below W.heap.size W W')) :
    W'.cell? ⟨A, 0, none⟩ = some (.int .i64 ai) ∧ W'.cell? ⟨A, 1, none⟩ = some (.int .i64 ah) ∧ W'.cell? ⟨A, 2, none⟩ = some (.string a) ∧ Hid (Below W.heap.size W W') := by
  obtain ⟨a0, a1, a2⟩ := HP.out.kept h.out
  exact ⟨a0, a1, a2, h⟩
theorem keep3 {W W' : World} {A B X : Nat} {ai ah bi bh x1 x2 : Int} {a b x : ByteArray} (HP : Hid (Blo W A ai ah a ∧ Blo W B bi bh b ∧ Blo W X x1 x2 x)) (h : Hid (Below W.heap.size W W')) :
    W'.cell? ⟨A, 0, none⟩ = some (.int .i64 ai) ∧ W'.cell? ⟨A, 1, none⟩ = some (.int .i64 ah) ∧ W'.cell? ⟨A, 2, none⟩ = some (.string a) ∧
    W'.cell? ⟨B, 0, none⟩ = some (.int .i64 bi) ∧ W'.cell? ⟨B, 1, none⟩ = some (.int .i64 bh) ∧ W'.cell? ⟨B, 2, none⟩ = some (.string b) ∧
    W'.cell? ⟨X, 0, none⟩ = some (.int .i64 x1) ∧ W'.cell? ⟨X, 1, none⟩ = some (.int .i64 x2) ∧ W'.cell? ⟨X, 2, none⟩ = some (.string x) ∧ Hid (Below W.heap.size W W') := by
  obtain ⟨h1, h2, h3⟩ := HP.out
  obtain ⟨a0, a1, a2⟩ := h1.kept h.out
  obtain ⟨b0, b1, b2⟩ := h2.kept h.out
  obtain ⟨c0, c1, c2⟩ := h3.kept h.out
  exact ⟨a0, a1, a2, b0, b1, b2, c0, c1, c2, h⟩

set_option maxRecDepth 100000 in
set_option maxHeartbeats 2000000 in
theorem does_walk (ai ah bi bh n m : Int) (a b : ByteArray) (l : List ByteArray) (u : Value) (w : World) (hs : Strs w w.heap.size u l) (hn0 : -9223372036854775808 ≤ n) (hn9 : n ≤ 9223372036854775807)
    (ha9 : ai ≤ 9223372036854775807) (hb9 : bi ≤ 9223372036854775807) (hag : a.size ≤ 9223372036854775807) (hbg : b.size ≤ 9223372036854775807) :
    Calls Try.prog 3 #[.agg #[.int .i64 ai, .int .i64 ah, .string a], .agg #[.int .i64 bi, .int .i64 bh, .string b], .int .i64 n, .int .i64 m, u] w fun e w' => e = .returned (.bool true) ∧ Below w.heap.size w w' := by
  obtain ⟨A1, c1, rfl, hm1, hm2, hr1⟩ := hs
  have HM1 := Lib.hid hm1
  have HM2 := Lib.hid hm2
  have HR1 := Lib.hid hr1
  clear hr1 hm1 hm2
  have HST : Hid (∀ W, Below w.heap.size w W → Strs W W.heap.size (.slice A1 l.length c1) l) := Lib.hid fun W h => (Strs.below ⟨A1, c1, rfl, HM1.out, HM2.out, HR1.out⟩ h).more h.size
  obtain ⟨x1, x2, x3, ec, hN⟩ := news_are n m hn0 hn9
  have HN := Lib.hid hN
  clear hN
  by_cases hbig : fewB l = true ∧ a.size ≤ 9000 ∧ b.size ≤ 9000
  · obtain ⟨hf, has, hbs⟩ := hbig
    have HFW := Lib.hid hf
    have HAS : Hid (a.size ≤ 1000000) := Lib.hid (by omega)
    have HBS : Hid (b.size ≤ 1000000) := Lib.hid (by omega)
    have da : decide (9000 < (a.size : Int)) = false := decide_eq_false (by omega)
    have db : decide (9000 < (b.size : Int)) = false := decide_eq_false (by omega)
    have da' : decide (9000 < a.size) = false := decide_eq_false (by omega)
    have db' : decide (9000 < b.size) = false := decide_eq_false (by omega)
    clear has hbs hf
    go_enter Try.func3, Try.ntmps3
    go_wp2_with (first
      | (go_at_call 6
         refine Calls.mono (few_any l _ _ (HST.out _ (by go_grown))) ?_
         rw [HFW.out]
         rintro e w1 ⟨rfl, hB1⟩
         have hA' : Blo w1 w.heap.size ai ah a := Blo.kept hB1 ⟨by go_simp, by go_simp, by go_simp⟩
         have hB' : Blo w1 (w.heap.size + 1) bi bh b := Blo.kept hB1 ⟨by go_simp, by go_simp, by go_simp⟩
         have HW1 : Hid (Below w.heap.size w w1) := Lib.hid (bel (by go_grown) hB1)
         have HA1 := Lib.hid hA'
         have HB1 := Lib.hid hB'
         obtain ⟨a0, a1, a2⟩ := hA'
         obtain ⟨b0, b1, b2⟩ := hB'
         clear hB1)
      | (go_at_call 8
         refine Calls.mono (HN.out.1 _) ?_
         rintro e w2 ⟨rfl, hB2⟩
         have HA2 := Lib.hid ((HA1.out.kept hB2).alloc (.cells #[.int .i64 x1, .int .i64 x2, .string x3] 23))
         have HB2 := Lib.hid ((HB1.out.kept hB2).alloc (.cells #[.int .i64 x1, .int .i64 x2, .string x3] 23))
         have HX2 := Lib.hid (Blo.new w2 x1 x2 x3 23)
         have HW2 : Hid (Below w.heap.size w (w2.alloc (.cells #[.int .i64 x1, .int .i64 x2, .string x3] 23))) := Lib.hid (bel (bel HW1.out hB2) ((Below.refl _ _).alloc (Nat.le_refl _) _))
         clear hB2 a0 a1 a2 b0 b1 b2 HA1 HB1 HW1)
      | (go_at_call 9
         refine Calls.mono (HN.out.2 _) ?_
         rintro e w3 ⟨rfl, hB3⟩
         have HA3 := Lib.hid ((HA2.out.kept hB3).alloc (.cells #[.int .i64 x1, .int .i64 x2, .string x3] 23))
         have HB3 := Lib.hid ((HB2.out.kept hB3).alloc (.cells #[.int .i64 x1, .int .i64 x2, .string x3] 23))
         have HX3 := Lib.hid ((HX2.out.kept hB3).alloc (.cells #[.int .i64 x1, .int .i64 x2, .string x3] 23))
         have HY3 := Lib.hid (Blo.new w3 x1 x2 x3 23)
         have HW3 : Hid (Below w.heap.size w (w3.alloc (.cells #[.int .i64 x1, .int .i64 x2, .string x3] 23))) := Lib.hid (bel (bel HW2.out hB3) ((Below.refl _ _).alloc (Nat.le_refl _) _))
         clear hB3 HA2 HB2 HX2 HW2))
    clear da db da' db' HN
    generalize w3.alloc (.cells #[.int .i64 x1, .int .i64 x2, .string x3] 23) = W3 at *
    have HP := Lib.hid (And.intro HA3.out (And.intro HB3.out (And.intro HX3.out HY3.out)))
    have hS0 := keep4 HP (Lib.hid (Below.refl W3.heap.size W3).drew)
    clear HA3 HB3 HX3 HY3
    go_region_held3 (fun w' => w'.cell? ⟨w.heap.size, 0, none⟩ = some (.int .i64 ai) ∧ w'.cell? ⟨w.heap.size, 1, none⟩ = some (.int .i64 ah) ∧ w'.cell? ⟨w.heap.size, 2, none⟩ = some (.string a) ∧
      w'.cell? ⟨w.heap.size + 1, 0, none⟩ = some (.int .i64 bi) ∧ w'.cell? ⟨w.heap.size + 1, 1, none⟩ = some (.int .i64 bh) ∧ w'.cell? ⟨w.heap.size + 1, 2, none⟩ = some (.string b) ∧
      w'.cell? ⟨w2.heap.size, 0, none⟩ = some (.int .i64 x1) ∧ w'.cell? ⟨w2.heap.size, 1, none⟩ = some (.int .i64 x2) ∧ w'.cell? ⟨w2.heap.size, 2, none⟩ = some (.string x3) ∧
      w'.cell? ⟨w3.heap.size, 0, none⟩ = some (.int .i64 x1) ∧ w'.cell? ⟨w3.heap.size, 1, none⟩ = some (.int .i64 x2) ∧ w'.cell? ⟨w3.heap.size, 2, none⟩ = some (.string x3) ∧ Hid (Below W3.heap.size W3 w'))
      (first
        | exact hS0
        | (go_split_ands; exact keep4 HP (Lib.hid (bel (Hid.out ‹Hid (Below W3.heap.size W3 _)›) ‹_›))))
      (first
        | (go_at_call 10; refine Calls.mono (fit_any ai ah a _ HAS.out ha9) ?_; rintro e wf ⟨rfl, hBf⟩)
        | (go_at_call 11; refine Calls.mono (rfit_any ai ah a _ HAS.out) ?_; rintro e wg ⟨rfl, hBg⟩))
    rename wg.cell? _ = _ ∧ _ => hPg
    rename W3.drew.cell? _ = _ ∧ _ => hPq
    clear hPq
    obtain ⟨ag0, ag1, ag2, bg0, bg1, bg2, -, -, -, -, -, -, hBg⟩ := hPg
    have HAg : Hid (Blo wg w.heap.size ai ah a) := Lib.hid ⟨ag0, ag1, ag2⟩
    have HBg : Hid (Blo wg (w.heap.size + 1) bi bh b) := Lib.hid ⟨bg0, bg1, bg2⟩
    have HWg : Hid (Below w.heap.size w wg) := Lib.hid (bel HW3.out hBg.out)
    clear HP HW3 hBg hBf
    rcases Bool.eq_false_or_eq_true (fitB ai ah a) with hfa | hfa
    · have HFA := Lib.hid hfa
      clear hfa
      rcases Bool.eq_false_or_eq_true (fitB bi bh b) with hfb | hfb
      · have HFB := Lib.hid hfb
        clear hfb
        obtain ⟨u1, u2, u3, jc, hJ⟩ := joins_are ai ah bi bh a b (fit_sizes HFA.out HFB.out) HAS.out
        have HJ := Lib.hid hJ
        clear hJ
        go_wp2_with (first
          | (go_at_call 11
             refine Calls.mono (rfit_any _ _ _ _ (by first | exact HAS.out | exact HBS.out)) ?_
             first
               | (rw [HFA.out]
                  rintro e wh ⟨rfl, hBh⟩
                  have HAh := Lib.hid (HAg.out.kept hBh)
                  have HBh := Lib.hid (HBg.out.kept hBh)
                  have HWh : Hid (Below w.heap.size w wh) := Lib.hid (bel HWg.out hBh)
                  obtain ⟨ah0, ah1, ah2⟩ := HAh.out
                  obtain ⟨bh0, bh1, bh2⟩ := HBh.out
                  clear hBh ag0 ag1 ag2 bg0 bg1 bg2)
               | (rw [HFB.out]
                  rintro e wi ⟨rfl, hBi⟩
                  have HAi := Lib.hid (HAh.out.kept hBi)
                  have HBi := Lib.hid (HBh.out.kept hBi)
                  have HWi : Hid (Below w.heap.size w wi) := Lib.hid (bel HWh.out hBi)
                  obtain ⟨ai0, ai1, ai2⟩ := HAi.out
                  obtain ⟨bi0, bi1, bi2⟩ := HBi.out
                  clear hBi ah0 ah1 ah2 bh0 bh1 bh2))
          | (go_at_call 12
             refine Calls.mono (HJ.out.1 _) ?_
             rintro e w8 ⟨rfl, hB8⟩
             have HA8 := Lib.hid ((HAi.out.kept hB8).alloc (.cells #[.int .i64 u1, .int .i64 u2, .string u3] 23))
             have HB8 := Lib.hid ((HBi.out.kept hB8).alloc (.cells #[.int .i64 u1, .int .i64 u2, .string u3] 23))
             have HU8 := Lib.hid (Blo.new w8 u1 u2 u3 23)
             have HW8 : Hid (Below w.heap.size w (w8.alloc (.cells #[.int .i64 u1, .int .i64 u2, .string u3] 23))) := Lib.hid (bel (bel HWi.out hB8) ((Below.refl _ _).alloc (Nat.le_refl _) _))
             obtain ⟨a80, a81, a82⟩ := HAi.out.kept hB8
             obtain ⟨b80, b81, b82⟩ := HBi.out.kept hB8
             have la8 := Blo.lt (HAi.out.kept hB8)
             have lb8 := Blo.lt (HBi.out.kept hB8)
             clear hB8 ai0 ai1 ai2 bi0 bi1 bi2)
          | (go_at_call 13
             refine Calls.mono (HJ.out.2 _) ?_
             rintro e w9 ⟨rfl, hB9⟩
             have HA9 := Lib.hid ((HA8.out.kept hB9).alloc (.cells #[.int .i64 u1, .int .i64 u2, .string u3] 23))
             have HU9 := Lib.hid ((HU8.out.kept hB9).alloc (.cells #[.int .i64 u1, .int .i64 u2, .string u3] 23))
             have HV9 := Lib.hid (Blo.new w9 u1 u2 u3 23)
             have HW9 : Hid (Below w.heap.size w (w9.alloc (.cells #[.int .i64 u1, .int .i64 u2, .string u3] 23))) := Lib.hid (bel (bel HW8.out hB9) ((Below.refl _ _).alloc (Nat.le_refl _) _))
             clear hB9 a80 a81 a82 b80 b81 b82 la8 lb8))
        obtain ⟨f, g, hK⟩ := keys_are HFA.out
        have HK := Lib.hid hK
        have HLN : Hid (l.length ≤ 1000) := Lib.hid (by have := HFW.out; unfold fewB at this; have := (of_decide_eq_true this).1; omega)
        clear hK HA8 HU8 HW8 HAi HBi HWi HAh HBh HWh HAg HBg HWg HB8 HJ
        generalize w9.alloc (.cells #[.int .i64 u1, .int .i64 u2, .string u3] 23) = W9 at *
        go_loopw [20, 91] (fun _ i wr => ∃ k : Nat, i = .int .i64 k ∧ k ≤ l.length ∧ Hid (Blo wr w.heap.size ai ah a) ∧ Hid (Blo wr w8.heap.size u1 u2 u3) ∧ Hid (Blo wr w9.heap.size u1 u2 u3) ∧ Hid (Below w.heap.size w wr)) (fun _ i _ => l.length - (intOf i).toNat)
        case atStart => exact ⟨0, rfl, Nat.zero_le _, HA9, HU9, HV9, HW9⟩
        case round =>
          obtain ⟨k, rfl, hk, HA, HU, HV, HW⟩ := hrel
          clear HA9 HU9 HV9 HW9
          by_cases hkl : k = l.length
          · have hkk : decide ((k : Int) < (l.length : Int)) = false := decide_eq_false (by omega)
            have hkn : decide (k < l.length) = false := decide_eq_false (by omega)
            clear hkl
            obtain ⟨a0, a1, a2⟩ := HA.out
            go_wp2_with (first
              | (go_at_call 18
                 refine Calls.mono (bsieve_any g ai ah a l _ _ HLN.out (HST.out _ HW.out) (fun key W => HK.out.2.2.1 key W)) ?_
                 rintro e w4 ⟨vo, vi, rfl, ho, hi, hB4⟩
                 have HSo := Lib.hid (strs_of_own ho)
                 have HSi := Lib.hid (strs_of_own hi)
                 have HA4 := Lib.hid (HA.out.kept hB4)
                 have HU4 := Lib.hid (HU.out.kept hB4)
                 have HV4 := Lib.hid (HV.out.kept hB4)
                 have HW4 : Hid (Below w.heap.size w w4) := Lib.hid (bel HW.out hB4)
                 clear hB4 ho hi a0 a1 a2
                 obtain ⟨a0, a1, a2⟩ := HA4.out)
              | (go_at_call 19
                 refine Calls.mono (rsieve_any g ai ah a l _ _ HLN.out (HST.out _ HW4.out) (fun key W => HK.out.2.2.2 key W)) ?_
                 rintro e w5 ⟨vp, vj, rfl, ho, hi, hB5⟩
                 have HSp := Lib.hid (strs_of_own ho)
                 have HSj := Lib.hid (strs_of_own hi)
                 have HSo5 := Lib.hid (HSo.out.on hB5)
                 have HSi5 := Lib.hid (HSi.out.on hB5)
                 have HA5 := Lib.hid (HA4.out.kept hB5)
                 have HU5 := Lib.hid (HU4.out.kept hB5)
                 have HV5 := Lib.hid (HV4.out.kept hB5)
                 have HW5 : Hid (Below w.heap.size w w5) := Lib.hid (bel HW4.out hB5)
                 clear hB5 ho hi a0 a1 a2 HSo HSi HA4 HU4 HV4 HW4))
            have HP := Lib.hid (And.intro HA5.out (And.intro HU5.out HV5.out))
            have hS0 := keep3 HP (Lib.hid (Below.refl w5.heap.size w5).drew)
            clear HA5 HU5 HV5 HA HU HV HW hkk hkn
            go_region_held3 (fun w' => w'.cell? ⟨w.heap.size, 0, none⟩ = some (.int .i64 ai) ∧ w'.cell? ⟨w.heap.size, 1, none⟩ = some (.int .i64 ah) ∧ w'.cell? ⟨w.heap.size, 2, none⟩ = some (.string a) ∧
                w'.cell? ⟨w8.heap.size, 0, none⟩ = some (.int .i64 u1) ∧ w'.cell? ⟨w8.heap.size, 1, none⟩ = some (.int .i64 u2) ∧ w'.cell? ⟨w8.heap.size, 2, none⟩ = some (.string u3) ∧
                w'.cell? ⟨w9.heap.size, 0, none⟩ = some (.int .i64 u1) ∧ w'.cell? ⟨w9.heap.size, 1, none⟩ = some (.int .i64 u2) ∧ w'.cell? ⟨w9.heap.size, 2, none⟩ = some (.string u3) ∧ Hid (Below w5.heap.size w5 w'))
              (first
                | exact hS0
                | (go_split_ands; exact keep3 HP (Lib.hid (bel (Hid.out ‹Hid (Below w5.heap.size w5 _)›) ‹_›))))
              (first
                | (go_at_call 20; refine Calls.mono (bones_any ai ah a _ HAS.out) ?_; rintro e wa ⟨rfl, hBa⟩)
                | (go_at_call 21; refine Calls.mono (rones_any ai ah a _ HAS.out) ?_; rintro e wb ⟨rfl, hBb⟩)
                | (go_at_call 22; refine Calls.mono (same_any (outK g l l.length) _ _ _ (by first | exact HSo5.out.on (Hid.out ‹Hid (Below w5.heap.size w5 _)›) | (go_split_ands; exact HSo5.out.on (Hid.out ‹Hid (Below w5.heap.size w5 _)›))) (by first | exact HSp.out.on (Hid.out ‹Hid (Below w5.heap.size w5 _)›) | (go_split_ands; exact HSp.out.on (Hid.out ‹Hid (Below w5.heap.size w5 _)›)))) ?_; rintro e wc ⟨rfl, hBwc⟩)
                | (go_at_call 22; refine Calls.mono (same_any (inK g l l.length) _ _ _ (by first | exact HSi5.out.on (Hid.out ‹Hid (Below w5.heap.size w5 _)›) | (go_split_ands; exact HSi5.out.on (Hid.out ‹Hid (Below w5.heap.size w5 _)›))) (by first | exact HSj.out.on (Hid.out ‹Hid (Below w5.heap.size w5 _)›) | (go_split_ands; exact HSj.out.on (Hid.out ‹Hid (Below w5.heap.size w5 _)›)))) ?_; rintro e wc2 ⟨rfl, hBwc2⟩)
                | (go_at_call 7; refine Calls.mono (awake_any _) ?_; rintro e wd ⟨rfl, hBd⟩))
            go_split_ands
            go_wp2_with fail
            go_ret
            exact ⟨rfl, bel HW5.out (Hid.out ‹Hid (Below w5.heap.size w5 _)›)⟩
          · have hlt : k < l.length := by omega
            have hlti : (k : Int) < (l.length : Int) := by omega
            have hk0 : (0 : Int) ≤ (k : Int) := Int.natCast_nonneg _
            have hkk : decide ((k : Int) < (l.length : Int)) = true := decide_eq_true (by omega)
            have hkn : decide (k < l.length) = true := decide_eq_true (by omega)
            obtain ⟨bb1, o1, rfl, hb1, hcl1⟩ := HR1.out.at_ (by simp; omega)
            obtain ⟨x, hx⟩ : ∃ x, l[k]? = some x := ⟨l[k], List.getElem?_eq_getElem (by omega)⟩
            have q1 := (HW.out.cell (p := ⟨bb1, o1 + k, none⟩) hb1).trans (hcl1 k (.string x) (by rw [List.getElem?_map, hx]; rfl))
            clear hcl1 hx hkl HR1 hb1
            go_wp2_with fail
            clear q1
            have hS0 := keep1 HA (Lib.hid (Below.refl wr.heap.size wr).drew)
            go_region_held3 (fun w' => w'.cell? ⟨w.heap.size, 0, none⟩ = some (.int .i64 ai) ∧ w'.cell? ⟨w.heap.size, 1, none⟩ = some (.int .i64 ah) ∧ w'.cell? ⟨w.heap.size, 2, none⟩ = some (.string a) ∧ Hid (Below wr.heap.size wr w'))
              (first
                | exact hS0
                | (go_split_ands; exact keep1 HA (Lib.hid (bel (Hid.out ‹Hid (Below wr.heap.size wr _)›) ‹_›))))
              (first
                | (go_at_call 14; refine Calls.mono (HK.out.1 _ _) ?_; rintro e wa ⟨rfl, hBa⟩)
                | (go_at_call 15; refine Calls.mono (HK.out.2.1 _ _) ?_; rintro e wb ⟨rfl, hBb⟩)
                | (go_at_call 16; refine Calls.mono (HK.out.2.2.1 _ _) ?_; rintro e wc ⟨rfl, hBc⟩)
                | (go_at_call 17; refine Calls.mono (HK.out.2.2.2 _ _) ?_; rintro e wd ⟨rfl, hBd⟩))
            go_split_ands
            have hBz : Below wr.heap.size wr wd := Hid.out ‹Hid (Below wr.heap.size wr wd)›
            have HBz := Lib.hid hBz
            clear hBz
            have hln := HLN.out
            go_wp2_with fail
            go_roundw
            case rel => exact ⟨k + 1, by go_num, by omega, Lib.hid (HA.out.kept HBz.out), Lib.hid (HU.out.kept HBz.out), Lib.hid (HV.out.kept HBz.out), Lib.hid (bel HW.out HBz.out)⟩
            case measure => simp [intOf]; omega
      · have HFB := Lib.hid hfb
        clear hfb
        go_wp2_with (first
          | (go_at_call 11
             refine Calls.mono (rfit_any _ _ _ _ (by first | exact HAS.out | exact HBS.out)) ?_
             first
               | (rw [HFA.out]
                  rintro e wh ⟨rfl, hBh⟩
                  have HAh := Lib.hid (HAg.out.kept hBh)
                  have HBh := Lib.hid (HBg.out.kept hBh)
                  have HWh : Hid (Below w.heap.size w wh) := Lib.hid (bel HWg.out hBh)
                  obtain ⟨ah0, ah1, ah2⟩ := HAh.out
                  obtain ⟨bh0, bh1, bh2⟩ := HBh.out
                  clear hBh ag0 ag1 ag2 bg0 bg1 bg2)
               | (rw [HFB.out]
                  rintro e wi ⟨rfl, hBi⟩))
          | (go_at_call 7
             refine Calls.mono (awake_any _) ?_
             rintro e wk ⟨rfl, hBk⟩))
        go_ret
        exact ⟨rfl, bel (bel HWh.out hBi) hBk⟩
    · have HFA := Lib.hid hfa
      clear hfa
      go_wp2_with (first
        | (go_at_call 11
           refine Calls.mono (rfit_any _ _ _ _ HAS.out) ?_
           rw [HFA.out]
           rintro e wh ⟨rfl, hBh⟩)
        | (go_at_call 7
           refine Calls.mono (awake_any _) ?_
           rintro e wk ⟨rfl, hBk⟩))
      go_ret
      exact ⟨rfl, bel (bel HWg.out hBh) hBk⟩
  · cases hf : fewB l with
    | false =>
      have HFW := Lib.hid hf
      clear hf
      go_enter Try.func3, Try.ntmps3
      go_wp2_with (first
              | (go_at_call 6
                 refine Calls.mono (few_any l _ _ (HST.out _ (by go_grown))) ?_
                 rw [HFW.out]
                 rintro e w1 ⟨rfl, hB1⟩
                 obtain ⟨a0, a1, a2⟩ : Blo w1 w.heap.size ai ah a := Blo.kept hB1 ⟨by go_simp, by go_simp, by go_simp⟩
                 obtain ⟨b0, b1, b2⟩ : Blo w1 (w.heap.size + 1) bi bh b := Blo.kept hB1 ⟨by go_simp, by go_simp, by go_simp⟩
                 have HW1 : Hid (Below w.heap.size w w1) := Lib.hid (bel (by go_grown) hB1)
                 clear hB1)
              | (go_at_call 7
                 refine Calls.mono (awake_any _) ?_
                 rintro e wk ⟨rfl, hBk⟩))
      go_ret
      exact ⟨rfl, bel HW1.out hBk⟩
    | true =>
      have HFW := Lib.hid hf
      by_cases hab : 9000 < a.size
      · have da : decide (9000 < (a.size : Int)) = true := decide_eq_true (by omega)
        have da' : decide (9000 < a.size) = true := decide_eq_true hab
        clear hf hbig
        go_enter Try.func3, Try.ntmps3
        go_wp2_with (first
                | (go_at_call 6
                   refine Calls.mono (few_any l _ _ (HST.out _ (by go_grown))) ?_
                   rw [HFW.out]
                   rintro e w1 ⟨rfl, hB1⟩
                   obtain ⟨a0, a1, a2⟩ : Blo w1 w.heap.size ai ah a := Blo.kept hB1 ⟨by go_simp, by go_simp, by go_simp⟩
                   obtain ⟨b0, b1, b2⟩ : Blo w1 (w.heap.size + 1) bi bh b := Blo.kept hB1 ⟨by go_simp, by go_simp, by go_simp⟩
                   have HW1 : Hid (Below w.heap.size w w1) := Lib.hid (bel (by go_grown) hB1)
                   clear hB1)
                | (go_at_call 7
                   refine Calls.mono (awake_any _) ?_
                   rintro e wk ⟨rfl, hBk⟩))
        go_ret
        exact ⟨rfl, bel HW1.out hBk⟩
      · have hbb : 9000 < b.size := by
          rcases Nat.lt_or_ge 9000 b.size with h | h
          · exact h
          · exact absurd ⟨hf, by omega, h⟩ hbig
        have da : decide (9000 < (a.size : Int)) = false := decide_eq_false (by omega)
        have da' : decide (9000 < a.size) = false := decide_eq_false hab
        have db : decide (9000 < (b.size : Int)) = true := decide_eq_true (by omega)
        have db' : decide (9000 < b.size) = true := decide_eq_true hbb
        clear hf hbig
        go_enter Try.func3, Try.ntmps3
        go_wp2_with (first
                | (go_at_call 6
                   refine Calls.mono (few_any l _ _ (HST.out _ (by go_grown))) ?_
                   rw [HFW.out]
                   rintro e w1 ⟨rfl, hB1⟩
                   obtain ⟨a0, a1, a2⟩ : Blo w1 w.heap.size ai ah a := Blo.kept hB1 ⟨by go_simp, by go_simp, by go_simp⟩
                   obtain ⟨b0, b1, b2⟩ : Blo w1 (w.heap.size + 1) bi bh b := Blo.kept hB1 ⟨by go_simp, by go_simp, by go_simp⟩
                   have HW1 : Hid (Below w.heap.size w w1) := Lib.hid (bel (by go_grown) hB1)
                   clear hB1)
                | (go_at_call 7
                   refine Calls.mono (awake_any _) ?_
                   rintro e wk ⟨rfl, hBk⟩))
        go_ret
        exact ⟨rfl, bel HW1.out hBk⟩
end Go.Proofs.Ytingloamfpibaaa
