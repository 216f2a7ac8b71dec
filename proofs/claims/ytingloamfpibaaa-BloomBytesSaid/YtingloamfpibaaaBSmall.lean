/-
  THE LAWS' SMALL FUNCTIONS: Same, few, keysOf, awake.
-/
import Derived.Test.YtingloamfpibaaaBLaw
import Derived.Deep.QuietTactic
import Derived.BigQuiet
namespace Go.Proofs.Ytingloamfpibaaa
open Go.RowKit Go.Proofs.Mem
set_option linter.unusedVariables false

theorem below_drewN' {B : Nat} {a w : World} (h : Below B a w) (n : Nat) : Below B a (w.drewN n) := ⟨h.os, h.tape, h.output, h.size, h.block⟩

set_option maxHeartbeats 600000 in
/-- The same lists. -/
theorem same_any (l : List ByteArray) (u v : Value) (w : World) (h1 : Strs w w.heap.size u l) (h2 : Strs w w.heap.size v l) :
    Calls Try.prog 22 #[u, v] w fun e w' => e = .returned (.bool true) ∧ Below w.heap.size w w' := by
  obtain ⟨A1, c1, rfl, hm1, hm2, hr1⟩ := h1
  obtain ⟨A2, c2, rfl, hm3, hm4, hr2⟩ := h2
  have hla : l.length ≤ 9223372036854775807 := Nat.le_trans hm1 (Nat.le_trans hm2 (by unfold maxLen; omega))
  have HR1 := Lib.hid hr1
  have HR2 := Lib.hid hr2
  clear hr1 hr2
  go_enter Try.func22, Try.ntmps22
  go_wp2
  go_loopw [5] (fun i wr => ∃ k : Nat, i = .int .i64 k ∧ k ≤ l.length ∧ Hid (Below w.heap.size w wr)) (fun i _ => l.length + 1 - (intOf i).toNat)
  case atStart => exact ⟨0, rfl, Nat.zero_le _, Lib.hid (Below.refl _ _)⟩
  case round =>
    obtain ⟨k, rfl, hk, hBr⟩ := hrel
    by_cases hlt : k < l.length
    · obtain ⟨b1, o1, rfl, hb1, hcl1⟩ := HR1.out.at_ (by simp; omega)
      obtain ⟨b2, o2, rfl, hb2, hcl2⟩ := HR2.out.at_ (by simp; omega)
      obtain ⟨x, hx⟩ : ∃ x, l[k]? = some x := ⟨l[k], List.getElem?_eq_getElem (by omega)⟩
      have q1 := (hBr.out.cell (p := ⟨b1, o1 + k, none⟩) hb1).trans (hcl1 k (.string x) (by rw [List.getElem?_map, hx]; rfl))
      have q2 := (hBr.out.cell (p := ⟨b2, o2 + k, none⟩) hb2).trans (hcl2 k (.string x) (by rw [List.getElem?_map, hx]; rfl))
      clear hcl1 hcl2 hx
      have i1 : (k : Int) < (l.length : Int) := by omega
      have i3 : (0 : Int) ≤ (k : Int) := by omega
      go_wp2_with fail
      go_quiet (fail)
      go_wp2_with fail
      go_roundw
      case rel => exact ⟨k + 1, by go_num, by omega, Lib.hid (below_drewN' hBr.out _)⟩
      case measure => simp [intOf]; omega
    · go_wp2_with fail
      go_ret
      exact ⟨rfl, hBr.out⟩

def fewB (l : List ByteArray) : Bool := decide (l.length ≤ 60 ∧ ∀ x ∈ l, x.size ≤ 100)
set_option maxHeartbeats 600000 in
theorem few_any (l : List ByteArray) (u : Value) (w : World) (h1 : Strs w w.heap.size u l) :
    Calls Try.prog 6 #[u] w fun e w' => e = .returned (.bool (fewB l)) ∧ Below w.heap.size w w' := by
  obtain ⟨A1, c1, rfl, hm1, hm2, hr1⟩ := h1
  have hla : l.length ≤ 9223372036854775807 := Nat.le_trans hm1 (Nat.le_trans hm2 (by unfold maxLen; omega))
  have HR1 := Lib.hid hr1
  clear hr1 hm1 hm2
  by_cases hl : 60 < l.length
  · have hr : fewB l = false := decide_eq_false (by intro h; omega)
    rw [hr]
    have hd : decide (60 < (l.length : Int)) = true := decide_eq_true (by omega)
    have hd2 : decide (60 < l.length) = true := decide_eq_true hl
    clear hr
    go_enter Try.func6, Try.ntmps6
    go_wp2_with fail
    go_ret
    exact ⟨rfl, Below.refl _ _⟩
  · have hd : decide (60 < (l.length : Int)) = false := decide_eq_false (by omega)
    have hd2 : decide (60 < l.length) = false := decide_eq_false hl
    go_enter Try.func6, Try.ntmps6
    go_wp2_with fail
    clear hd hd2
    have hl60 : l.length ≤ 60 := by omega
    clear hl
    go_loopw [4, 10] (fun _ i wr => ∃ k : Nat, i = .int .i64 k ∧ k ≤ l.length ∧ Hid (∀ x ∈ l.take k, x.size ≤ 100) ∧ wr = w) (fun _ i _ => l.length + 1 - (intOf i).toNat)
    case atStart => exact ⟨0, rfl, Nat.zero_le _, Lib.hid (by simp), rfl⟩
    case round =>
      obtain ⟨k, rfl, hk, hx, rfl⟩ := hrel
      by_cases hkl : k = l.length
      · have hkk : decide ((k : Int) < (l.length : Int)) = false := decide_eq_false (by omega)
        have hkn : decide (k < l.length) = false := decide_eq_false (by omega)
        have hr : fewB l = true := decide_eq_true ⟨hl60, by have := hx.out; rw [hkl, List.take_length] at this; exact this⟩
        have HRR := Lib.hid hr
        clear hr hx hkl
        go_wp2_with fail
        go_ret
        exact ⟨by rw [HRR.out]; rfl, Below.refl _ _⟩
      · have hlt : k < l.length := by omega
        have hlti : (k : Int) < (l.length : Int) := by omega
        have hk0 : (0 : Int) ≤ (k : Int) := Int.natCast_nonneg _
        have hkk : decide ((k : Int) < (l.length : Int)) = true := decide_eq_true (by omega)
        have hkn : decide (k < l.length) = true := decide_eq_true (by omega)
        obtain ⟨b1, o1, rfl, hb1, hcl1⟩ := HR1.out.at_ (by simp; omega)
        obtain ⟨x, hxx⟩ : ∃ x, l[k]? = some x := ⟨l[k], List.getElem?_eq_getElem (by omega)⟩
        have q1 := hcl1 k (.string x) (by rw [List.getElem?_map, hxx]; rfl)
        have HX := Lib.hid hxx
        clear hcl1 hxx hkl
        by_cases hs : 100 < x.size
        · have hd : decide (100 < (x.size : Int)) = true := decide_eq_true (by omega)
          have hd2 : decide (100 < x.size) = true := decide_eq_true hs
          have hr : fewB l = false := decide_eq_false (by intro h; have := h.2 x (List.mem_of_getElem? HX.out); omega)
          have HRR := Lib.hid hr
          clear hr hx hs
          go_wp2_with fail
          go_ret
          exact ⟨by rw [HRR.out]; rfl, Below.refl _ _⟩
        · have hd : decide (100 < (x.size : Int)) = false := decide_eq_false (by omega)
          have hd2 : decide (100 < x.size) = false := decide_eq_false hs
          have hs' : x.size ≤ 100 := by omega
          have HXS := Lib.hid hs'
          clear hs hs'
          go_wp2_with fail
          go_roundw
          case rel => exact ⟨k + 1, by go_num, by omega, Lib.hid (by
            intro y hy
            rw [List.take_add_one, HX.out, List.mem_append] at hy
            rcases hy with hy | hy
            · exact hx.out y hy
            · have : y = x := by simpa using hy
              rw [this]; exact HXS.out), trivial⟩
          case measure => simp [intOf]; omega

def keyB (x : ByteArray) : Bool := decide (x.size = 32)
set_option maxHeartbeats 600000 in
theorem keys_any (l : List ByteArray) (u : Value) (w : World) (h1 : Strs w w.heap.size u l) (hl : l.length ≤ 1000) :
    Calls Try.prog 23 #[u] w fun e w' => ∃ v, e = .returned v ∧ w'.ownsRow w.heap.size 9 1 v (inK keyB l l.length).length ((inK keyB l l.length).map .string) ∧ Below w.heap.size w w' := by
  obtain ⟨i0, hi, hz0, hz1, hz2⟩ := info_parts Try.infoT
  obtain ⟨A1, c1, rfl, hm1, hm2, hr1⟩ := h1
  have HR1 := Lib.hid hr1
  clear hr1 hm1 hm2
  go_enter Try.func23, Try.ntmps23
  go_wp2_with fail
  go_loopw [3, 5, 8] (fun v _ i wr => ∃ k : Nat, i = .int .i64 k ∧ k ≤ l.length ∧ wr.ownsRow w.heap.size 9 1 v (inK keyB l k).length ((inK keyB l k).map .string) ∧ Hid (Below w.heap.size w wr)) (fun _ _ i _ => l.length + 1 - (intOf i).toNat)
  case atStart => exact ⟨0, rfl, Nat.zero_le _, World.ownsRow_nil _ _ _ _, Lib.hid (Below.refl _ _)⟩
  case round =>
    obtain ⟨k, rfl, hk, hown, HB⟩ := hrel
    obtain ⟨AI, nI, kI, rfl⟩ := own_slice hown
    by_cases hkl : k = l.length
    · have hkk : decide ((k : Int) < (l.length : Int)) = false := decide_eq_false (by omega)
      have hkn : decide (k < l.length) = false := decide_eq_false (by omega)
      rw [hkl] at hown
      have HO := Lib.hid hown
      clear hown hkl
      go_wp2_with fail
      go_ret
      exact ⟨_, rfl, HO.out, HB.out⟩
    · have hlt : k < l.length := by omega
      have hlti : (k : Int) < (l.length : Int) := by omega
      have hk0 : (0 : Int) ≤ (k : Int) := Int.natCast_nonneg _
      have hkk : decide ((k : Int) < (l.length : Int)) = true := decide_eq_true (by omega)
      have hkn : decide (k < l.length) = true := decide_eq_true (by omega)
      obtain ⟨b1, o1, rfl, hb1, hcl1⟩ := HR1.out.at_ (by simp; omega)
      obtain ⟨x, hxx⟩ : ∃ x, l[k]? = some x := ⟨l[k], List.getElem?_eq_getElem (by omega)⟩
      have q1 := (HB.out.cell (p := ⟨b1, o1 + k, none⟩) hb1).trans (hcl1 k (.string x) (by rw [List.getElem?_map, hxx]; rfl))
      have HX := Lib.hid hxx
      have hS := HB.out.size
      have HS := Lib.hid hS
      clear hcl1 hxx hkl hS
      by_cases hs : x.size = 32
      · have hd : ((x.size : Int) == 32) = true := beq_iff_eq.2 (by omega)
        have hd2 : decide (x.size = 32) = true := decide_eq_true hs
        have hnx : inK keyB l (k + 1) = inK keyB l k ++ [x] := by rw [inK_succ keyB l k x HX.out]; unfold keyB; rw [hd2, if_pos rfl]
        have hle := inK_len keyB l k
        have HNX := Lib.hid hnx
        obtain ⟨m, hm⟩ : ∃ m, m = inK keyB l k := ⟨_, rfl⟩
        rw [← hm] at hown hle
        have HM := Lib.hid hm
        have hsz := Lib.hid hs
        clear hs hnx hm
        go_wp2_with (at_builtin; refine wpList_append_lies _ rfl _ _ _ rfl w.heap.size 9 i0 _ 1 16 Try.underlying24 hi hz0 hz1 hz2 rfl (by omega) _ m.length _ rfl (hown.alloc _) ⟨wr.heap.size, 0, none⟩ 1 1 [.string x] rfl rfl (World.news_of_block (cs := #[.string x]) (t := 9) (fr := (0, 0)) (heap_alloc_new wr _)) (by simp [Value.oneCell']) (by omega) (by unfold maxLen; omega) (by omega) (by have := HS.out; simp; omega) (wr.heap.size + 1) (by simp) ?_; intro gg cap w2 hown2 hgrow hat hlt)
        have hb2 : Below w.heap.size wr w2 := (((Below.refl _ _).alloc HS.out _)).grown hgrow (by have := HS.out; simp; omega) (fun q e => (hown.lt q e).1)
        go_roundw
        case rel => exact ⟨k + 1, by go_num, by omega, by rw [HNX.out, ← HM.out]; simpa using hown2, Lib.hid (HB.out.trans hb2)⟩
        case measure => simp [intOf]; omega
      · have hd : ((x.size : Int) == 32) = false := beq_eq_false_iff_ne.2 (by omega)
        have hd2 : decide (x.size = 32) = false := decide_eq_false hs
        have hnx : inK keyB l (k + 1) = inK keyB l k := by rw [inK_succ keyB l k x HX.out]; unfold keyB; rw [hd2]; rfl
        have HNX := Lib.hid hnx
        clear hs hnx
        go_wp2_with fail
        go_roundw
        case rel => exact ⟨k + 1, by go_num, by omega, by rw [HNX.out]; exact hown, HB⟩
        case measure => simp [intOf]; omega

def keyA : ByteArray := ⟨Array.replicate 32 97⟩
theorem keyA_is : (⟨#[97, 97, 97, 97, 97, 97, 97, 97, 97, 97, 97, 97, 97, 97, 97, 97, 97, 97, 97, 97, 97, 97, 97, 97, 97, 97, 97, 97, 97, 97, 97, 97]⟩ : ByteArray) = keyA := by decide
theorem keyA_size : keyA.size = 32 := rfl
set_option maxHeartbeats 600000 in
theorem awake_any (w : World) :
    Calls Try.prog 7 #[] w fun e w' => e = .returned (.bool true) ∧ Below w.heap.size w w' := by
  obtain ⟨z, hz⟩ : ∃ z, z = zerosB 8 := ⟨_, rfl⟩
  have hzs : z.size = 8 * 2 ^ 0 := by rw [hz, zerosB_size]
  obtain ⟨a, ha⟩ : ∃ a, a = addF keyA 64 2 z := ⟨_, rfl⟩
  have has : a.size = 8 * 2 ^ 0 := by rw [ha, addF_size, hzs]
  have f1 : hasF keyA 64 2 a = true := by rw [ha]; exact added_has keyA 64 2 z (by decide) (by rw [hzs]) keyA_size
  have f2 : hasF keyA 64 2 z = false := by rw [hz]; exact hasF_zeros keyA 64 2 8 (by decide)
  have h64 : shapeB 64 2 = true := by decide
  have h63 : shapeB 63 2 = false := by decide
  have hz8 : zerosB ((64 : Int) / 8).toNat = z := by rw [hz]; rfl
  have n3 : ∀ W, Calls Try.prog 14 #[.agg #[.int .i64 64, .int .i64 2, .string z], .string keyA] W fun e w' => e = .returned (.agg #[.int .i64 64, .int .i64 2, .string a]) ∧ Below W.heap.size W w' := fun W => by
    have h := badd_any 0 2 z keyA W (by decide) (by decide) hzs; rw [show (((64 * 2 ^ 0 : Nat)) : Int) = 64 from rfl, show ((2 : Nat) : Int) = 2 from rfl, show 64 * 2 ^ 0 = 64 from rfl] at h; rw [← ha] at h; exact h
  have n4 : ∀ d W, d.size = 8 * 2 ^ 0 → Calls Try.prog 16 #[.agg #[.int .i64 64, .int .i64 2, .string d], .string keyA] W fun e w' => e = .returned (.bool (hasF keyA 64 2 d)) ∧ Below W.heap.size W w' := fun d W hd => by
    have h := bhas_any 0 2 d keyA W (by decide) (by decide) hd; rw [show (((64 * 2 ^ 0 : Nat)) : Int) = 64 from rfl, show ((2 : Nat) : Int) = 2 from rfl, show 64 * 2 ^ 0 = 64 from rfl] at h; exact h
  have Hzs := Lib.hid hzs
  have Has := Lib.hid has
  have H64 := Lib.hid h64
  have H63 := Lib.hid h63
  have Hz8 := Lib.hid hz8
  have F1 := Lib.hid f1
  have F2 := Lib.hid f2
  rw [← keyA_is] at n3 n4 F1 F2
  clear hz hzs ha has f1 f2 h64 h63 hz8
  go_enter Try.func7, Try.ntmps7
  go_wp2_with (first
    | (go_at_call 8
       refine Calls.mono (bnew_any _ _ _ (by decide) (by decide)) ?_
       first
         | (rw [H64.out, if_pos rfl, Hz8.out]
            rintro e w1 ⟨rfl, hB1⟩)
         | (rw [H63.out, if_neg (by decide)]
            rintro e w2 ⟨rfl, hB2⟩
            have q0 : w2.cell? ⟨w1.heap.size, 0, none⟩ = some (.int .i64 64) := (hB2.cell (p := ⟨w1.heap.size, 0, none⟩) (by dsimp only; simp only [World.size_alloc]; omega)).trans (by go_simp)
            have q1 : w2.cell? ⟨w1.heap.size, 1, none⟩ = some (.int .i64 2) := (hB2.cell (p := ⟨w1.heap.size, 1, none⟩) (by dsimp only; simp only [World.size_alloc]; omega)).trans (by go_simp)
            have q2 : w2.cell? ⟨w1.heap.size, 2, none⟩ = some (.string z) := (hB2.cell (p := ⟨w1.heap.size, 2, none⟩) (by dsimp only; simp only [World.size_alloc]; omega)).trans (by go_simp)
            have hz2 := hB2.size
            have HZ2 : Hid (w1.heap.size < w2.heap.size) := Lib.hid (by simp only [World.size_alloc] at hz2; omega)
            have HB2 : Hid (Below w.heap.size w w2) := Lib.hid (bel (bel hB1 ((Below.refl _ _).alloc (Nat.le_refl _) _)) hB2)
            clear hz2 hB1 hB2
            have hlt2 := HZ2.out))
    | (go_at_call 14
       refine Calls.mono (n3 _) ?_
       rintro e w3 ⟨rfl, hB3⟩
       have r0 : w3.cell? ⟨w1.heap.size, 0, none⟩ = some (.int .i64 64) := (hB3.cell (p := ⟨w1.heap.size, 0, none⟩) (by dsimp only; have := HZ2.out; simp only [World.size_alloc]; omega)).trans (by go_simp)
       have r1 : w3.cell? ⟨w1.heap.size, 1, none⟩ = some (.int .i64 2) := (hB3.cell (p := ⟨w1.heap.size, 1, none⟩) (by dsimp only; have := HZ2.out; simp only [World.size_alloc]; omega)).trans (by go_simp)
       have r2 : w3.cell? ⟨w1.heap.size, 2, none⟩ = some (.string z) := (hB3.cell (p := ⟨w1.heap.size, 2, none⟩) (by dsimp only; have := HZ2.out; simp only [World.size_alloc]; omega)).trans (by go_simp)
       have HB3 : Hid (Below w.heap.size w w3) := Lib.hid (bel (bel HB2.out ((Below.refl _ _).alloc (Nat.le_refl _) _)) hB3)
       have HZ3 : Hid (w1.heap.size < w3.heap.size) := Lib.hid (by have h1 := hB3.size; have h2 := HZ2.out; simp only [World.size_alloc] at h1; omega)
       clear q0 q1 q2 hB3 hlt2)
    | (go_at_call 16
       refine Calls.mono (n4 _ _ (by first | exact Has.out | exact Hzs.out)) ?_
       first
         | (rw [F1.out]
            rintro e w4 ⟨rfl, hB4⟩
            have s0 : w4.cell? ⟨w1.heap.size, 0, none⟩ = some (.int .i64 64) := (hB4.cell (p := ⟨w1.heap.size, 0, none⟩) (by dsimp only; exact HZ3.out)).trans (by assumption)
            have s1 : w4.cell? ⟨w1.heap.size, 1, none⟩ = some (.int .i64 2) := (hB4.cell (p := ⟨w1.heap.size, 1, none⟩) (by dsimp only; exact HZ3.out)).trans (by assumption)
            have s2 : w4.cell? ⟨w1.heap.size, 2, none⟩ = some (.string z) := (hB4.cell (p := ⟨w1.heap.size, 2, none⟩) (by dsimp only; exact HZ3.out)).trans (by assumption)
            have HB4 : Hid (Below w.heap.size w w4) := Lib.hid (bel HB3.out hB4)
            clear r0 r1 r2 hB4)
         | (rw [F2.out]
            rintro e w5 ⟨rfl, hB5⟩)))
  go_ret
  exact ⟨rfl, bel HB4.out hB5⟩
end Go.Proofs.Ytingloamfpibaaa
