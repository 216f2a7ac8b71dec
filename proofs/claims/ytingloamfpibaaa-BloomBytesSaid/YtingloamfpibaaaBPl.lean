/-
  The places of a key, as the document has them.
-/
import Derived.Test.YtingloamfpibaaaBRFit
import Derived.Test.YtingloamfpibaaaBLow
import Derived.Test.YtingloamfpibaaaApp
import Derived.Deep.AppendLies
import Derived.Deep.RegionHeld3
namespace Go.Proofs.Ytingloamfpibaaa
open Go.RowKit Go.Proofs.Mem
set_option linter.unusedVariables false

theorem bel {w w1 w2 : World} (h1 : Below w.heap.size w w1) (h2 : Below w1.heap.size w1 w2) : Below w.heap.size w w2 := h1.trans (h2.mono h1.size)
theorem own_on {w w' : World} {base n : Nat} {e : TypeId} {size : Nat} {v : Value} {xs : List Value} (h : w.ownsRow base e size v n xs) (hb : Below w.heap.size w w') : w'.ownsRow base e size v n xs := by
  refine ⟨h.1, h.2.imp id ?_⟩
  rintro ⟨g, cap, cur, rfl, h1, hh, hr⟩
  exact ⟨g, cap, cur, rfl, h1, (hb.block g (Array.getElem?_eq_some_iff.1 hh).1).trans hh, hr⟩

/-- The two numbers of a key. -/
def kx (key : ByteArray) : Nat := le8 (key.extract 0 8)
def ky (key : ByteArray) : Nat := le8 (key.extract 8 16) / 2 * 2 + 1
/-- A key's i-th place among so many bits. -/
def placeN (key : ByteArray) (B i : Nat) : Nat := (kx key + i * ky key) % 18446744073709551616 % B
def places (key : ByteArray) (B H : Nat) : List Nat := (List.range H).map (placeN key B)

theorem place_eq (x y k bi : Nat) (hb : 0 < bi) : (IntKind.u64.wrap ((x : Int) + IntKind.u64.wrap ((k : Int) * (y : Int)))).tmod (bi : Int) = (((x + k * y) % 18446744073709551616 % bi : Nat) : Int) := by
  have h : IntKind.u64.wrap ((x : Int) + IntKind.u64.wrap ((k : Int) * (y : Int))) = (((x + k * y) % 18446744073709551616 : Nat) : Int) := by
    rw [IntKind.wrap_u64, IntKind.wrap_u64, ← Int.natCast_mul]
    generalize k * y = m
    omega
  rw [h, Int.tmod_eq_emod_of_nonneg (Int.natCast_nonneg _)]
  rfl

theorem Try.infoI : (Try.prog.info? 3).map (fun i => (i.zero, i.size, i.bytes)) = some (some (.int .i64 0), 1, 8) := by kernel_rfl

set_option maxHeartbeats 400000 in
theorem places_any (bi h : Nat) (d key : ByteArray) (w : World) (hk : key.size = 32) (hb0 : 0 < bi) (hb : bi ≤ 65536) (hh : h ≤ 8) :
    Calls Try.prog 30 #[.agg #[.int .i64 bi, .int .i64 h, .string d], .string key] w fun e w' =>
      ∃ v, e = .returned v ∧ w'.ownsRow w.heap.size 3 1 v h ((places key bi h).map fun p => .int .i64 (p : Nat)) ∧ Below w.heap.size w w' := by
  obtain ⟨i0, hi, hz0, hz1, hz2⟩ := info_parts Try.infoI
  obtain ⟨x, hx⟩ : ∃ x, x = le8 (key.extract 0 8) := ⟨_, rfl⟩
  obtain ⟨z, hz⟩ : ∃ z, z = le8 (key.extract 8 16) := ⟨_, rfl⟩
  obtain ⟨y, hy⟩ : ∃ y, y = ky key := ⟨_, rfl⟩
  have hyz : y = z / 2 * 2 + 1 := by rw [hy, hz]; rfl
  have hxl : x < 18446744073709551616 := by rw [hx]; exact le8_lt _
  have hzl : z < 18446744073709551616 := by rw [hz]; exact le8_lt _
  have h1 : 8 ≤ (key.extract 0 8).size := by rw [ByteArray.size_extract]; omega
  have h2 : 8 ≤ (key.extract 8 16).size := by rw [ByteArray.size_extract]; omega
  have HX := Lib.hid hx
  have HZ := Lib.hid hz
  have HY := Lib.hid hy
  have H1 := Lib.hid h1
  have H2 := Lib.hid h2
  have hk32 : (key.size : Int) = 32 := by omega
  clear hx hz hy h1 h2
  go_enter Try.func30, Try.ntmps30
  have HXL := Lib.hid hxl
  have HZL := Lib.hid hzl
  have HYZ := Lib.hid hyz
  clear hxl hzl hyz
  rcases Nat.mod_two_eq_zero_or_one z with hp | hp
  · have hpe : ((z : Int) % 2 == 0) = true := beq_iff_eq.2 (by omega)
    have hw : IntKind.u64.wrap ((z : Int) + 1) = (y : Int) := by rw [wraps_u64 _ (by omega) (by have := HZL.out; have := HYZ.out; omega)]; have := HYZ.out; omega
    go_wp2_with (go_at_call 38; refine Calls.mono (le_any _ _ (by rw [ByteArray.size_extract]; omega)) ?_; rintro e w' ⟨rfl, rfl⟩; first | rw [← HX.out] | rw [← HZ.out])
    obtain ⟨W0, hW0⟩ : ∃ W0, w.alloc (.cells #[.int .i64 bi, .int .i64 h, .string d] 23) = W0 := ⟨_, rfl⟩
    have hsz : W0.heap.size = w.heap.size + 1 := by rw [← hW0]; simp only [World.size_alloc]
    have k1 : W0.cell? ⟨w.heap.size, 0, none⟩ = some (.int .i64 bi) := by rw [← hW0]; clear hsz hW0; go_simp
    have k2 : W0.cell? ⟨w.heap.size, 1, none⟩ = some (.int .i64 h) := by rw [← hW0]; clear hsz hW0; go_simp
    have hB0 : Below w.heap.size w W0 := by rw [← hW0]; clear hsz hW0; go_grown
    have hown0 : W0.ownsRow (w.heap.size + 1) 3 1 (.slice none 0 0) 0 [] := World.ownsRow_nil _ _ _ _
    rw [hW0]
    clear hW0
    have HB0 := Lib.hid hB0
    clear hB0
    go_loopw [7, 8] (fun l i wr => ∃ k : Nat, k ≤ h ∧ i = .int .i64 k ∧ wr.ownsRow (w.heap.size + 1) 3 1 l k (((List.range k).map (placeN key bi)).map fun p => .int .i64 (p : Nat)) ∧ Hid (Below w.heap.size w wr) ∧ Hid (w.heap.size + 1 ≤ wr.heap.size) ∧
        wr.cell? ⟨w.heap.size, 0, none⟩ = some (.int .i64 bi) ∧ wr.cell? ⟨w.heap.size, 1, none⟩ = some (.int .i64 h)) (fun _ i _ => h - (intOf i).toNat)
    case atStart => exact ⟨0, Nat.zero_le _, rfl, hown0, HB0, Lib.hid (by omega), k1, k2⟩
    case round =>
      obtain ⟨k, hk', rfl, hown, hB, hSz, c1, c2⟩ := hrel
      by_cases hkh : k = h
      · subst hkh
        have hd : decide ((k : Int) < (k : Int)) = false := decide_eq_false (by omega)
        go_wp2
        go_ret
        refine ⟨_, rfl, ?_, hB.out⟩
        exact ⟨hown.1, hown.2.imp id (by rintro ⟨g, cap, cur, e1, e2, e3⟩; exact ⟨g, cap, cur, e1, by omega, e3⟩)⟩
      · have hlt : k < h := by omega
        have hd : decide ((k : Int) < (h : Int)) = true := decide_eq_true (by omega)
        obtain ⟨p, hpp⟩ : ∃ p, p = placeN key bi k := ⟨_, rfl⟩
        have hpe := place_eq x y k bi hb0
        have hpn : (x + k * y) % 18446744073709551616 % bi = p := by rw [hpp, HX.out, HY.out]; rfl
        rw [hpn] at hpe
        have hpl : p < bi := by rw [← hpn]; exact Nat.mod_lt _ hb0
        have HPP := Lib.hid hpp
        clear hpp hpn
        go_wp2_with (at_builtin; refine wpList_append_lies _ rfl _ _ _ rfl (w.heap.size + 1) 3 i0 _ 1 8 Try.underlying54 hi hz0 hz1 hz2 rfl (by omega) u7 k _ rfl (hown.alloc _) ⟨wr.heap.size, 0, none⟩ 1 1 [.int .i64 (p : Nat)] rfl rfl (World.news_of_block (cs := #[.int .i64 (p : Nat)]) (t := 3) (fr := (0, 0)) (heap_alloc_new wr _)) (by simp [Value.oneCell']) (by omega) (by unfold maxLen; omega) (by omega) (by have := hSz.out; simp; omega) (wr.heap.size + 1) (by simp) ?_; intro gg cap w2 hown2 hgrow hat hlt2)
        have hb2 : Below (w.heap.size + 1) wr w2 := ((Below.refl (w.heap.size + 1) wr).alloc hSz.out _).grown hgrow (by have := hSz.out; simp; omega) (fun k e => (hown.lt k e).1)
        have hSz3 := hb2.size
        go_wp2
        go_roundw
        case rel => exact ⟨k + 1, by omega, by go_num, by rw [List.range_succ]; simpa [← HPP.out] using hown2, Lib.hid (hB.out.trans (hb2.mono (Nat.le_succ _))), Lib.hid (Nat.le_trans hSz.out hSz3), (hb2.cell (p := ⟨w.heap.size, 0, none⟩) (Nat.lt_succ_self _)).trans c1, (hb2.cell (p := ⟨w.heap.size, 1, none⟩) (Nat.lt_succ_self _)).trans c2⟩
        case measure => simp [intOf]; omega
  · have hpe : ((z : Int) % 2 == 0) = false := beq_eq_false_iff_ne.2 (by omega)
    have hzy : y = z := by have := HYZ.out; omega
    subst hzy
    go_wp2_with (go_at_call 38; refine Calls.mono (le_any _ _ (by rw [ByteArray.size_extract]; omega)) ?_; rintro e w' ⟨rfl, rfl⟩; first | rw [← HX.out] | rw [← HZ.out])
    obtain ⟨W0, hW0⟩ : ∃ W0, w.alloc (.cells #[.int .i64 bi, .int .i64 h, .string d] 23) = W0 := ⟨_, rfl⟩
    have hsz : W0.heap.size = w.heap.size + 1 := by rw [← hW0]; simp only [World.size_alloc]
    have k1 : W0.cell? ⟨w.heap.size, 0, none⟩ = some (.int .i64 bi) := by rw [← hW0]; clear hsz hW0; go_simp
    have k2 : W0.cell? ⟨w.heap.size, 1, none⟩ = some (.int .i64 h) := by rw [← hW0]; clear hsz hW0; go_simp
    have hB0 : Below w.heap.size w W0 := by rw [← hW0]; clear hsz hW0; go_grown
    have hown0 : W0.ownsRow (w.heap.size + 1) 3 1 (.slice none 0 0) 0 [] := World.ownsRow_nil _ _ _ _
    rw [hW0]
    clear hW0
    have HB0 := Lib.hid hB0
    clear hB0
    go_loopw [7, 8] (fun l i wr => ∃ k : Nat, k ≤ h ∧ i = .int .i64 k ∧ wr.ownsRow (w.heap.size + 1) 3 1 l k (((List.range k).map (placeN key bi)).map fun p => .int .i64 (p : Nat)) ∧ Hid (Below w.heap.size w wr) ∧ Hid (w.heap.size + 1 ≤ wr.heap.size) ∧
        wr.cell? ⟨w.heap.size, 0, none⟩ = some (.int .i64 bi) ∧ wr.cell? ⟨w.heap.size, 1, none⟩ = some (.int .i64 h)) (fun _ i _ => h - (intOf i).toNat)
    case atStart => exact ⟨0, Nat.zero_le _, rfl, hown0, HB0, Lib.hid (by omega), k1, k2⟩
    case round =>
      obtain ⟨k, hk', rfl, hown, hB, hSz, c1, c2⟩ := hrel
      by_cases hkh : k = h
      · subst hkh
        have hd : decide ((k : Int) < (k : Int)) = false := decide_eq_false (by omega)
        go_wp2
        go_ret
        refine ⟨_, rfl, ?_, hB.out⟩
        exact ⟨hown.1, hown.2.imp id (by rintro ⟨g, cap, cur, e1, e2, e3⟩; exact ⟨g, cap, cur, e1, by omega, e3⟩)⟩
      · have hlt : k < h := by omega
        have hd : decide ((k : Int) < (h : Int)) = true := decide_eq_true (by omega)
        obtain ⟨p, hpp⟩ : ∃ p, p = placeN key bi k := ⟨_, rfl⟩
        have hpe := place_eq x y k bi hb0
        have hpn : (x + k * y) % 18446744073709551616 % bi = p := by rw [hpp, HX.out, HY.out]; rfl
        rw [hpn] at hpe
        have hpl : p < bi := by rw [← hpn]; exact Nat.mod_lt _ hb0
        have HPP := Lib.hid hpp
        clear hpp hpn
        go_wp2_with (at_builtin; refine wpList_append_lies _ rfl _ _ _ rfl (w.heap.size + 1) 3 i0 _ 1 8 Try.underlying54 hi hz0 hz1 hz2 rfl (by omega) u7 k _ rfl (hown.alloc _) ⟨wr.heap.size, 0, none⟩ 1 1 [.int .i64 (p : Nat)] rfl rfl (World.news_of_block (cs := #[.int .i64 (p : Nat)]) (t := 3) (fr := (0, 0)) (heap_alloc_new wr _)) (by simp [Value.oneCell']) (by omega) (by unfold maxLen; omega) (by omega) (by have := hSz.out; simp; omega) (wr.heap.size + 1) (by simp) ?_; intro gg cap w2 hown2 hgrow hat hlt2)
        have hb2 : Below (w.heap.size + 1) wr w2 := ((Below.refl (w.heap.size + 1) wr).alloc hSz.out _).grown hgrow (by have := hSz.out; simp; omega) (fun k e => (hown.lt k e).1)
        have hSz3 := hb2.size
        go_wp2
        go_roundw
        case rel => exact ⟨k + 1, by omega, by go_num, by rw [List.range_succ]; simpa [← HPP.out] using hown2, Lib.hid (hB.out.trans (hb2.mono (Nat.le_succ _))), Lib.hid (Nat.le_trans hSz.out hSz3), (hb2.cell (p := ⟨w.heap.size, 0, none⟩) (Nat.lt_succ_self _)).trans c1, (hb2.cell (p := ⟨w.heap.size, 1, none⟩) (Nat.lt_succ_self _)).trans c2⟩
        case measure => simp [intOf]; omega

end Go.Proofs.Ytingloamfpibaaa
