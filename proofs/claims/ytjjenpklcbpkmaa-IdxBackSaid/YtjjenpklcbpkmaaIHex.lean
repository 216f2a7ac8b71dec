/-
  Keys as text: both packages.
-/
import Derived.Test.YtjjenpklcbpkmaaIUnd
import Derived.Deep.RegionHeld3
import Derived.Deep.AppendLies
namespace Go.Proofs.Ytjjenpklcbpkmaa
open Go.RowKit Go.Proofs.Mem
set_option linter.unusedVariables false

/-- A digit's byte. -/
def hexD (n : Nat) : Nat := if n < 10 then 48 + n else 87 + n
def hexL (l : List UInt8) : List UInt8 := l.flatMap fun b => [UInt8.ofNat (hexD (b.toNat / 16)), UInt8.ofNat (hexD (b.toNat % 16))]
def hexB (k : ByteArray) : ByteArray := ⟨(hexL k.data.toList).toArray⟩
theorem hexL_len (l : List UInt8) : (hexL l).length = 2 * l.length := by
  unfold hexL
  induction l with
  | nil => rfl
  | cons b l ih => rw [List.flatMap_cons, List.length_append, ih, List.length_cons]; simp; omega
theorem hexL_snoc (l : List UInt8) (b : UInt8) : hexL (l ++ [b]) = hexL l ++ [UInt8.ofNat (hexD (b.toNat / 16)), UInt8.ofNat (hexD (b.toNat % 16))] := by
  unfold hexL
  rw [List.flatMap_append]
  simp
theorem hexD_lt {n : Nat} (h : n < 16) : hexD n < 256 := by unfold hexD; split <;> omega
theorem bytes_snoc (l : List UInt8) (x : Nat) (hx : x < 256) : Lib.byteCells l ++ [.int .u8 (x : Nat)] = Lib.byteCells (l ++ [UInt8.ofNat x]) := by
  unfold Lib.byteCells
  rw [List.map_append]
  congr 1
  show [Value.int .u8 (x : Nat)] = [Value.int .u8 ((UInt8.ofNat x).toNat : Nat)]
  rw [UInt8.toNat_ofNat', Nat.mod_eq_of_lt (by omega)]
theorem take_byte (s : ByteArray) (k : Nat) (h : k < s.size) : s.data.toList.take (k + 1) = s.data.toList.take k ++ [s[k]] := by
  rw [List.take_succ_eq_append_getElem (by simpa using h)]; rfl

def digits : ByteArray := ⟨#[48, 49, 50, 51, 52, 53, 54, 55, 56, 57, 97, 98, 99, 100, 101, 102]⟩

theorem ix_digit {n : Nat} (h : n < 16) (W : World) :
    (Instr.index 9 (.string ⟨#[48, 49, 50, 51, 52, 53, 54, 55, 56, 57, 97, 98, 99, 100, 101, 102]⟩) (.int .u8 (n : Int))).run Try.prog W = .ok (.int .u8 (hexD n : Nat)) W := by
  have h16 : n = 0 ∨ n = 1 ∨ n = 2 ∨ n = 3 ∨ n = 4 ∨ n = 5 ∨ n = 6 ∨ n = 7 ∨ n = 8 ∨ n = 9 ∨ n = 10 ∨ n = 11 ∨ n = 12 ∨ n = 13 ∨ n = 14 ∨ n = 15 := by omega
  clear h
  rcases h16 with rfl | rfl | rfl | rfl | rfl | rfl | rfl | rfl | rfl | rfl | rfl | rfl | rfl | rfl | rfl | rfl <;> (show _ = _; kernel_rfl)
theorem ix_high {x : Nat} (h : x < 256) (W : World) :
    (Instr.index 9 (.string ⟨#[48, 49, 50, 51, 52, 53, 54, 55, 56, 57, 97, 98, 99, 100, 101, 102]⟩) (.int .u8 ((x : Int) / 16))).run Try.prog W = .ok (.int .u8 (hexD (x / 16) : Nat)) W := by
  have := ix_digit (n := x / 16) (by omega) W
  rw [Int.natCast_ediv] at this
  exact this

theorem ix_low {x : Nat} (W : World) :
    (Instr.index 9 (.string ⟨#[48, 49, 50, 51, 52, 53, 54, 55, 56, 57, 97, 98, 99, 100, 101, 102]⟩) (.int .u8 ((x : Int) % 16))).run Try.prog W = .ok (.int .u8 (hexD (x % 16) : Nat)) W := by
  have := ix_digit (n := x % 16) (by omega) W
  rw [Int.natCast_emod] at this
  exact this

set_option maxHeartbeats 1000000 in
theorem khex_any (k : ByteArray) (w : World) (hk : k.size ≤ 100000) :
    Calls Try.prog 55 #[.string k] w fun e w' => e = .returned (.string (hexB k)) ∧ Below w.heap.size w w' := by
  have HI0 : Hid (Lib.IsBuilder 57 5 w.heap.size w.heap.size (Lib.byteCells []) (w.alloc (.cells #[.pointer none, .slice none 0 0] 57))) := Lib.hid (Lib.fresh_isBuilder 57 5 w)
  have HB0 : Hid (Below w.heap.size w (w.alloc (.cells #[.pointer none, .slice none 0 0] 57))) := Lib.hid ((Below.refl _ _).alloc (Nat.le_refl _) _)
  go_enter Try.func55, Try.ntmps55
  go_wp2_with fail
  go_loopw [4, 7] (fun _ i wr => ∃ j : Nat, i = .int .i64 j ∧ j ≤ k.size ∧ Hid (Lib.IsBuilder 57 5 w.heap.size w.heap.size (Lib.byteCells (hexL (k.data.toList.take j))) wr) ∧ Hid (Below w.heap.size w wr)) (fun _ i _ => k.size + 1 - (intOf i).toNat)
  case atStart => exact ⟨0, rfl, Nat.zero_le _, HI0, HB0⟩
  case round =>
    obtain ⟨j, rfl, hj, hI, hB⟩ := hrel
    by_cases hlt : j < k.size
    · have j1 : (j : Int) < (k.size : Int) := by omega
      have hx0 : k[j].toNat < 256 := k[j].toNat_lt
      have HST := Lib.hid (take_byte k j hlt)
      obtain ⟨x, hx⟩ : ∃ x, x = k[j].toNat := ⟨_, rfl⟩
      have HLN := Lib.hid (show (Lib.byteCells (hexL (k.data.toList.take j))).length ≤ 200000 by
        rw [Lib.byteCells_length, hexL_len, List.length_take]; omega)
      have HSS : Hid (hexL (k.data.toList.take (j + 1)) = (hexL (k.data.toList.take j) ++ [UInt8.ofNat (hexD (x / 16))]) ++ [UInt8.ofNat (hexD (x % 16))]) := Lib.hid (by
        rw [HST.out, hexL_snoc, hx, List.append_assoc]
        rfl)
      rw [← hx] at hx0
      have hx' : k[j].toNat = x := hx.symm
      have i1 := fun W => ix_high hx0 W
      obtain ⟨d, hd⟩ : ∃ d, d = hexD (x / 16) := ⟨_, rfl⟩
      obtain ⟨d2, hd2⟩ : ∃ d, d = hexD (x % 16) := ⟨_, rfl⟩
      have HD : Hid (d < 256) := Lib.hid (by rw [hd]; exact hexD_lt (by omega))
      have HD2 : Hid (d2 < 256) := Lib.hid (by rw [hd2]; exact hexD_lt (by omega))
      have i2 := fun W => ix_low (x := x) W
      rw [← hd] at i1
      rw [← hd2] at i2
      rw [← hd, ← hd2] at HSS
      clear hx hd hd2
      obtain ⟨l, hl⟩ : ∃ l, l = hexL (k.data.toList.take j) := ⟨_, rfl⟩
      rw [← hl] at hI HLN HSS
      clear hl
      go_wp2_with (first
        | (go_at_call 50
           (with_reducible refine Calls.mono (bld_write w.heap.size w.heap.size (Lib.byteCells l) (d : Int) _ hI.out (by have := HLN.out; omega) hB.out.size) ?_)
           rintro e w1 ⟨rfl, hbl, hB1⟩
           rw [bytes_snoc l d HD.out] at hbl
           have HBL : Hid (Lib.IsBuilder 57 5 w.heap.size w.heap.size (Lib.byteCells (l ++ [UInt8.ofNat d])) w1) := Lib.hid (.inr hbl)
           have HB1 := Lib.hid (hB.out.trans hB1)
           clear hbl hB1)
        | (go_at_call 50
           (with_reducible refine Calls.mono (bld_write w.heap.size w.heap.size (Lib.byteCells (l ++ [UInt8.ofNat d])) (d2 : Int) _ HBL.out (by have := HLN.out; rw [Lib.byteCells_length] at this ⊢; rw [List.length_append, List.length_singleton]; omega) HB1.out.size) ?_)
           rintro e w2 ⟨rfl, hbl, hB2⟩
           rw [bytes_snoc _ d2 HD2.out, ← HSS.out] at hbl
           have HBL2 := Lib.hid hbl
           have HB2 := Lib.hid (HB1.out.trans hB2)
           clear hbl hB2))
      go_roundw
      case rel => exact ⟨j + 1, by go_num, by omega, Lib.hid (.inr HBL2.out), HB2⟩
      case measure => simp [intOf]; omega
    · obtain rfl : j = k.size := by omega
      have HRES : Hid ((⟨(hexL (k.data.toList.take k.size)).toArray⟩ : ByteArray) = hexB k) := Lib.hid (by
        unfold hexB
        rw [List.take_of_length_le (by rw [Array.length_toList]; exact Nat.le_refl _)])
      go_wp2_with (go_at_call 34
                   refine Calls.mono (bld_string w.heap.size w.heap.size _ _ hI.out hB.out.size) ?_
                   rw [HRES.out]
                   rintro e w2 ⟨rfl, hB2⟩
                   have HB2 := Lib.hid (hB.out.trans hB2)
                   clear hB2)
      go_ret
      exact ⟨rfl, HB2.out⟩

theorem info_u8 : (Try.prog.info? 5).map (fun i => (i.zero, i.size, i.bytes)) = some (some (.int .u8 0), 1, 1) := by kernel_rfl
theorem ownb_drewN {w : World} {B n : Nat} {v : Value} {xs : List Value} (h : w.ownsRow B 5 1 v n xs) (m : Nat) : (w.drewN m).ownsRow B 5 1 v n xs := by
  unfold World.ownsRow at *
  rw [World.heap_drewN]
  exact h
/-- Bytes of the call's own, as a text. -/
theorem conv_own (w : World) (base : Nat) (v : Value) (l : List UInt8) (h0 : l ≠ []) (h : w.ownsRow base 5 1 v l.length (Lib.byteCells l)) :
    Sem.run Try.prog (convert 55 9 v) w = .ok (.string ⟨l.toArray⟩) w := by
  rcases h.2 with ⟨_, hn⟩ | ⟨g, cap, cur, rfl, _, hh, _, _, _, hx⟩
  · exfalso
    exact h0 (List.length_eq_zero_iff.1 hn)
  · refine run_convert_bytes_back (P := Try.prog) w 55 9 5 ⟨g, 0, none⟩ cap l Try.underlying55 Try.underlying5 Try.underlying9 fun j hj => ?_
    have ha : Addr.add ⟨g, 0, none⟩ j = ⟨g, j, none⟩ := by cases j <;> simp [Addr.add]
    rw [ha, cell_of_row w g j cur 5 (0, 0) hh]
    have h1 : (Lib.byteCells l)[j]? = some (.int .u8 (l[j].toNat : Nat)) := by unfold Lib.byteCells; rw [List.getElem?_map, List.getElem?_eq_getElem hj]; rfl
    rw [← hx, List.getElem?_take] at h1
    rw [Nat.mul_one, if_pos hj] at h1
    simpa using h1

set_option maxHeartbeats 1000000 in
theorem rhex_any (k : ByteArray) (w : World) (hk : k.size ≤ 100000) (hk0 : 0 < k.size) :
    Calls Try.prog 46 #[.string k] w fun e w' => e = .returned (.string (hexB k)) ∧ Below w.heap.size w w' := by
  obtain ⟨i0, hi, hz0, hz1, hz2⟩ := info_parts info_u8
  go_enter Try.func46, Try.ntmps46
  go_wp2_with fail
  go_loopw [4, 5] (fun v i wr => ∃ j : Nat, i = .int .i64 j ∧ j ≤ k.size ∧ Hid (wr.ownsRow w.heap.size 5 1 v (hexL (k.data.toList.take j)).length (Lib.byteCells (hexL (k.data.toList.take j)))) ∧ Hid (Below w.heap.size w wr)) (fun _ i _ => k.size + 1 - (intOf i).toNat)
  case atStart => exact ⟨0, rfl, Nat.zero_le _, Lib.hid (World.ownsRow_nil _ _ _ _), Lib.hid (Below.refl _ _)⟩
  case round =>
    obtain ⟨j, rfl, hj, hO, hB⟩ := hrel
    by_cases hlt : j < k.size
    · have j1 : (j : Int) < (k.size : Int) := by omega
      have j0 : (0 : Int) ≤ (j : Int) := by omega
      have hx0 : k[j].toNat < 256 := k[j].toNat_lt
      have HST := Lib.hid (take_byte k j hlt)
      obtain ⟨x, hx⟩ : ∃ x, x = k[j].toNat := ⟨_, rfl⟩
      have HLN := Lib.hid (show (hexL (k.data.toList.take j)).length ≤ 200000 by
        rw [hexL_len, List.length_take]; omega)
      have HSS : Hid (hexL (k.data.toList.take (j + 1)) = hexL (k.data.toList.take j) ++ [UInt8.ofNat (hexD (x / 16)), UInt8.ofNat (hexD (x % 16))]) := Lib.hid (by
        rw [HST.out, hexL_snoc, hx])
      rw [← hx] at hx0
      have hx' : k[j].toNat = x := hx.symm
      have i1 := fun W => ix_high hx0 W
      have i2 := fun W => ix_low (x := x) W
      obtain ⟨d, hd⟩ : ∃ d, d = hexD (x / 16) := ⟨_, rfl⟩
      obtain ⟨d2, hd2⟩ : ∃ d, d = hexD (x % 16) := ⟨_, rfl⟩
      have HD : Hid (d < 256) := Lib.hid (by rw [hd]; exact hexD_lt (by omega))
      have HD2 : Hid (d2 < 256) := Lib.hid (by rw [hd2]; exact hexD_lt (by omega))
      rw [← hd] at i1
      rw [← hd2] at i2
      have i3 := i1
      have i4 := i2
      rw [show (x : Int) / 16 = (x : Int).tdiv 16 from (Int.tdiv_eq_ediv_of_nonneg (by omega)).symm] at i3
      rw [show (x : Int) % 16 = (x : Int).tmod 16 from (Int.tmod_eq_emod_of_nonneg (by omega)).symm] at i4
      rw [← hd, ← hd2] at HSS
      have iw1 : IntKind.u8.wrap ((x : Int) / 16) = (x : Int) / 16 := by
        have : (0 : Int) ≤ (x : Int) / 16 ∧ (x : Int) / 16 < 256 := by omega
        simp [IntKind.wrap, IntKind.bits, IntKind.signed]
        omega
      have iw2 : IntKind.u8.wrap ((x : Int) % 16) = (x : Int) % 16 := by
        simp [IntKind.wrap, IntKind.bits, IntKind.signed]
        omega
      clear hx hd hd2
      obtain ⟨l, hl⟩ : ∃ l, l = hexL (k.data.toList.take j) := ⟨_, rfl⟩
      rw [← hl] at hO HLN HSS
      clear hl
      have HB0 : Hid (Below w.heap.size w wr.drew) := Lib.hid hB.out.drew
      go_wp2_with fail
      go_region_held3 (fun W => Hid (Below w.heap.size w W))
        (first
          | exact HB0
          | assumption
          | (apply Lib.hid; exact below_drewN (Hid.out ‹Hid (Below w.heap.size w _)›) _)
          | (apply Lib.hid; exact (Hid.out ‹Hid (Below w.heap.size w _)›).alloc (Hid.out ‹Hid (Below w.heap.size w _)›).size _))
        ((refine step_append_lies _ (by rfl) _ _ _ (by rfl) w.heap.size 5 i0 (.int .u8 0) 1 1 Try.underlying55 hi hz0 hz1 hz2 rfl (by decide) u4 l.length (Lib.byteCells l) (by rfl) (World.ownsRow.alloc (ownb_drewN hO.out _) _) ⟨wr.heap.size, 0, none⟩ 2 2 [.int .u8 (d : Int), .int .u8 (d2 : Int)] (by rfl) (by rfl) (fun j u hj => alloc_cells _ _ _ hj) (by simp [Value.oneCell']) (by decide) (by have := HLN.out; unfold maxLen; omega) (by have := HLN.out; omega) (by have := hB.out.size; simp; omega) (wr.heap.size + 1) (by simp) ?_; intro g cap w3 hown hgrow hat hglt; have HG : Hid (Below w.heap.size w w3) := Lib.hid (((below_drewN hB.out _).alloc hB.out.size _).grown hgrow (by have := hB.out.size; simp; omega) (fun q hq => (hO.out.lt q hq).1))))
      all_goals
        have HOW : Hid (w3.ownsRow w.heap.size 5 1 (.slice (some ⟨g, 0, none⟩) (l.length + 2) cap) (hexL (k.data.toList.take (j + 1))).length (Lib.byteCells (hexL (k.data.toList.take (j + 1))))) := Lib.hid (by
          have e1 : (hexL (k.data.toList.take (j + 1))).length = l.length + 2 := by rw [HSS.out, List.length_append]; rfl
          have e2 : Lib.byteCells (hexL (k.data.toList.take (j + 1))) = Lib.byteCells l ++ [.int .u8 (d : Int), .int .u8 (d2 : Int)] := by
            rw [HSS.out, show [UInt8.ofNat d, UInt8.ofNat d2] = [UInt8.ofNat d] ++ [UInt8.ofNat d2] from rfl, ← List.append_assoc, ← bytes_snoc _ d2 HD2.out, ← bytes_snoc _ d HD.out, List.append_assoc]
            rfl
          rw [e1, e2]
          exact hown)
        go_wp2_with fail
        go_roundw
        case rel => exact ⟨j + 1, by go_num, by omega, HOW, HG⟩
        case measure => simp [intOf]; omega
    · obtain rfl : j = k.size := by omega
      have e1 : hexL (k.data.toList.take k.size) = hexL k.data.toList := by
        rw [List.take_of_length_le (by rw [Array.length_toList]; exact Nat.le_refl _)]
      have hO' := hO.out
      rw [e1] at hO'
      have hcv := conv_own wr w.heap.size _ (hexL k.data.toList) (by
        intro e
        have := congrArg List.length e
        rw [hexL_len, Array.length_toList] at this
        have h2 : k.data.size = k.size := rfl
        simp at this
        omega) hO'
      clear hO' e1
      go_wp2_with fail
      go_ret
      exact ⟨rfl, hB.out⟩

end Go.Proofs.Ytjjenpklcbpkmaa
