/-
  A match taken.
-/
import Derived.Test.YtjmggbfhccdpkaaLUat
import Derived.Test.YtjmggbfhccdpkaaVTake
namespace Go.Proofs.Ytjmggbfhccdpkaa
open Go.RowKit Go.Shelf Go.Proofs.Mem
set_option linter.unusedVariables false

set_option maxRecDepth 100000 in
set_option maxHeartbeats 4000000 in
theorem uagain_any (w : World) (B u n f k : Nat) (s : ByteArray) (out m : List UInt8) (h : Up w B u s out) (ht : takeB s = (f, k, 0)) (hk : k ≤ s.size) (hn : n ≤ 131) (hf1 : 1 ≤ f) (hf : f ≤ out.length) (hm : m.length = n)
    (hc : ∀ j, j < n → (out ++ m)[out.length + j]? = (out ++ m)[out.length - f + j]?) (hlen : out.length ≤ 900000) (hBw : B ≤ w.heap.size) (hs : s.size ≤ 100000) :
    Calls Try.prog 31 #[.pointer (some ⟨u, 0, none⟩), .int .i64 (n : Nat)] w (UpQ w B u (s.extract k s.size) (out ++ m)) := by
  obtain ⟨i0, hi, hz0, hz1, hz2⟩ := info_parts Try.infoU
  obtain ⟨v, hP⟩ := h
  obtain ⟨A, c, rfl⟩ := own_len hP.vo
  obtain ⟨c0, c1, cf, csh⟩ := hP.cells
  have HP := Lib.hid hP
  have hBu : B ≤ u := hP.hB
  have hut := hP.lt
  have HT : Hid (∀ W : World, Calls Try.prog 34 #[.string s] W fun e' w' => e' = .returned (.tuple #[.int .u64 (f : Nat), .int .i64 (k : Nat), .int .i64 0]) ∧ Below W.heap.size W w') := Lib.hid (fun W => by
    have := callsIn_wide.1 (vtake_in s W (by omega))
    rw [ht] at this
    exact this)
  have HC := Lib.hid hc
  have HM := Lib.hid hm
  obtain ⟨L, hL⟩ : ∃ L, L = out.length := ⟨_, rfl⟩
  have HL := Lib.hid hL
  have hvo := hP.vo
  rw [← hL] at c1 hf hlen
  have f0 : ((f : Int) == 0) = false := by rw [beq_eq_false_iff_ne]; omega
  have fL : ¬ (L : Int) < (f : Int) := by omega
  have fLd : decide (L < f) = false := decide_eq_false (by omega)
  have fLi : decide ((L : Int) < (f : Int)) = false := decide_eq_false (by omega)
  have wL : IntKind.u64.wrap (L : Int) = (L : Int) := by rw [IntKind.wrap_u64]; omega
  have wf : IntKind.i64.wrap (f : Int) = (f : Int) := by rw [IntKind.wrap_i64]; omega
  have hk0 : (k : Int) ≤ (s.size : Int) := by omega
  obtain ⟨s2, hs2⟩ : ∃ x, x = s.extract k s.size := ⟨_, rfl⟩
  rw [← hs2]
  have hs2' := hs2.symm
  clear hP ht hc hm hL hs2 hvo
  rw [show out.length = L from HL.out.symm] at HC
  go_enter Try.func31, Try.ntmps31
  go_wp2_with (go_at_call 34; refine Calls.mono (HT.out _) ?_; rintro e w1 ⟨rfl, hb1⟩; have HP1 := Lib.hid (HP.out.below hb1); obtain ⟨e0, e1, ef, esh⟩ := HP1.out.cells; rw [← HL.out] at e1; have HB1 := Lib.hid (hb1.mono hBw); clear hb1)
  have HU2 : Hid (Up (w1.setCell ⟨u, 0, none⟩ (.string s2)) B u s2 (out ++ m.take 0)) := Lib.hid ⟨_, by rw [List.take_zero, List.append_nil]; exact HP1.out.setS s2⟩
  have HB2 : Hid (Below B w (w1.setCell ⟨u, 0, none⟩ (.string s2))) := Lib.hid (HB1.out.setCell (p := ⟨u, 0, none⟩) hBu _)
  go_loopw [9, 10, 59] (fun _ _ jv wr => ∃ j : Nat, jv = .int .i64 j ∧ j ≤ n ∧ Hid (Up wr B u s2 (out ++ m.take j)) ∧ Hid (Below B w wr)) (fun _ _ jv _ => n + 1 - (intOf jv).toNat)
  case atStart => exact ⟨0, rfl, Nat.zero_le _, HU2, HB2⟩
  case round =>
    obtain ⟨j, rfl, hj, HUj, HBj⟩ := hrel
    by_cases hlt : j < n
    case neg =>
      obtain rfl : j = n := by omega
      go_wp2_with fail
      go_ret
      have := HUj.out
      rw [List.take_of_length_le (by rw [HM.out]; exact Nat.le_refl _)] at this
      exact ⟨rfl, this, HBj.out⟩
    have l1 : (j : Int) < (n : Int) := by omega
    obtain ⟨v, hPj⟩ := HUj.out
    obtain ⟨o, ho⟩ : ∃ o, o = out ++ m.take j := ⟨_, rfl⟩
    have hol : o.length = L + j := by rw [ho, List.length_append, List.length_take, HM.out, ← HL.out, Nat.min_eq_left (by omega)]
    rw [← ho] at hPj
    obtain ⟨g, cap, rfl, hgB, hgl⟩ := hPj.vo.form (by omega)
    obtain ⟨y, hy8, hx⟩ : ∃ y : Nat, y < 256 ∧ m[j]? = some (UInt8.ofNat y) := ⟨(m[j]'(by rw [HM.out]; exact hlt)).toNat, UInt8.toNat_lt _, by rw [UInt8.ofNat_toNat]; exact List.getElem?_eq_getElem _⟩
    have hox : o[L - f + j]? = some (UInt8.ofNat y) := by
      have h1 := HC.out j hlt
      rw [List.getElem?_append_right (by rw [← HL.out]; omega), ← HL.out, show L + j - L = j by omega, hx] at h1
      rw [ho, h1]
      have hfj : L - f + j < (out ++ m.take j).length := by rw [← ho, hol]; omega
      have e : out ++ m = (out ++ m.take j) ++ m.drop j := by rw [List.append_assoc, List.take_append_drop]
      rw [e, List.getElem?_append_left hfj]
    have hcell : wr.cell? ⟨g, L - f + j, none⟩ = some (.int .u8 (y : Nat)) := by
      have := hPj.vo.cells (g := g) rfl (L - f + j) (.int .u8 (y : Nat)) (by unfold Lib.byteCells; rw [List.getElem?_map, hox, Option.map_some, UInt8.toNat_ofNat', Nat.mod_eq_of_lt (by omega)])
      rw [show (⟨g, 0, none⟩ : Addr).add (L - f + j) = ⟨g, L - f + j, none⟩ by simp [Addr.add]; exact fun h1 h2 => by omega] at this
      exact this
    obtain ⟨c0, c1, cf, csh⟩ := hPj.cells
    have htake : o ++ [UInt8.ofNat y] = out ++ m.take (j + 1) := by rw [ho, List.append_assoc, List.take_add_one, hx]; rfl
    have hvo := hPj.vo
    rw [hol] at c1 hvo
    have hnat : ((L : Int) - (f : Int) + (j : Int)).toNat = L - f + j := by omega
    have b0 : (0 : Int) ≤ (L : Int) - (f : Int) + (j : Int) := by omega
    have b1 : (L : Int) - (f : Int) + (j : Int) < (L : Int) + (j : Int) := by omega
    have wi : IntKind.i64.wrap ((L : Int) - (f : Int) + (j : Int)) = (L : Int) - (f : Int) + (j : Int) := by rw [IntKind.wrap_i64]; omega
    have HVO := Lib.hid hvo
    have HPa := Lib.hid (hPj.below ((Below.refl wr.heap.size wr).alloc (Nat.le_refl _) (.cells #[.int .u8 (y : Nat)] 5)))
    have HOL := Lib.hid hol
    have HTK := Lib.hid htake
    have hLj : L + j ≤ 900131 := by omega
    have hBr : B ≤ wr.heap.size := Nat.le_trans hBw HBj.out.size
    clear hvo hPj ho hol hx hox htake
    go_wp2_with (first
      | (at_builtin
         refine wpList_append_row _ rfl _ _ 26 rfl B 5 i0 (.int .u8 0) 1 Try.underlying26 hi hz0 hz1 hz2 rfl _ (L + j) (Lib.byteCells o) rfl (HVO.out.alloc _) (wr.heap.size + 1) (some ⟨wr.heap.size, 0, none⟩) 1 1 [.int .u8 (y : Nat)] rfl rfl (by exact Row.new wr #[.int .u8 (y : Nat)] 5) (by intro u hu; simp at hu; subst hu; rfl) (by unfold maxLen; omega) (by omega) (by simp; omega) ?_
         intro r' w2 hown hgrow hat
         rw [byteCells_snoc o y hy8] at hown
         have hg := HPa.out.growV (out' := o ++ [UInt8.ofNat y]) hgrow (by rw [List.length_append, HOL.out]; exact hown) (by simp; omega)
         have d1 : w2.cell? ⟨u, 1, none⟩ = some (.slice (some ⟨g, 0, none⟩) (L + j) cap) := by rw [Lib.cell_of_heap hg.1, ← HOL.out]; rfl
         have f2 := Lib.frozen_of_heap hg.1
         obtain ⟨A2, c2, rfl⟩ := own_len hown
         have HG := Lib.hid hg.2
         clear hown hgrow hat hg))
    go_roundw
    case rel => exact ⟨j + 1, by go_num, by omega, Lib.hid ⟨_, by rw [← HTK.out]; exact HG.out.1⟩, Lib.hid ((HBj.out.alloc hBr _).trans HG.out.2)⟩
    case measure => simp [intOf]; omega

end Go.Proofs.Ytjmggbfhccdpkaa
