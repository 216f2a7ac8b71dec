/-
  Awake: the chapter's two examples, walked.
-/
import Derived.Test.YtjmggbfhccdpkaaLNin
import Derived.Test.YtjmggbfhccdpkaaVTake
namespace Go.Proofs.Ytjmggbfhccdpkaa
open Go.RowKit Go.Shelf Go.Proofs.Mem Go.Maps
set_option linter.unusedVariables false

theorem again_form (w : World) (u : Nat) (blk : w.heap[u]? = some (.cells #[.string ⟨#[1]⟩, .slice none 0 0] 54 (0, 0))) :
    Calls Try.prog 31 #[.pointer (some ⟨u, 0, none⟩), .int .i64 8] w fun e w' => e = .returned (.int .i64 2) ∧ Below w.heap.size w w' := by
  obtain ⟨c0, c1, f1, hs⟩ : w.cell? ⟨u, 0, none⟩ = some (.string ⟨#[1]⟩) ∧ w.cell? ⟨u, 1, none⟩ = some (.slice none 0 0) ∧ (∀ o, w.frozen? ⟨u, o, none⟩ = false) ∧ w.shape? u = some (54, 2) := by
    refine ⟨?_, ?_, fun o => Lib.frozen_of_heap blk o, by simp [World.shape?, blk]⟩
    all_goals (rw [Lib.cell_of_heap blk]; rfl)
  have ht : takeB ⟨#[1]⟩ = (1, 1, 0) := by decide
  have HT : Hid (∀ W : World, Calls Try.prog 34 #[.string ⟨#[1]⟩] W fun e' w' => e' = .returned (.tuple #[.int .u64 1, .int .i64 1, .int .i64 0]) ∧ Below W.heap.size W w') := Lib.hid (fun W => by
    have := callsIn_wide.1 (vtake_in ⟨#[1]⟩ W (by decide))
    rw [ht] at this
    exact this)
  clear ht
  have hu : u < w.heap.size := by
    rcases Nat.lt_or_ge u w.heap.size with h | h
    · exact h
    · rw [World.shape?, Array.getElem?_eq_none h] at hs; cases hs
  go_enter Try.func31, Try.ntmps31
  go_wp2_with (go_at_call 34; refine Calls.mono (HT.out _) ?_; rintro e w1 ⟨rfl, hb1⟩; have e1 := (bcell hb1 u 1 hu).trans c1; have HB1 := Lib.hid hb1; clear hb1)
  go_ret
  exact ⟨rfl, HB1.out⟩

theorem part_form (w : World) (u : Nat) (s : ByteArray) (hs2 : s.size = 2) (hb : s[0]'(by omega) = 132) (he : s.extract 1 s.size = ⟨#[1]⟩) (blk : w.heap[u]? = some (.cells #[.string s, .slice none 0 0] 54 (0, 0))) :
    Calls Try.prog 22 #[.pointer (some ⟨u, 0, none⟩)] w fun e w' => e = .returned (.int .i64 2) ∧ Below u w w' := by
  obtain ⟨c0, c1, f1, hs⟩ : w.cell? ⟨u, 0, none⟩ = some (.string s) ∧ w.cell? ⟨u, 1, none⟩ = some (.slice none 0 0) ∧ (∀ o, w.frozen? ⟨u, o, none⟩ = false) ∧ w.shape? u = some (54, 2) := by
    refine ⟨?_, ?_, fun o => Lib.frozen_of_heap blk o, by simp [World.shape?, blk]⟩
    all_goals (rw [Lib.cell_of_heap blk]; rfl)
  have HA := again_form (w.setCell ⟨u, 0, none⟩ (.string (s.extract 1 2))) u (by
    refine (heap_setCell_same w u 0 _ _ _ blk).trans ?_
    rw [show s.extract 1 2 = ⟨#[1]⟩ by rw [← he, hs2]]
    rfl)
  have HA := Lib.hid HA
  have HB0 := Lib.hid ((Below.refl u w).setCell (p := ⟨u, 0, none⟩) (Nat.le_refl _) (.string (s.extract 1 2)))
  have hul : u ≤ (w.setCell ⟨u, 0, none⟩ (.string (s.extract 1 2))).heap.size := by
    rcases Nat.lt_or_ge u w.heap.size with h | h
    · exact Nat.le_trans (Nat.le_of_lt h) HB0.out.size
    · rw [Array.getElem?_eq_none h] at blk; cases blk
  clear blk
  have hpos : 0 < s.size := by omega
  have h1 : 1 ≤ s.size := by omega
  go_enter Try.func22, Try.ntmps22
  go_wp2_with (go_at_call 31; refine Calls.mono (HA.out) ?_; rintro e w1 ⟨rfl, hb1⟩; have HB1 := Lib.hid (HB0.out.trans (hb1.mono hul)); clear hb1)
  go_ret
  exact ⟨rfl, HB1.out⟩
theorem unpack_form (w : World) : Calls Try.prog 11 #[.string ⟨#[132, 1]⟩, .int .i64 100] w fun e w' => e = .returned (.tuple #[.string ⟨#[]⟩, .int .i64 2]) ∧ Below w.heap.size w w' := by
  have HP := Lib.hid (part_form (w.alloc (.cells #[.string ⟨#[132, 1]⟩, .slice none 0 0] 54)) w.heap.size ⟨#[132, 1]⟩ rfl rfl rfl (heap_alloc_new w _))
  have HB0 := Lib.hid ((Below.refl w.heap.size w).alloc (Nat.le_refl _) (.cells #[.string ⟨#[132, 1]⟩, .slice none 0 0] 54))
  go_enter Try.func11, Try.ntmps11
  go_wp2_with fail
  go_loopw [7] (fun _ wr => wr = w.alloc (.cells #[.string ⟨#[132, 1]⟩, .slice none 0 0] 54)) (fun _ _ => 0)
  case atStart => exact rfl
  case round =>
    subst hrel
    go_wp2_with (go_at_call 22; refine Calls.mono (HP.out) ?_; rintro e w1 ⟨rfl, hb1⟩; have HB1 := Lib.hid (HB0.out.trans hb1); clear hb1)
    go_ret2
    exact ⟨rfl, HB1.out⟩

theorem awake_any (w : World) : Calls Try.prog 6 #[] w fun e w' => e = .returned (.bool true) ∧ Below w.heap.size w w' := by
  have HU := Lib.hid (unpack_form w)
  have HN : Hid (∀ W : World, Calls Try.prog 7 #[.string ⟨#[97, 97, 97, 97, 97, 97, 97, 97, 97]⟩] W fun e w' => e = .returned (.string ⟨#[0, 97, 132, 1]⟩) ∧ Below W.heap.size W w') := Lib.hid (fun W => by
    have := pack_any ⟨#[97, 97, 97, 97, 97, 97, 97, 97, 97]⟩ W (by decide)
    rw [pack_nine] at this
    exact this)
  go_enter Try.func6, Try.ntmps6
  go_wp2_with (first
    | (go_at_call 11; refine Calls.mono HU.out ?_; rintro e w1 ⟨rfl, hb1⟩; have HB1 := Lib.hid hb1; clear hb1)
    | (go_at_call 7; refine Calls.mono (HN.out _) ?_; rintro e w2 ⟨rfl, hb2⟩; have HB2 := Lib.hid (bel HB1.out hb2); clear hb2))
  go_ret
  exact ⟨rfl, HB2.out⟩

end Go.Proofs.Ytjmggbfhccdpkaa
