/-
  An index's bytes looked at: how many slots, a key, a slot.
-/
import Derived.Test.YtjjenpklcbpkmaaIRWrt
namespace Go.Proofs.Ytjjenpklcbpkmaa
open Go.RowKit Go.Proofs.Mem
set_option linter.unusedVariables false

/-- The slot that stands at a place. -/
def slotAt (s : ByteArray) (i : Nat) : Slt := ⟨s.extract i (i + 32), (numAt s (i + 32) : Nat), (numAt s (i + 36) : Nat)⟩
def countV (s : ByteArray) : Nat := (s.size - 1032) / 40
def slotsN (s : ByteArray) (n : Nat) : List Slt := (List.range n).map fun i => slotAt s (1028 + i * 40)
def slotsOf (s : ByteArray) : List Slt := slotsN s (countV s)
theorem slotsN_len (s : ByteArray) (n : Nat) : (slotsN s n).length = n := by unfold slotsN; rw [List.length_map, List.length_range]
theorem slotsN_succ (s : ByteArray) (n : Nat) : slotsN s (n + 1) = slotsN s n ++ [slotAt s (1028 + n * 40)] := by
  unfold slotsN
  rw [List.range_succ, List.map_append]
  rfl
theorem count_at {s : ByteArray} {i : Nat} (h : 1032 ≤ s.size) (hi : i < countV s) : 1028 + i * 40 + 40 ≤ s.size - 4 := by
  unfold countV at hi
  omega

theorem vsize_any (s : ByteArray) (w : World) (h : 1032 ≤ s.size) (hs : s.size ≤ 9223372036854775807) :
    Calls Try.prog 38 #[.string s] w fun e w' => e = .returned (.int .i64 (countV s : Nat)) ∧ w' = w := by
  have hc : ((s.size : Int) - 1028 - 4) / 40 = (countV s : Nat) := by
    unfold countV
    omega
  have h1 : (1032 : Int) ≤ (s.size : Int) := by omega
  have HC := Lib.hid hc
  clear hc
  go_enter Try.func38, Try.ntmps38
  go_wp2_with fail
  go_ret
  exact ⟨by rw [← HC.out]; rfl, rfl⟩

theorem vkey_any (s : ByteArray) (i : Nat) (w : World) (h : 1028 + i * 40 + 32 ≤ s.size) (hs : s.size ≤ 1000000) :
    Calls Try.prog 39 #[.string s, .int .i64 i] w fun e w' => e = .returned (.string (s.extract (1028 + i * 40) (1028 + i * 40 + 32))) ∧ w' = w := by
  have h1 : (1028 : Int) + (i : Int) * 40 + 32 ≤ (s.size : Int) := by omega
  have hi : (i : Int) ≤ 100000 := by omega
  have hi2 : i ≤ 100000 := by omega
  go_enter Try.func39, Try.ntmps39
  go_wp2_with fail
  go_ret
  exact ⟨rfl, rfl⟩

set_option maxHeartbeats 1000000 in
theorem vslot_any (s : ByteArray) (i : Nat) (w : World) (h : 1028 + i * 40 + 40 ≤ s.size) (hs : s.size ≤ 1000000) :
    Calls Try.prog 40 #[.string s, .int .i64 i] w fun e w' => e = .returned (.agg #[.string (s.extract (1028 + i * 40) (1028 + i * 40 + 32)), .int .i64 (numAt s (1028 + i * 40 + 32) : Nat), .int .i64 (numAt s (1028 + i * 40 + 36) : Nat)]) ∧ Below w.heap.size w w' := by
  have hi : (i : Int) ≤ 100000 := by omega
  have hi2 : i ≤ 100000 := by omega
  have HK := Lib.hid (fun W => vkey_any s i W (by omega) hs)
  have HN1 := Lib.hid (fun W => number_any s (1028 + i * 40 + 32) W (by omega) (by omega))
  have HN2 := Lib.hid (fun W => number_any s (1028 + i * 40 + 36) W (by omega) (by omega))
  rw [show ((1028 + i * 40 + 32 : Nat) : Int) = 1028 + (i : Int) * 40 + 32 by omega] at HN1
  rw [show ((1028 + i * 40 + 36 : Nat) : Int) = 1028 + (i : Int) * 40 + 32 + 4 by omega] at HN2
  generalize numAt s (1028 + i * 40 + 32) = n1 at *
  generalize numAt s (1028 + i * 40 + 36) = n2 at *
  generalize s.extract (1028 + i * 40) (1028 + i * 40 + 32) = k at *
  have HB0 : Hid (Below w.heap.size w (w.alloc (.cells #[.string ⟨#[]⟩, .int .i64 0, .int .i64 0] 34))) := Lib.hid ((Below.refl _ _).alloc (Nat.le_refl _) _)
  have HX0 : Hid (BoxS (w.alloc (.cells #[.string ⟨#[]⟩, .int .i64 0, .int .i64 0] 34)) w.heap.size ⟨⟨#[]⟩, 0, 0⟩) := Lib.hid (heap_alloc_new w _)
  go_enter Try.func40, Try.ntmps40
  go_wp2_with (first
    | (go_at_call 39; refine Calls.mono (HK.out _) ?_; rintro e w1 ⟨rfl, rfl⟩)
    | (go_at_call 53
       have hq := HB2.out
       refine Calls.mono (HN2.out _) ?_
       rintro e w3 ⟨rfl, hB3⟩
       have HB3 := Lib.hid (bel HB2.out hB3)
       have HX3 : Hid (BoxS w3 w.heap.size ⟨⟨#[]⟩, 0, 0⟩) := Lib.hid ((hB3.block _ hl2).trans HX2.out)
       have hl3 : w.heap.size < w3.heap.size := Nat.lt_of_lt_of_le hl2 hB3.size
       obtain ⟨g0, g1, g2⟩ := HX3.out.cells
       have f0 := Lib.frozen_of_heap HX3.out 0
       have f1 := Lib.frozen_of_heap HX3.out 1
       have f2 := Lib.frozen_of_heap HX3.out 2
       clear hB3)
    | (go_at_call 53
       refine Calls.mono (HN1.out _) ?_
       rintro e w2 ⟨rfl, hB2⟩
       have HB2 := Lib.hid (bel HB0.out hB2)
       have HX2 : Hid (BoxS w2 w.heap.size ⟨⟨#[]⟩, 0, 0⟩) := Lib.hid ((hB2.block _ (by simp)).trans HX0.out)
       have hl2 : w.heap.size < w2.heap.size := Nat.lt_of_lt_of_le (by simp) hB2.size
       clear hB2))
  have hh : (((w3.setCell ⟨w.heap.size, 0, none⟩ (.string k)).setCell ⟨w.heap.size, 1, none⟩ (.int .i64 n1)).setCell ⟨w.heap.size, 2, none⟩ (.int .i64 n2)).heap[w.heap.size]? = some (.cells #[.string k, .int .i64 n1, .int .i64 n2] 34 (0, 0)) :=
    heap_setCell_same _ _ 2 _ _ _ (heap_setCell_same _ _ 1 _ _ _ (heap_setCell_same w3 w.heap.size 0 _ _ _ HX3.out))
  refine bodyPost_ret (results_cell_row (p := 4) (ty := 34) rfl _ _ w.heap.size _ _ (0, 0) _ rfl hh Try.underlying34 rfl (by kernel_rfl)) rfl ⟨rfl, ?_⟩
  exact ((HB3.out.setCell (p := ⟨w.heap.size, 0, none⟩) (Nat.le_refl _) _).setCell (p := ⟨w.heap.size, 1, none⟩) (Nat.le_refl _) _).setCell (p := ⟨w.heap.size, 2, none⟩) (Nat.le_refl _) _

end Go.Proofs.Ytjjenpklcbpkmaa
