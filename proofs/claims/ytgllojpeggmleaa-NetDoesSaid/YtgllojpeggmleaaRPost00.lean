/-
  THE WALKS OF siloref24.Post: side 0, place 0, each of the outside's choices.
-/
import Derived.Test.YtgllojpeggmleaaRSide
import Derived.RegionTactic
import Derived.ChangeAlike
import Derived.Deep.QuietTactic
import Derived.BigQuiet
namespace Go.Proofs.Ytgllojpeggmleaa
open Go.RowKit Go.Proofs.Mem
set_option linter.unusedVariables false

set_option maxHeartbeats 4000000 in
theorem rcore_00_l (D0 D1 : Value) (ss : List ByteArray) (ch raw : ByteArray) (l0 l1 l2 l3 l4 l5 l6 l7 fair : Int) (w : World) (hr : raw.size ≤ 65536) (hch : ch.size ≤ 9223372036854775807)
    (hS : Strs w w.heap.size D0 ss) (hO : ∃ A n c, D1 = .slice A n c) (hl : ss.length ≤ 1000) (hL0 : 0 ≤ l0) (hL1 : l0 ≤ 1000) (hf0 : 1 ≤ fair) (hf1 : fair ≤ 8) (h0 : 0 < ch.size) (hw : wayOf ch = 0) (hx : l0 < fair - 1) :
    Calls Try.prog 16 #[.agg #[D0, D1, .string ch, .int .i64 l0, .int .i64 l1, .int .i64 l2, .int .i64 l3, .int .i64 l4, .int .i64 l5, .int .i64 l6, .int .i64 l7, .int .i64 fair], .int .i64 0, .int .i64 0, .string raw] w (PostX w D0 (fun V => .agg #[V, D1, .string (restOf ch), .int .i64 (l0 + 1), .int .i64 l1, .int .i64 l2, .int .i64 l3, .int .i64 l4, .int .i64 l5, .int .i64 l6, .int .i64 l7, .int .i64 fair]) ss) := by
  have hS0 := Lib.hid hS
  obtain ⟨A, c, rfl, hc1, hc2, hrow⟩ := hS
  obtain ⟨AO, nO, cO, rfl⟩ := hO
  have HR := Lib.hid hrow
  clear hrow
  have hne := toList_pos ch h0
  have hw2 := way_mod ch h0
  rw [hw] at hw2
  have hrr := rest_cut ch h0
  rw [← hrr]
  clear hw hrr
  obtain ⟨i0, hi, hz0, hz1, hz2⟩ := info_parts info_str
  go_enter Try.func16, Try.ntmps16
  go_wp2_with (go_at_call 24; refine Calls.mono (side_any _ _) ?_; rintro e w' ⟨rfl, rfl⟩)
  rw [hw2]
  go_quiet (fail)
  go_wp2_with fail
  go_region
  go_wp2_with fail
  refine bodyPost_ret (by simp [results, Try.results16, go_sem]; try rfl) rfl ?_
  exact ⟨_, rfl, hS0.out.on (by go_grown; all_goals (refine below_drewN ?_ _; go_grown)), fun p _ h => h, by go_grown; all_goals (refine below_drewN ?_ _; go_grown)⟩

set_option maxHeartbeats 4000000 in
theorem rcore_00_0 (D0 D1 : Value) (ss : List ByteArray) (ch raw : ByteArray) (l0 l1 l2 l3 l4 l5 l6 l7 fair : Int) (w : World) (hr : raw.size ≤ 65536) (hch : ch.size ≤ 9223372036854775807)
    (hS : Strs w w.heap.size D0 ss) (hO : ∃ A n c, D1 = .slice A n c) (hl : ss.length ≤ 1000) (hL0 : 0 ≤ l0) (hL1 : l0 ≤ 1000) (hf0 : 1 ≤ fair) (hf1 : fair ≤ 8) (h0 : 0 < ch.size) (hw : wayOf ch = 0) (hx : ¬ l0 < fair - 1) :
    Calls Try.prog 16 #[.agg #[D0, D1, .string ch, .int .i64 l0, .int .i64 l1, .int .i64 l2, .int .i64 l3, .int .i64 l4, .int .i64 l5, .int .i64 l6, .int .i64 l7, .int .i64 fair], .int .i64 0, .int .i64 0, .string raw] w (PostX w D0 (fun V => .agg #[V, D1, .string (restOf ch), .int .i64 0, .int .i64 l1, .int .i64 l2, .int .i64 l3, .int .i64 l4, .int .i64 l5, .int .i64 l6, .int .i64 l7, .int .i64 fair]) (last60 (ss ++ [raw]))) := by
  have hS0 := Lib.hid hS
  obtain ⟨A, c, rfl, hc1, hc2, hrow⟩ := hS
  obtain ⟨AO, nO, cO, rfl⟩ := hO
  have HR := Lib.hid hrow
  clear hrow
  have hne := toList_pos ch h0
  have hw2 := way_mod ch h0
  rw [hw] at hw2
  have hrr := rest_cut ch h0
  rw [← hrr]
  clear hw hrr
  obtain ⟨i0, hi, hz0, hz1, hz2⟩ := info_parts info_str
  by_cases h60 : ss.length + 1 ≤ 60
  · have H60 := Lib.hid h60
    clear h60
    go_enter Try.func16, Try.ntmps16
    go_wp2_with (go_at_call 24; refine Calls.mono (side_any _ _) ?_; rintro e w' ⟨rfl, rfl⟩)
    rw [hw2]
    go_quiet (fail)
    go_wp2_with (first
      | (at_builtin
         refine wpList_append_row _ rfl (.tmp 75) (.tmp 79) 22 rfl (w.heap.size + 2) 9 i0 _ 16 Try.underlying22 hi hz0 hz1 hz2 rfl (.slice none 0 0) (0) ([]) rfl (World.ownsRow_nil _ _ _ _) w.heap.size A ss.length c (ss.map .string) rfl (by simp) (HR.out.below (by go_grown; all_goals (refine below_drewN ?_ _; go_grown))) (strs_oneCell _) (by unfold maxLen; omega) (by omega) (by simp) ?_
         intro v1 w1 hown1 hg1 hat1
         simp only [Nat.zero_add, List.nil_append] at hown1
         have hb1 := (Below.refl (w.heap.size + 2) _).grown hg1 (by simp) (fun k hk => by simp [Value.ownBlock] at hk)
         have HZ1 : Hid (w.heap.size + 2 ≤ w1.heap.size) := Lib.hid (by have := hb1.size; simp at this; omega)
         have HBW1 : Hid (Below w.heap.size w w1) := Lib.hid (Below.trans (by go_grown; all_goals (refine below_drewN ?_ _; go_grown)) (hb1.mono (by omega)))
         have K1 : Box12 w1 w.heap.size (.slice A ss.length c) (.slice AO nO cO) (.string (ch.extract 1 ch.size)) (.int .i64 0) (.int .i64 l1) (.int .i64 l2) (.int .i64 l3) (.int .i64 l4) (.int .i64 l5) (.int .i64 l6) (.int .i64 l7) (.int .i64 fair) := Box12.kept ⟨by go_simp, by go_simp, by go_simp, by go_simp, by go_simp, by go_simp, by go_simp, by go_simp, by go_simp, by go_simp, by go_simp, by go_simp, fun _ => by go_simp⟩ hb1 (by omega)
         have Z1 : Box12 w1 (w.heap.size + 1) (.slice none 0 0) (.slice none 0 0) (.string ⟨#[]⟩) (.int .i64 0) (.int .i64 0) (.int .i64 0) (.int .i64 0) (.int .i64 0) (.int .i64 0) (.int .i64 0) (.int .i64 0) (.int .i64 0) := Box12.kept ⟨by go_simp, by go_simp, by go_simp, by go_simp, by go_simp, by go_simp, by go_simp, by go_simp, by go_simp, by go_simp, by go_simp, by go_simp, fun _ => by go_simp⟩ hb1 (by omega)
         obtain ⟨k0, k1, k2, k3, k4, k5, k6, k7, k8, k9, k10, k11, f0⟩ := id K1
         obtain ⟨z0, z1, z2, z3, z4, z5, z6, z7, z8, z9, z10, z11, f1⟩ := id Z1
         obtain ⟨A1, m1, c1', rfl⟩ := own_slice hown1
         have Hown1 := Lib.hid hown1
         clear hown1 hg1 hat1 hb1)
      | (at_builtin
         refine wpList_append_lies _ rfl (.tmp 83) (.tmp 85) 22 rfl (w.heap.size + 2) 9 i0 _ 1 16 Try.underlying22 hi hz0 hz1 hz2 rfl (by omega) (.slice A1 m1 c1') (ss.length) (ss.map .string) rfl (Hown1.out.alloc _) ⟨w1.heap.size, 0, none⟩ 1 1 [.string raw] rfl rfl (World.news_of_block (cs := #[.string raw]) (t := 9) (fr := (0, 0)) (heap_new' (by simp))) (by simp [Value.oneCell']) (by omega) (by unfold maxLen; omega) (by omega) (by have := HZ1.out; simp; omega) _ rfl ?_
         intro g2 c2' w2 hown2 hg2 hat2 hlt2
         have hb2 : Below (w.heap.size + 2) w1 w2 := ((Below.refl (w.heap.size + 2) w1).alloc HZ1.out _).grown hg2 (by have := HZ1.out; simp; omega) (fun k hk => (Hown1.out.lt k hk).1)
         have HZ2 : Hid (w.heap.size + 2 ≤ w2.heap.size) := Lib.hid (Nat.le_trans HZ1.out hb2.size)
         have HBW2 : Hid (Below w.heap.size w w2) := Lib.hid (HBW1.out.trans (hb2.mono (by omega)))
         have K2 := K1.kept hb2 (show w.heap.size < w.heap.size + 2 by omega)
         have Z2 := Z1.kept hb2 (show w.heap.size + 1 < w.heap.size + 2 by omega)
         clear k0 k1 k2 k3 k4 k5 k6 k7 k8 k9 k10 k11 z0 z1 z2 z3 z4 z5 z6 z7 z8 z9 z10 z11 f0 f1
         obtain ⟨k0, k1, k2, k3, k4, k5, k6, k7, k8, k9, k10, k11, f0⟩ := id K2
         obtain ⟨z0, z1, z2, z3, z4, z5, z6, z7, z8, z9, z10, z11, f1⟩ := id Z2
         have Hown2 := Lib.hid hown2
         clear hown2 hg2 hat2 hb2 hlt2
         have hO : w2.ownsRow (w.heap.size + 2) 9 1 (.slice (some ⟨g2, 0, none⟩) (ss.length + 1) c2') (ss.length + 1) (((ss ++ [raw])).map .string) := (by have h := Hown2.out; simpa using h)
         obtain ⟨N, hN⟩ : ∃ N, N = ss.length + 1 := ⟨_, rfl⟩
         rw [← hN] at hO ⊢
         obtain ⟨g, cc, he, hNl, hca, hcb, hgb, hgl, hrw⟩ := own_block hO (by simp)
         injection he with e1 e2 e3
         injection e1 with e1
         injection e1 with e1
         subst e1 e3
         have HN := Lib.hid hNl
         have HRW := Lib.hid hrw
         have hN60 : N ≤ 60 := (by have := H60.out; omega)
         have HL := Lib.hid hN60
         have hN1 : 1 ≤ N := by omega
         have hN2 : N ≤ 1100 := by omega
         have hx : ¬ (60 : Int) < (N : Int) := by omega
         clear hO hNl hrw hN hN60 Hown2
         clear K1 Z1))
    refine bodyPost_ret (by simp [results, Try.results16, go_sem, z0, z1, z2, z3, z4, z5, z6, z7, z8, z9, z10, z11]; try rfl) rfl ?_
    have hB := HBW2.out
    have hZ := HZ2.out
    refine ⟨_, rfl, ?_, fun p hp h => by simp [Value.ownBlock] at h; omega, by go_grown⟩
    simp only [World.size_setCell]
    have hS1 := strs_all HN.out HL.out hca hcb HRW.out
    repeat refine strs_set ?_ (by simp; omega)
    exact hS1
  · have H60 := Lib.hid h60
    clear h60
    go_enter Try.func16, Try.ntmps16
    go_wp2_with (go_at_call 24; refine Calls.mono (side_any _ _) ?_; rintro e w' ⟨rfl, rfl⟩)
    rw [hw2]
    go_quiet (fail)
    go_wp2_with (first
      | (at_builtin
         refine wpList_append_row _ rfl (.tmp 75) (.tmp 79) 22 rfl (w.heap.size + 2) 9 i0 _ 16 Try.underlying22 hi hz0 hz1 hz2 rfl (.slice none 0 0) (0) ([]) rfl (World.ownsRow_nil _ _ _ _) w.heap.size A ss.length c (ss.map .string) rfl (by simp) (HR.out.below (by go_grown; all_goals (refine below_drewN ?_ _; go_grown))) (strs_oneCell _) (by unfold maxLen; omega) (by omega) (by simp) ?_
         intro v1 w1 hown1 hg1 hat1
         simp only [Nat.zero_add, List.nil_append] at hown1
         have hb1 := (Below.refl (w.heap.size + 2) _).grown hg1 (by simp) (fun k hk => by simp [Value.ownBlock] at hk)
         have HZ1 : Hid (w.heap.size + 2 ≤ w1.heap.size) := Lib.hid (by have := hb1.size; simp at this; omega)
         have HBW1 : Hid (Below w.heap.size w w1) := Lib.hid (Below.trans (by go_grown; all_goals (refine below_drewN ?_ _; go_grown)) (hb1.mono (by omega)))
         have K1 : Box12 w1 w.heap.size (.slice A ss.length c) (.slice AO nO cO) (.string (ch.extract 1 ch.size)) (.int .i64 0) (.int .i64 l1) (.int .i64 l2) (.int .i64 l3) (.int .i64 l4) (.int .i64 l5) (.int .i64 l6) (.int .i64 l7) (.int .i64 fair) := Box12.kept ⟨by go_simp, by go_simp, by go_simp, by go_simp, by go_simp, by go_simp, by go_simp, by go_simp, by go_simp, by go_simp, by go_simp, by go_simp, fun _ => by go_simp⟩ hb1 (by omega)
         have Z1 : Box12 w1 (w.heap.size + 1) (.slice none 0 0) (.slice none 0 0) (.string ⟨#[]⟩) (.int .i64 0) (.int .i64 0) (.int .i64 0) (.int .i64 0) (.int .i64 0) (.int .i64 0) (.int .i64 0) (.int .i64 0) (.int .i64 0) := Box12.kept ⟨by go_simp, by go_simp, by go_simp, by go_simp, by go_simp, by go_simp, by go_simp, by go_simp, by go_simp, by go_simp, by go_simp, by go_simp, fun _ => by go_simp⟩ hb1 (by omega)
         obtain ⟨k0, k1, k2, k3, k4, k5, k6, k7, k8, k9, k10, k11, f0⟩ := id K1
         obtain ⟨z0, z1, z2, z3, z4, z5, z6, z7, z8, z9, z10, z11, f1⟩ := id Z1
         obtain ⟨A1, m1, c1', rfl⟩ := own_slice hown1
         have Hown1 := Lib.hid hown1
         clear hown1 hg1 hat1 hb1)
      | (at_builtin
         refine wpList_append_lies _ rfl (.tmp 83) (.tmp 85) 22 rfl (w.heap.size + 2) 9 i0 _ 1 16 Try.underlying22 hi hz0 hz1 hz2 rfl (by omega) (.slice A1 m1 c1') (ss.length) (ss.map .string) rfl (Hown1.out.alloc _) ⟨w1.heap.size, 0, none⟩ 1 1 [.string raw] rfl rfl (World.news_of_block (cs := #[.string raw]) (t := 9) (fr := (0, 0)) (heap_new' (by simp))) (by simp [Value.oneCell']) (by omega) (by unfold maxLen; omega) (by omega) (by have := HZ1.out; simp; omega) _ rfl ?_
         intro g2 c2' w2 hown2 hg2 hat2 hlt2
         have hb2 : Below (w.heap.size + 2) w1 w2 := ((Below.refl (w.heap.size + 2) w1).alloc HZ1.out _).grown hg2 (by have := HZ1.out; simp; omega) (fun k hk => (Hown1.out.lt k hk).1)
         have HZ2 : Hid (w.heap.size + 2 ≤ w2.heap.size) := Lib.hid (Nat.le_trans HZ1.out hb2.size)
         have HBW2 : Hid (Below w.heap.size w w2) := Lib.hid (HBW1.out.trans (hb2.mono (by omega)))
         have K2 := K1.kept hb2 (show w.heap.size < w.heap.size + 2 by omega)
         have Z2 := Z1.kept hb2 (show w.heap.size + 1 < w.heap.size + 2 by omega)
         clear k0 k1 k2 k3 k4 k5 k6 k7 k8 k9 k10 k11 z0 z1 z2 z3 z4 z5 z6 z7 z8 z9 z10 z11 f0 f1
         obtain ⟨k0, k1, k2, k3, k4, k5, k6, k7, k8, k9, k10, k11, f0⟩ := id K2
         obtain ⟨z0, z1, z2, z3, z4, z5, z6, z7, z8, z9, z10, z11, f1⟩ := id Z2
         have Hown2 := Lib.hid hown2
         clear hown2 hg2 hat2 hb2 hlt2
         have hO : w2.ownsRow (w.heap.size + 2) 9 1 (.slice (some ⟨g2, 0, none⟩) (ss.length + 1) c2') (ss.length + 1) (((ss ++ [raw])).map .string) := (by have h := Hown2.out; simpa using h)
         obtain ⟨N, hN⟩ : ∃ N, N = ss.length + 1 := ⟨_, rfl⟩
         rw [← hN] at hO ⊢
         obtain ⟨g, cc, he, hNl, hca, hcb, hgb, hgl, hrw⟩ := own_block hO (by simp)
         injection he with e1 e2 e3
         injection e1 with e1
         injection e1 with e1
         subst e1 e3
         have HN := Lib.hid hNl
         have HRW := Lib.hid hrw
         have hN60 : ¬ N ≤ 60 := (by have := H60.out; omega)
         have HL := Lib.hid hN60
         have hN1 : 1 ≤ N := by omega
         have hN2 : N ≤ 1100 := by omega
         have hx : (60 : Int) < (N : Int) := by omega
         have hck : ¬ c2' = N - 60 := by omega
         clear hO hNl hrw hN hN60 Hown2
         clear K1 Z1))
    refine bodyPost_ret (by simp [results, Try.results16, go_sem, z0, z1, z2, z3, z4, z5, z6, z7, z8, z9, z10, z11]; try rfl) rfl ?_
    have hB := HBW2.out
    have hZ := HZ2.out
    refine ⟨_, rfl, ?_, fun p hp h => by simp [Value.ownBlock] at h; omega, by go_grown⟩
    simp only [World.size_setCell]
    have hS1 := strs_last HN.out HL.out hca hcb HRW.out
    simp only [Nat.zero_add] at hS1
    repeat refine strs_set ?_ (by simp; omega)
    exact hS1

set_option maxHeartbeats 4000000 in
theorem rcore_00_e (D0 D1 : Value) (ss : List ByteArray) (ch raw : ByteArray) (l0 l1 l2 l3 l4 l5 l6 l7 fair : Int) (w : World) (hr : raw.size ≤ 65536) (hch : ch.size ≤ 9223372036854775807)
    (hS : Strs w w.heap.size D0 ss) (hO : ∃ A n c, D1 = .slice A n c) (hl : ss.length ≤ 1000) (hL0 : 0 ≤ l0) (hL1 : l0 ≤ 1000) (hf0 : 1 ≤ fair) (hf1 : fair ≤ 8)   :
    Calls Try.prog 16 #[.agg #[D0, D1, .string ⟨#[]⟩, .int .i64 l0, .int .i64 l1, .int .i64 l2, .int .i64 l3, .int .i64 l4, .int .i64 l5, .int .i64 l6, .int .i64 l7, .int .i64 fair], .int .i64 0, .int .i64 0, .string raw] w (PostX w D0 (fun V => .agg #[V, D1, .string ⟨#[]⟩, .int .i64 0, .int .i64 l1, .int .i64 l2, .int .i64 l3, .int .i64 l4, .int .i64 l5, .int .i64 l6, .int .i64 l7, .int .i64 fair]) (last60 (ss ++ [raw]))) := by
  have hS0 := Lib.hid hS
  obtain ⟨A, c, rfl, hc1, hc2, hrow⟩ := hS
  obtain ⟨AO, nO, cO, rfl⟩ := hO
  have HR := Lib.hid hrow
  clear hrow
  obtain ⟨i0, hi, hz0, hz1, hz2⟩ := info_parts info_str
  by_cases h60 : ss.length + 1 ≤ 60
  · have H60 := Lib.hid h60
    clear h60
    go_enter Try.func16, Try.ntmps16
    go_wp2_with (go_at_call 24; refine Calls.mono (side_any _ _) ?_; rintro e w' ⟨rfl, rfl⟩)
    go_quiet (fail)
    go_wp2_with (first
      | (at_builtin
         refine wpList_append_row _ rfl (.tmp 75) (.tmp 79) 22 rfl (w.heap.size + 2) 9 i0 _ 16 Try.underlying22 hi hz0 hz1 hz2 rfl (.slice none 0 0) (0) ([]) rfl (World.ownsRow_nil _ _ _ _) w.heap.size A ss.length c (ss.map .string) rfl (by simp) (HR.out.below (by go_grown; all_goals (refine below_drewN ?_ _; go_grown))) (strs_oneCell _) (by unfold maxLen; omega) (by omega) (by simp) ?_
         intro v1 w1 hown1 hg1 hat1
         simp only [Nat.zero_add, List.nil_append] at hown1
         have hb1 := (Below.refl (w.heap.size + 2) _).grown hg1 (by simp) (fun k hk => by simp [Value.ownBlock] at hk)
         have HZ1 : Hid (w.heap.size + 2 ≤ w1.heap.size) := Lib.hid (by have := hb1.size; simp at this; omega)
         have HBW1 : Hid (Below w.heap.size w w1) := Lib.hid (Below.trans (by go_grown; all_goals (refine below_drewN ?_ _; go_grown)) (hb1.mono (by omega)))
         have K1 : Box12 w1 w.heap.size (.slice A ss.length c) (.slice AO nO cO) (.string ⟨#[]⟩) (.int .i64 0) (.int .i64 l1) (.int .i64 l2) (.int .i64 l3) (.int .i64 l4) (.int .i64 l5) (.int .i64 l6) (.int .i64 l7) (.int .i64 fair) := Box12.kept ⟨by go_simp, by go_simp, by go_simp, by go_simp, by go_simp, by go_simp, by go_simp, by go_simp, by go_simp, by go_simp, by go_simp, by go_simp, fun _ => by go_simp⟩ hb1 (by omega)
         have Z1 : Box12 w1 (w.heap.size + 1) (.slice none 0 0) (.slice none 0 0) (.string ⟨#[]⟩) (.int .i64 0) (.int .i64 0) (.int .i64 0) (.int .i64 0) (.int .i64 0) (.int .i64 0) (.int .i64 0) (.int .i64 0) (.int .i64 0) := Box12.kept ⟨by go_simp, by go_simp, by go_simp, by go_simp, by go_simp, by go_simp, by go_simp, by go_simp, by go_simp, by go_simp, by go_simp, by go_simp, fun _ => by go_simp⟩ hb1 (by omega)
         obtain ⟨k0, k1, k2, k3, k4, k5, k6, k7, k8, k9, k10, k11, f0⟩ := id K1
         obtain ⟨z0, z1, z2, z3, z4, z5, z6, z7, z8, z9, z10, z11, f1⟩ := id Z1
         obtain ⟨A1, m1, c1', rfl⟩ := own_slice hown1
         have Hown1 := Lib.hid hown1
         clear hown1 hg1 hat1 hb1)
      | (at_builtin
         refine wpList_append_lies _ rfl (.tmp 83) (.tmp 85) 22 rfl (w.heap.size + 2) 9 i0 _ 1 16 Try.underlying22 hi hz0 hz1 hz2 rfl (by omega) (.slice A1 m1 c1') (ss.length) (ss.map .string) rfl (Hown1.out.alloc _) ⟨w1.heap.size, 0, none⟩ 1 1 [.string raw] rfl rfl (World.news_of_block (cs := #[.string raw]) (t := 9) (fr := (0, 0)) (heap_new' (by simp))) (by simp [Value.oneCell']) (by omega) (by unfold maxLen; omega) (by omega) (by have := HZ1.out; simp; omega) _ rfl ?_
         intro g2 c2' w2 hown2 hg2 hat2 hlt2
         have hb2 : Below (w.heap.size + 2) w1 w2 := ((Below.refl (w.heap.size + 2) w1).alloc HZ1.out _).grown hg2 (by have := HZ1.out; simp; omega) (fun k hk => (Hown1.out.lt k hk).1)
         have HZ2 : Hid (w.heap.size + 2 ≤ w2.heap.size) := Lib.hid (Nat.le_trans HZ1.out hb2.size)
         have HBW2 : Hid (Below w.heap.size w w2) := Lib.hid (HBW1.out.trans (hb2.mono (by omega)))
         have K2 := K1.kept hb2 (show w.heap.size < w.heap.size + 2 by omega)
         have Z2 := Z1.kept hb2 (show w.heap.size + 1 < w.heap.size + 2 by omega)
         clear k0 k1 k2 k3 k4 k5 k6 k7 k8 k9 k10 k11 z0 z1 z2 z3 z4 z5 z6 z7 z8 z9 z10 z11 f0 f1
         obtain ⟨k0, k1, k2, k3, k4, k5, k6, k7, k8, k9, k10, k11, f0⟩ := id K2
         obtain ⟨z0, z1, z2, z3, z4, z5, z6, z7, z8, z9, z10, z11, f1⟩ := id Z2
         have Hown2 := Lib.hid hown2
         clear hown2 hg2 hat2 hb2 hlt2
         have hO : w2.ownsRow (w.heap.size + 2) 9 1 (.slice (some ⟨g2, 0, none⟩) (ss.length + 1) c2') (ss.length + 1) (((ss ++ [raw])).map .string) := (by have h := Hown2.out; simpa using h)
         obtain ⟨N, hN⟩ : ∃ N, N = ss.length + 1 := ⟨_, rfl⟩
         rw [← hN] at hO ⊢
         obtain ⟨g, cc, he, hNl, hca, hcb, hgb, hgl, hrw⟩ := own_block hO (by simp)
         injection he with e1 e2 e3
         injection e1 with e1
         injection e1 with e1
         subst e1 e3
         have HN := Lib.hid hNl
         have HRW := Lib.hid hrw
         have hN60 : N ≤ 60 := (by have := H60.out; omega)
         have HL := Lib.hid hN60
         have hN1 : 1 ≤ N := by omega
         have hN2 : N ≤ 1100 := by omega
         have hx : ¬ (60 : Int) < (N : Int) := by omega
         clear hO hNl hrw hN hN60 Hown2
         clear K1 Z1))
    refine bodyPost_ret (by simp [results, Try.results16, go_sem, z0, z1, z2, z3, z4, z5, z6, z7, z8, z9, z10, z11]; try rfl) rfl ?_
    have hB := HBW2.out
    have hZ := HZ2.out
    refine ⟨_, rfl, ?_, fun p hp h => by simp [Value.ownBlock] at h; omega, by go_grown⟩
    simp only [World.size_setCell]
    have hS1 := strs_all HN.out HL.out hca hcb HRW.out
    repeat refine strs_set ?_ (by simp; omega)
    exact hS1
  · have H60 := Lib.hid h60
    clear h60
    go_enter Try.func16, Try.ntmps16
    go_wp2_with (go_at_call 24; refine Calls.mono (side_any _ _) ?_; rintro e w' ⟨rfl, rfl⟩)
    go_quiet (fail)
    go_wp2_with (first
      | (at_builtin
         refine wpList_append_row _ rfl (.tmp 75) (.tmp 79) 22 rfl (w.heap.size + 2) 9 i0 _ 16 Try.underlying22 hi hz0 hz1 hz2 rfl (.slice none 0 0) (0) ([]) rfl (World.ownsRow_nil _ _ _ _) w.heap.size A ss.length c (ss.map .string) rfl (by simp) (HR.out.below (by go_grown; all_goals (refine below_drewN ?_ _; go_grown))) (strs_oneCell _) (by unfold maxLen; omega) (by omega) (by simp) ?_
         intro v1 w1 hown1 hg1 hat1
         simp only [Nat.zero_add, List.nil_append] at hown1
         have hb1 := (Below.refl (w.heap.size + 2) _).grown hg1 (by simp) (fun k hk => by simp [Value.ownBlock] at hk)
         have HZ1 : Hid (w.heap.size + 2 ≤ w1.heap.size) := Lib.hid (by have := hb1.size; simp at this; omega)
         have HBW1 : Hid (Below w.heap.size w w1) := Lib.hid (Below.trans (by go_grown; all_goals (refine below_drewN ?_ _; go_grown)) (hb1.mono (by omega)))
         have K1 : Box12 w1 w.heap.size (.slice A ss.length c) (.slice AO nO cO) (.string ⟨#[]⟩) (.int .i64 0) (.int .i64 l1) (.int .i64 l2) (.int .i64 l3) (.int .i64 l4) (.int .i64 l5) (.int .i64 l6) (.int .i64 l7) (.int .i64 fair) := Box12.kept ⟨by go_simp, by go_simp, by go_simp, by go_simp, by go_simp, by go_simp, by go_simp, by go_simp, by go_simp, by go_simp, by go_simp, by go_simp, fun _ => by go_simp⟩ hb1 (by omega)
         have Z1 : Box12 w1 (w.heap.size + 1) (.slice none 0 0) (.slice none 0 0) (.string ⟨#[]⟩) (.int .i64 0) (.int .i64 0) (.int .i64 0) (.int .i64 0) (.int .i64 0) (.int .i64 0) (.int .i64 0) (.int .i64 0) (.int .i64 0) := Box12.kept ⟨by go_simp, by go_simp, by go_simp, by go_simp, by go_simp, by go_simp, by go_simp, by go_simp, by go_simp, by go_simp, by go_simp, by go_simp, fun _ => by go_simp⟩ hb1 (by omega)
         obtain ⟨k0, k1, k2, k3, k4, k5, k6, k7, k8, k9, k10, k11, f0⟩ := id K1
         obtain ⟨z0, z1, z2, z3, z4, z5, z6, z7, z8, z9, z10, z11, f1⟩ := id Z1
         obtain ⟨A1, m1, c1', rfl⟩ := own_slice hown1
         have Hown1 := Lib.hid hown1
         clear hown1 hg1 hat1 hb1)
      | (at_builtin
         refine wpList_append_lies _ rfl (.tmp 83) (.tmp 85) 22 rfl (w.heap.size + 2) 9 i0 _ 1 16 Try.underlying22 hi hz0 hz1 hz2 rfl (by omega) (.slice A1 m1 c1') (ss.length) (ss.map .string) rfl (Hown1.out.alloc _) ⟨w1.heap.size, 0, none⟩ 1 1 [.string raw] rfl rfl (World.news_of_block (cs := #[.string raw]) (t := 9) (fr := (0, 0)) (heap_new' (by simp))) (by simp [Value.oneCell']) (by omega) (by unfold maxLen; omega) (by omega) (by have := HZ1.out; simp; omega) _ rfl ?_
         intro g2 c2' w2 hown2 hg2 hat2 hlt2
         have hb2 : Below (w.heap.size + 2) w1 w2 := ((Below.refl (w.heap.size + 2) w1).alloc HZ1.out _).grown hg2 (by have := HZ1.out; simp; omega) (fun k hk => (Hown1.out.lt k hk).1)
         have HZ2 : Hid (w.heap.size + 2 ≤ w2.heap.size) := Lib.hid (Nat.le_trans HZ1.out hb2.size)
         have HBW2 : Hid (Below w.heap.size w w2) := Lib.hid (HBW1.out.trans (hb2.mono (by omega)))
         have K2 := K1.kept hb2 (show w.heap.size < w.heap.size + 2 by omega)
         have Z2 := Z1.kept hb2 (show w.heap.size + 1 < w.heap.size + 2 by omega)
         clear k0 k1 k2 k3 k4 k5 k6 k7 k8 k9 k10 k11 z0 z1 z2 z3 z4 z5 z6 z7 z8 z9 z10 z11 f0 f1
         obtain ⟨k0, k1, k2, k3, k4, k5, k6, k7, k8, k9, k10, k11, f0⟩ := id K2
         obtain ⟨z0, z1, z2, z3, z4, z5, z6, z7, z8, z9, z10, z11, f1⟩ := id Z2
         have Hown2 := Lib.hid hown2
         clear hown2 hg2 hat2 hb2 hlt2
         have hO : w2.ownsRow (w.heap.size + 2) 9 1 (.slice (some ⟨g2, 0, none⟩) (ss.length + 1) c2') (ss.length + 1) (((ss ++ [raw])).map .string) := (by have h := Hown2.out; simpa using h)
         obtain ⟨N, hN⟩ : ∃ N, N = ss.length + 1 := ⟨_, rfl⟩
         rw [← hN] at hO ⊢
         obtain ⟨g, cc, he, hNl, hca, hcb, hgb, hgl, hrw⟩ := own_block hO (by simp)
         injection he with e1 e2 e3
         injection e1 with e1
         injection e1 with e1
         subst e1 e3
         have HN := Lib.hid hNl
         have HRW := Lib.hid hrw
         have hN60 : ¬ N ≤ 60 := (by have := H60.out; omega)
         have HL := Lib.hid hN60
         have hN1 : 1 ≤ N := by omega
         have hN2 : N ≤ 1100 := by omega
         have hx : (60 : Int) < (N : Int) := by omega
         have hck : ¬ c2' = N - 60 := by omega
         clear hO hNl hrw hN hN60 Hown2
         clear K1 Z1))
    refine bodyPost_ret (by simp [results, Try.results16, go_sem, z0, z1, z2, z3, z4, z5, z6, z7, z8, z9, z10, z11]; try rfl) rfl ?_
    have hB := HBW2.out
    have hZ := HZ2.out
    refine ⟨_, rfl, ?_, fun p hp h => by simp [Value.ownBlock] at h; omega, by go_grown⟩
    simp only [World.size_setCell]
    have hS1 := strs_last HN.out HL.out hca hcb HRW.out
    simp only [Nat.zero_add] at hS1
    repeat refine strs_set ?_ (by simp; omega)
    exact hS1

set_option maxHeartbeats 4000000 in
theorem rcore_00_1 (D0 D1 : Value) (ss : List ByteArray) (ch raw : ByteArray) (l0 l1 l2 l3 l4 l5 l6 l7 fair : Int) (w : World) (hr : raw.size ≤ 65536) (hch : ch.size ≤ 9223372036854775807)
    (hS : Strs w w.heap.size D0 ss) (hO : ∃ A n c, D1 = .slice A n c) (hl : ss.length ≤ 1000) (hL0 : 0 ≤ l0) (hL1 : l0 ≤ 1000) (hf0 : 1 ≤ fair) (hf1 : fair ≤ 8) (h0 : 0 < ch.size) (hw : wayOf ch = 1)  :
    Calls Try.prog 16 #[.agg #[D0, D1, .string ch, .int .i64 l0, .int .i64 l1, .int .i64 l2, .int .i64 l3, .int .i64 l4, .int .i64 l5, .int .i64 l6, .int .i64 l7, .int .i64 fair], .int .i64 0, .int .i64 0, .string raw] w (PostX w D0 (fun V => .agg #[V, D1, .string (restOf ch), .int .i64 0, .int .i64 l1, .int .i64 l2, .int .i64 l3, .int .i64 l4, .int .i64 l5, .int .i64 l6, .int .i64 l7, .int .i64 fair]) (last60 (ss ++ [raw]))) := by
  have hS0 := Lib.hid hS
  obtain ⟨A, c, rfl, hc1, hc2, hrow⟩ := hS
  obtain ⟨AO, nO, cO, rfl⟩ := hO
  have HR := Lib.hid hrow
  clear hrow
  have hne := toList_pos ch h0
  have hw2 := way_mod ch h0
  rw [hw] at hw2
  have hrr := rest_cut ch h0
  rw [← hrr]
  clear hw hrr
  obtain ⟨i0, hi, hz0, hz1, hz2⟩ := info_parts info_str
  by_cases h60 : ss.length + 1 ≤ 60
  · have H60 := Lib.hid h60
    clear h60
    go_enter Try.func16, Try.ntmps16
    go_wp2_with (go_at_call 24; refine Calls.mono (side_any _ _) ?_; rintro e w' ⟨rfl, rfl⟩)
    rw [hw2]
    go_quiet (fail)
    go_wp2_with (first
      | (at_builtin
         refine wpList_append_row _ rfl (.tmp 75) (.tmp 79) 22 rfl (w.heap.size + 2) 9 i0 _ 16 Try.underlying22 hi hz0 hz1 hz2 rfl (.slice none 0 0) (0) ([]) rfl (World.ownsRow_nil _ _ _ _) w.heap.size A ss.length c (ss.map .string) rfl (by simp) (HR.out.below (by go_grown; all_goals (refine below_drewN ?_ _; go_grown))) (strs_oneCell _) (by unfold maxLen; omega) (by omega) (by simp) ?_
         intro v1 w1 hown1 hg1 hat1
         simp only [Nat.zero_add, List.nil_append] at hown1
         have hb1 := (Below.refl (w.heap.size + 2) _).grown hg1 (by simp) (fun k hk => by simp [Value.ownBlock] at hk)
         have HZ1 : Hid (w.heap.size + 2 ≤ w1.heap.size) := Lib.hid (by have := hb1.size; simp at this; omega)
         have HBW1 : Hid (Below w.heap.size w w1) := Lib.hid (Below.trans (by go_grown; all_goals (refine below_drewN ?_ _; go_grown)) (hb1.mono (by omega)))
         have K1 : Box12 w1 w.heap.size (.slice A ss.length c) (.slice AO nO cO) (.string (ch.extract 1 ch.size)) (.int .i64 0) (.int .i64 l1) (.int .i64 l2) (.int .i64 l3) (.int .i64 l4) (.int .i64 l5) (.int .i64 l6) (.int .i64 l7) (.int .i64 fair) := Box12.kept ⟨by go_simp, by go_simp, by go_simp, by go_simp, by go_simp, by go_simp, by go_simp, by go_simp, by go_simp, by go_simp, by go_simp, by go_simp, fun _ => by go_simp⟩ hb1 (by omega)
         have Z1 : Box12 w1 (w.heap.size + 1) (.slice none 0 0) (.slice none 0 0) (.string ⟨#[]⟩) (.int .i64 0) (.int .i64 0) (.int .i64 0) (.int .i64 0) (.int .i64 0) (.int .i64 0) (.int .i64 0) (.int .i64 0) (.int .i64 0) := Box12.kept ⟨by go_simp, by go_simp, by go_simp, by go_simp, by go_simp, by go_simp, by go_simp, by go_simp, by go_simp, by go_simp, by go_simp, by go_simp, fun _ => by go_simp⟩ hb1 (by omega)
         obtain ⟨k0, k1, k2, k3, k4, k5, k6, k7, k8, k9, k10, k11, f0⟩ := id K1
         obtain ⟨z0, z1, z2, z3, z4, z5, z6, z7, z8, z9, z10, z11, f1⟩ := id Z1
         obtain ⟨A1, m1, c1', rfl⟩ := own_slice hown1
         have Hown1 := Lib.hid hown1
         clear hown1 hg1 hat1 hb1)
      | (at_builtin
         refine wpList_append_lies _ rfl (.tmp 83) (.tmp 85) 22 rfl (w.heap.size + 2) 9 i0 _ 1 16 Try.underlying22 hi hz0 hz1 hz2 rfl (by omega) (.slice A1 m1 c1') (ss.length) (ss.map .string) rfl (Hown1.out.alloc _) ⟨w1.heap.size, 0, none⟩ 1 1 [.string raw] rfl rfl (World.news_of_block (cs := #[.string raw]) (t := 9) (fr := (0, 0)) (heap_new' (by simp))) (by simp [Value.oneCell']) (by omega) (by unfold maxLen; omega) (by omega) (by have := HZ1.out; simp; omega) _ rfl ?_
         intro g2 c2' w2 hown2 hg2 hat2 hlt2
         have hb2 : Below (w.heap.size + 2) w1 w2 := ((Below.refl (w.heap.size + 2) w1).alloc HZ1.out _).grown hg2 (by have := HZ1.out; simp; omega) (fun k hk => (Hown1.out.lt k hk).1)
         have HZ2 : Hid (w.heap.size + 2 ≤ w2.heap.size) := Lib.hid (Nat.le_trans HZ1.out hb2.size)
         have HBW2 : Hid (Below w.heap.size w w2) := Lib.hid (HBW1.out.trans (hb2.mono (by omega)))
         have K2 := K1.kept hb2 (show w.heap.size < w.heap.size + 2 by omega)
         have Z2 := Z1.kept hb2 (show w.heap.size + 1 < w.heap.size + 2 by omega)
         clear k0 k1 k2 k3 k4 k5 k6 k7 k8 k9 k10 k11 z0 z1 z2 z3 z4 z5 z6 z7 z8 z9 z10 z11 f0 f1
         obtain ⟨k0, k1, k2, k3, k4, k5, k6, k7, k8, k9, k10, k11, f0⟩ := id K2
         obtain ⟨z0, z1, z2, z3, z4, z5, z6, z7, z8, z9, z10, z11, f1⟩ := id Z2
         have Hown2 := Lib.hid hown2
         clear hown2 hg2 hat2 hb2 hlt2
         have hO : w2.ownsRow (w.heap.size + 2) 9 1 (.slice (some ⟨g2, 0, none⟩) (ss.length + 1) c2') (ss.length + 1) (((ss ++ [raw])).map .string) := (by have h := Hown2.out; simpa using h)
         obtain ⟨N, hN⟩ : ∃ N, N = ss.length + 1 := ⟨_, rfl⟩
         rw [← hN] at hO ⊢
         obtain ⟨g, cc, he, hNl, hca, hcb, hgb, hgl, hrw⟩ := own_block hO (by simp)
         injection he with e1 e2 e3
         injection e1 with e1
         injection e1 with e1
         subst e1 e3
         have HN := Lib.hid hNl
         have HRW := Lib.hid hrw
         have hN60 : N ≤ 60 := (by have := H60.out; omega)
         have HL := Lib.hid hN60
         have hN1 : 1 ≤ N := by omega
         have hN2 : N ≤ 1100 := by omega
         have hx : ¬ (60 : Int) < (N : Int) := by omega
         clear hO hNl hrw hN hN60 Hown2
         clear K1 Z1))
    refine bodyPost_ret (by simp [results, Try.results16, go_sem, z0, z1, z2, z3, z4, z5, z6, z7, z8, z9, z10, z11]; try rfl) rfl ?_
    have hB := HBW2.out
    have hZ := HZ2.out
    refine ⟨_, rfl, ?_, fun p hp h => by simp [Value.ownBlock] at h; omega, by go_grown⟩
    simp only [World.size_setCell]
    have hS1 := strs_all HN.out HL.out hca hcb HRW.out
    repeat refine strs_set ?_ (by simp; omega)
    exact hS1
  · have H60 := Lib.hid h60
    clear h60
    go_enter Try.func16, Try.ntmps16
    go_wp2_with (go_at_call 24; refine Calls.mono (side_any _ _) ?_; rintro e w' ⟨rfl, rfl⟩)
    rw [hw2]
    go_quiet (fail)
    go_wp2_with (first
      | (at_builtin
         refine wpList_append_row _ rfl (.tmp 75) (.tmp 79) 22 rfl (w.heap.size + 2) 9 i0 _ 16 Try.underlying22 hi hz0 hz1 hz2 rfl (.slice none 0 0) (0) ([]) rfl (World.ownsRow_nil _ _ _ _) w.heap.size A ss.length c (ss.map .string) rfl (by simp) (HR.out.below (by go_grown; all_goals (refine below_drewN ?_ _; go_grown))) (strs_oneCell _) (by unfold maxLen; omega) (by omega) (by simp) ?_
         intro v1 w1 hown1 hg1 hat1
         simp only [Nat.zero_add, List.nil_append] at hown1
         have hb1 := (Below.refl (w.heap.size + 2) _).grown hg1 (by simp) (fun k hk => by simp [Value.ownBlock] at hk)
         have HZ1 : Hid (w.heap.size + 2 ≤ w1.heap.size) := Lib.hid (by have := hb1.size; simp at this; omega)
         have HBW1 : Hid (Below w.heap.size w w1) := Lib.hid (Below.trans (by go_grown; all_goals (refine below_drewN ?_ _; go_grown)) (hb1.mono (by omega)))
         have K1 : Box12 w1 w.heap.size (.slice A ss.length c) (.slice AO nO cO) (.string (ch.extract 1 ch.size)) (.int .i64 0) (.int .i64 l1) (.int .i64 l2) (.int .i64 l3) (.int .i64 l4) (.int .i64 l5) (.int .i64 l6) (.int .i64 l7) (.int .i64 fair) := Box12.kept ⟨by go_simp, by go_simp, by go_simp, by go_simp, by go_simp, by go_simp, by go_simp, by go_simp, by go_simp, by go_simp, by go_simp, by go_simp, fun _ => by go_simp⟩ hb1 (by omega)
         have Z1 : Box12 w1 (w.heap.size + 1) (.slice none 0 0) (.slice none 0 0) (.string ⟨#[]⟩) (.int .i64 0) (.int .i64 0) (.int .i64 0) (.int .i64 0) (.int .i64 0) (.int .i64 0) (.int .i64 0) (.int .i64 0) (.int .i64 0) := Box12.kept ⟨by go_simp, by go_simp, by go_simp, by go_simp, by go_simp, by go_simp, by go_simp, by go_simp, by go_simp, by go_simp, by go_simp, by go_simp, fun _ => by go_simp⟩ hb1 (by omega)
         obtain ⟨k0, k1, k2, k3, k4, k5, k6, k7, k8, k9, k10, k11, f0⟩ := id K1
         obtain ⟨z0, z1, z2, z3, z4, z5, z6, z7, z8, z9, z10, z11, f1⟩ := id Z1
         obtain ⟨A1, m1, c1', rfl⟩ := own_slice hown1
         have Hown1 := Lib.hid hown1
         clear hown1 hg1 hat1 hb1)
      | (at_builtin
         refine wpList_append_lies _ rfl (.tmp 83) (.tmp 85) 22 rfl (w.heap.size + 2) 9 i0 _ 1 16 Try.underlying22 hi hz0 hz1 hz2 rfl (by omega) (.slice A1 m1 c1') (ss.length) (ss.map .string) rfl (Hown1.out.alloc _) ⟨w1.heap.size, 0, none⟩ 1 1 [.string raw] rfl rfl (World.news_of_block (cs := #[.string raw]) (t := 9) (fr := (0, 0)) (heap_new' (by simp))) (by simp [Value.oneCell']) (by omega) (by unfold maxLen; omega) (by omega) (by have := HZ1.out; simp; omega) _ rfl ?_
         intro g2 c2' w2 hown2 hg2 hat2 hlt2
         have hb2 : Below (w.heap.size + 2) w1 w2 := ((Below.refl (w.heap.size + 2) w1).alloc HZ1.out _).grown hg2 (by have := HZ1.out; simp; omega) (fun k hk => (Hown1.out.lt k hk).1)
         have HZ2 : Hid (w.heap.size + 2 ≤ w2.heap.size) := Lib.hid (Nat.le_trans HZ1.out hb2.size)
         have HBW2 : Hid (Below w.heap.size w w2) := Lib.hid (HBW1.out.trans (hb2.mono (by omega)))
         have K2 := K1.kept hb2 (show w.heap.size < w.heap.size + 2 by omega)
         have Z2 := Z1.kept hb2 (show w.heap.size + 1 < w.heap.size + 2 by omega)
         clear k0 k1 k2 k3 k4 k5 k6 k7 k8 k9 k10 k11 z0 z1 z2 z3 z4 z5 z6 z7 z8 z9 z10 z11 f0 f1
         obtain ⟨k0, k1, k2, k3, k4, k5, k6, k7, k8, k9, k10, k11, f0⟩ := id K2
         obtain ⟨z0, z1, z2, z3, z4, z5, z6, z7, z8, z9, z10, z11, f1⟩ := id Z2
         have Hown2 := Lib.hid hown2
         clear hown2 hg2 hat2 hb2 hlt2
         have hO : w2.ownsRow (w.heap.size + 2) 9 1 (.slice (some ⟨g2, 0, none⟩) (ss.length + 1) c2') (ss.length + 1) (((ss ++ [raw])).map .string) := (by have h := Hown2.out; simpa using h)
         obtain ⟨N, hN⟩ : ∃ N, N = ss.length + 1 := ⟨_, rfl⟩
         rw [← hN] at hO ⊢
         obtain ⟨g, cc, he, hNl, hca, hcb, hgb, hgl, hrw⟩ := own_block hO (by simp)
         injection he with e1 e2 e3
         injection e1 with e1
         injection e1 with e1
         subst e1 e3
         have HN := Lib.hid hNl
         have HRW := Lib.hid hrw
         have hN60 : ¬ N ≤ 60 := (by have := H60.out; omega)
         have HL := Lib.hid hN60
         have hN1 : 1 ≤ N := by omega
         have hN2 : N ≤ 1100 := by omega
         have hx : (60 : Int) < (N : Int) := by omega
         have hck : ¬ c2' = N - 60 := by omega
         clear hO hNl hrw hN hN60 Hown2
         clear K1 Z1))
    refine bodyPost_ret (by simp [results, Try.results16, go_sem, z0, z1, z2, z3, z4, z5, z6, z7, z8, z9, z10, z11]; try rfl) rfl ?_
    have hB := HBW2.out
    have hZ := HZ2.out
    refine ⟨_, rfl, ?_, fun p hp h => by simp [Value.ownBlock] at h; omega, by go_grown⟩
    simp only [World.size_setCell]
    have hS1 := strs_last HN.out HL.out hca hcb HRW.out
    simp only [Nat.zero_add] at hS1
    repeat refine strs_set ?_ (by simp; omega)
    exact hS1

set_option maxHeartbeats 4000000 in
theorem rcore_00_2 (D0 D1 : Value) (ss : List ByteArray) (ch raw : ByteArray) (l0 l1 l2 l3 l4 l5 l6 l7 fair : Int) (w : World) (hr : raw.size ≤ 65536) (hch : ch.size ≤ 9223372036854775807)
    (hS : Strs w w.heap.size D0 ss) (hO : ∃ A n c, D1 = .slice A n c) (hl : ss.length ≤ 1000) (hL0 : 0 ≤ l0) (hL1 : l0 ≤ 1000) (hf0 : 1 ≤ fair) (hf1 : fair ≤ 8) (h0 : 0 < ch.size) (hw : wayOf ch = 2)  :
    Calls Try.prog 16 #[.agg #[D0, D1, .string ch, .int .i64 l0, .int .i64 l1, .int .i64 l2, .int .i64 l3, .int .i64 l4, .int .i64 l5, .int .i64 l6, .int .i64 l7, .int .i64 fair], .int .i64 0, .int .i64 0, .string raw] w (PostX w D0 (fun V => .agg #[V, D1, .string (restOf ch), .int .i64 0, .int .i64 l1, .int .i64 l2, .int .i64 l3, .int .i64 l4, .int .i64 l5, .int .i64 l6, .int .i64 l7, .int .i64 fair]) (last60 ([raw] ++ ss))) := by
  have hS0 := Lib.hid hS
  obtain ⟨A, c, rfl, hc1, hc2, hrow⟩ := hS
  obtain ⟨AO, nO, cO, rfl⟩ := hO
  have HR := Lib.hid hrow
  clear hrow
  have hne := toList_pos ch h0
  have hw2 := way_mod ch h0
  rw [hw] at hw2
  have hrr := rest_cut ch h0
  rw [← hrr]
  clear hw hrr
  obtain ⟨i0, hi, hz0, hz1, hz2⟩ := info_parts info_str
  by_cases h60 : ss.length + 1 ≤ 60
  · have H60 := Lib.hid h60
    clear h60
    go_enter Try.func16, Try.ntmps16
    go_wp2_with (go_at_call 24; refine Calls.mono (side_any _ _) ?_; rintro e w' ⟨rfl, rfl⟩)
    rw [hw2]
    go_quiet (fail)
    go_wp2_with (first
      | (at_builtin
         refine wpList_append_lies _ rfl (.tmp 71) (.tmp 73) 22 rfl (w.heap.size + 2) 9 i0 _ 1 16 Try.underlying22 hi hz0 hz1 hz2 rfl (by omega) (.slice none 0 0) (0) ([]) rfl (World.ownsRow_nil _ _ _ _) ⟨(w.heap.size + 2), 0, none⟩ 1 1 [.string raw] rfl rfl (World.news_of_block (cs := #[.string raw]) (t := 9) (fr := (0, 0)) (heap_new' (by simp))) (by simp [Value.oneCell']) (by omega) (by unfold maxLen; omega) (by omega) (by simp) _ rfl ?_
         intro g1 c1' w1 hown1 hg1 hat1 hlt1
         have hb1 := (Below.refl (w.heap.size + 2) _).grown hg1 (by simp) (fun k hk => by simp [Value.ownBlock] at hk)
         have HZ1 : Hid (w.heap.size + 2 ≤ w1.heap.size) := Lib.hid (by have := hb1.size; simp at this; omega)
         have HBW1 : Hid (Below w.heap.size w w1) := Lib.hid (Below.trans (by go_grown; all_goals (refine below_drewN ?_ _; go_grown)) (hb1.mono (by omega)))
         have K1 : Box12 w1 w.heap.size (.slice A ss.length c) (.slice AO nO cO) (.string (ch.extract 1 ch.size)) (.int .i64 0) (.int .i64 l1) (.int .i64 l2) (.int .i64 l3) (.int .i64 l4) (.int .i64 l5) (.int .i64 l6) (.int .i64 l7) (.int .i64 fair) := Box12.kept ⟨by go_simp, by go_simp, by go_simp, by go_simp, by go_simp, by go_simp, by go_simp, by go_simp, by go_simp, by go_simp, by go_simp, by go_simp, fun _ => by go_simp⟩ hb1 (by omega)
         have Z1 : Box12 w1 (w.heap.size + 1) (.slice none 0 0) (.slice none 0 0) (.string ⟨#[]⟩) (.int .i64 0) (.int .i64 0) (.int .i64 0) (.int .i64 0) (.int .i64 0) (.int .i64 0) (.int .i64 0) (.int .i64 0) (.int .i64 0) := Box12.kept ⟨by go_simp, by go_simp, by go_simp, by go_simp, by go_simp, by go_simp, by go_simp, by go_simp, by go_simp, by go_simp, by go_simp, by go_simp, fun _ => by go_simp⟩ hb1 (by omega)
         obtain ⟨k0, k1, k2, k3, k4, k5, k6, k7, k8, k9, k10, k11, f0⟩ := id K1
         obtain ⟨z0, z1, z2, z3, z4, z5, z6, z7, z8, z9, z10, z11, f1⟩ := id Z1
         have Hown1 := Lib.hid hown1
         clear hown1 hg1 hat1 hb1 hlt1)
      | (at_builtin
         refine wpList_append_row _ rfl (.tmp 75) (.tmp 79) 22 rfl (w.heap.size + 2) 9 i0 _ 16 Try.underlying22 hi hz0 hz1 hz2 rfl (.slice (some ⟨g1, 0, none⟩) (0 + 1) c1') (0 + 1) ([] ++ [.string raw]) rfl Hown1.out w.heap.size A ss.length c (ss.map .string) rfl (by simp) (HR.out.below (by first | exact HBW1.out | exact HBW1.out.alloc (by have := HBW1.out.size; omega) _)) (strs_oneCell _) (by unfold maxLen; omega) (by omega) (by exact HZ1.out) ?_
         intro v2 w2 hown2 hg2 hat2
         have hb2 : Below (w.heap.size + 2) w1 w2 := (Below.refl (w.heap.size + 2) w1).grown hg2 HZ1.out (fun k hk => (Hown1.out.lt k hk).1)
         have HZ2 : Hid (w.heap.size + 2 ≤ w2.heap.size) := Lib.hid (Nat.le_trans HZ1.out hb2.size)
         have HBW2 : Hid (Below w.heap.size w w2) := Lib.hid (HBW1.out.trans (hb2.mono (by omega)))
         have K2 := K1.kept hb2 (show w.heap.size < w.heap.size + 2 by omega)
         have Z2 := Z1.kept hb2 (show w.heap.size + 1 < w.heap.size + 2 by omega)
         clear k0 k1 k2 k3 k4 k5 k6 k7 k8 k9 k10 k11 z0 z1 z2 z3 z4 z5 z6 z7 z8 z9 z10 z11 f0 f1
         obtain ⟨k0, k1, k2, k3, k4, k5, k6, k7, k8, k9, k10, k11, f0⟩ := id K2
         obtain ⟨z0, z1, z2, z3, z4, z5, z6, z7, z8, z9, z10, z11, f1⟩ := id Z2
         obtain ⟨A2, m2, c2', rfl⟩ := own_slice hown2
         have Hown2 := Lib.hid hown2
         clear hown2 hg2 hat2 hb2
         have hO : w2.ownsRow (w.heap.size + 2) 9 1 (.slice A2 m2 c2') (0 + 1 + ss.length) ((([raw] ++ ss)).map .string) := (by have h := Hown2.out; simpa using h)
         obtain ⟨N, hN⟩ : ∃ N, N = 0 + 1 + ss.length := ⟨_, rfl⟩
         rw [← hN] at hO
         obtain ⟨g, cc, he, hNl, hca, hcb, hgb, hgl, hrw⟩ := own_block hO (by simp)
         rw [he]
         have HN := Lib.hid hNl
         have HRW := Lib.hid hrw
         have hN60 : N ≤ 60 := (by have := H60.out; omega)
         have HL := Lib.hid hN60
         have hN1 : 1 ≤ N := by omega
         have hN2 : N ≤ 1100 := by omega
         have hx : ¬ (60 : Int) < (N : Int) := by omega
         clear hO hNl hrw hN he hN60 Hown2
         clear K1 Z1))
    refine bodyPost_ret (by simp [results, Try.results16, go_sem, z0, z1, z2, z3, z4, z5, z6, z7, z8, z9, z10, z11]; try rfl) rfl ?_
    have hB := HBW2.out
    have hZ := HZ2.out
    refine ⟨_, rfl, ?_, fun p hp h => by simp [Value.ownBlock] at h; omega, by go_grown⟩
    simp only [World.size_setCell]
    have hS1 := strs_all HN.out HL.out hca hcb HRW.out
    repeat refine strs_set ?_ (by simp; omega)
    exact hS1
  · have H60 := Lib.hid h60
    clear h60
    go_enter Try.func16, Try.ntmps16
    go_wp2_with (go_at_call 24; refine Calls.mono (side_any _ _) ?_; rintro e w' ⟨rfl, rfl⟩)
    rw [hw2]
    go_quiet (fail)
    go_wp2_with (first
      | (at_builtin
         refine wpList_append_lies _ rfl (.tmp 71) (.tmp 73) 22 rfl (w.heap.size + 2) 9 i0 _ 1 16 Try.underlying22 hi hz0 hz1 hz2 rfl (by omega) (.slice none 0 0) (0) ([]) rfl (World.ownsRow_nil _ _ _ _) ⟨(w.heap.size + 2), 0, none⟩ 1 1 [.string raw] rfl rfl (World.news_of_block (cs := #[.string raw]) (t := 9) (fr := (0, 0)) (heap_new' (by simp))) (by simp [Value.oneCell']) (by omega) (by unfold maxLen; omega) (by omega) (by simp) _ rfl ?_
         intro g1 c1' w1 hown1 hg1 hat1 hlt1
         have hb1 := (Below.refl (w.heap.size + 2) _).grown hg1 (by simp) (fun k hk => by simp [Value.ownBlock] at hk)
         have HZ1 : Hid (w.heap.size + 2 ≤ w1.heap.size) := Lib.hid (by have := hb1.size; simp at this; omega)
         have HBW1 : Hid (Below w.heap.size w w1) := Lib.hid (Below.trans (by go_grown; all_goals (refine below_drewN ?_ _; go_grown)) (hb1.mono (by omega)))
         have K1 : Box12 w1 w.heap.size (.slice A ss.length c) (.slice AO nO cO) (.string (ch.extract 1 ch.size)) (.int .i64 0) (.int .i64 l1) (.int .i64 l2) (.int .i64 l3) (.int .i64 l4) (.int .i64 l5) (.int .i64 l6) (.int .i64 l7) (.int .i64 fair) := Box12.kept ⟨by go_simp, by go_simp, by go_simp, by go_simp, by go_simp, by go_simp, by go_simp, by go_simp, by go_simp, by go_simp, by go_simp, by go_simp, fun _ => by go_simp⟩ hb1 (by omega)
         have Z1 : Box12 w1 (w.heap.size + 1) (.slice none 0 0) (.slice none 0 0) (.string ⟨#[]⟩) (.int .i64 0) (.int .i64 0) (.int .i64 0) (.int .i64 0) (.int .i64 0) (.int .i64 0) (.int .i64 0) (.int .i64 0) (.int .i64 0) := Box12.kept ⟨by go_simp, by go_simp, by go_simp, by go_simp, by go_simp, by go_simp, by go_simp, by go_simp, by go_simp, by go_simp, by go_simp, by go_simp, fun _ => by go_simp⟩ hb1 (by omega)
         obtain ⟨k0, k1, k2, k3, k4, k5, k6, k7, k8, k9, k10, k11, f0⟩ := id K1
         obtain ⟨z0, z1, z2, z3, z4, z5, z6, z7, z8, z9, z10, z11, f1⟩ := id Z1
         have Hown1 := Lib.hid hown1
         clear hown1 hg1 hat1 hb1 hlt1)
      | (at_builtin
         refine wpList_append_row _ rfl (.tmp 75) (.tmp 79) 22 rfl (w.heap.size + 2) 9 i0 _ 16 Try.underlying22 hi hz0 hz1 hz2 rfl (.slice (some ⟨g1, 0, none⟩) (0 + 1) c1') (0 + 1) ([] ++ [.string raw]) rfl Hown1.out w.heap.size A ss.length c (ss.map .string) rfl (by simp) (HR.out.below (by first | exact HBW1.out | exact HBW1.out.alloc (by have := HBW1.out.size; omega) _)) (strs_oneCell _) (by unfold maxLen; omega) (by omega) (by exact HZ1.out) ?_
         intro v2 w2 hown2 hg2 hat2
         have hb2 : Below (w.heap.size + 2) w1 w2 := (Below.refl (w.heap.size + 2) w1).grown hg2 HZ1.out (fun k hk => (Hown1.out.lt k hk).1)
         have HZ2 : Hid (w.heap.size + 2 ≤ w2.heap.size) := Lib.hid (Nat.le_trans HZ1.out hb2.size)
         have HBW2 : Hid (Below w.heap.size w w2) := Lib.hid (HBW1.out.trans (hb2.mono (by omega)))
         have K2 := K1.kept hb2 (show w.heap.size < w.heap.size + 2 by omega)
         have Z2 := Z1.kept hb2 (show w.heap.size + 1 < w.heap.size + 2 by omega)
         clear k0 k1 k2 k3 k4 k5 k6 k7 k8 k9 k10 k11 z0 z1 z2 z3 z4 z5 z6 z7 z8 z9 z10 z11 f0 f1
         obtain ⟨k0, k1, k2, k3, k4, k5, k6, k7, k8, k9, k10, k11, f0⟩ := id K2
         obtain ⟨z0, z1, z2, z3, z4, z5, z6, z7, z8, z9, z10, z11, f1⟩ := id Z2
         obtain ⟨A2, m2, c2', rfl⟩ := own_slice hown2
         have Hown2 := Lib.hid hown2
         clear hown2 hg2 hat2 hb2
         have hO : w2.ownsRow (w.heap.size + 2) 9 1 (.slice A2 m2 c2') (0 + 1 + ss.length) ((([raw] ++ ss)).map .string) := (by have h := Hown2.out; simpa using h)
         obtain ⟨N, hN⟩ : ∃ N, N = 0 + 1 + ss.length := ⟨_, rfl⟩
         rw [← hN] at hO
         obtain ⟨g, cc, he, hNl, hca, hcb, hgb, hgl, hrw⟩ := own_block hO (by simp)
         rw [he]
         have HN := Lib.hid hNl
         have HRW := Lib.hid hrw
         have hN60 : ¬ N ≤ 60 := (by have := H60.out; omega)
         have HL := Lib.hid hN60
         have hN1 : 1 ≤ N := by omega
         have hN2 : N ≤ 1100 := by omega
         have hx : (60 : Int) < (N : Int) := by omega
         have hck : ¬ cc = N - 60 := by omega
         clear hO hNl hrw hN he hN60 Hown2
         clear K1 Z1))
    refine bodyPost_ret (by simp [results, Try.results16, go_sem, z0, z1, z2, z3, z4, z5, z6, z7, z8, z9, z10, z11]; try rfl) rfl ?_
    have hB := HBW2.out
    have hZ := HZ2.out
    refine ⟨_, rfl, ?_, fun p hp h => by simp [Value.ownBlock] at h; omega, by go_grown⟩
    simp only [World.size_setCell]
    have hS1 := strs_last HN.out HL.out hca hcb HRW.out
    simp only [Nat.zero_add] at hS1
    repeat refine strs_set ?_ (by simp; omega)
    exact hS1

set_option maxHeartbeats 4000000 in
theorem rcore_00_3 (D0 D1 : Value) (ss : List ByteArray) (ch raw : ByteArray) (l0 l1 l2 l3 l4 l5 l6 l7 fair : Int) (w : World) (hr : raw.size ≤ 65536) (hch : ch.size ≤ 9223372036854775807)
    (hS : Strs w w.heap.size D0 ss) (hO : ∃ A n c, D1 = .slice A n c) (hl : ss.length ≤ 1000) (hL0 : 0 ≤ l0) (hL1 : l0 ≤ 1000) (hf0 : 1 ≤ fair) (hf1 : fair ≤ 8) (h0 : 0 < ch.size) (hw : wayOf ch = 3)  :
    Calls Try.prog 16 #[.agg #[D0, D1, .string ch, .int .i64 l0, .int .i64 l1, .int .i64 l2, .int .i64 l3, .int .i64 l4, .int .i64 l5, .int .i64 l6, .int .i64 l7, .int .i64 fair], .int .i64 0, .int .i64 0, .string raw] w (PostX w D0 (fun V => .agg #[V, D1, .string (restOf ch), .int .i64 0, .int .i64 l1, .int .i64 l2, .int .i64 l3, .int .i64 l4, .int .i64 l5, .int .i64 l6, .int .i64 l7, .int .i64 fair]) (last60 (ss ++ [raw, raw]))) := by
  have hS0 := Lib.hid hS
  obtain ⟨A, c, rfl, hc1, hc2, hrow⟩ := hS
  obtain ⟨AO, nO, cO, rfl⟩ := hO
  have HR := Lib.hid hrow
  clear hrow
  have hne := toList_pos ch h0
  have hw2 := way_mod ch h0
  rw [hw] at hw2
  have hrr := rest_cut ch h0
  rw [← hrr]
  clear hw hrr
  obtain ⟨i0, hi, hz0, hz1, hz2⟩ := info_parts info_str
  by_cases h60 : ss.length + 2 ≤ 60
  · have H60 := Lib.hid h60
    clear h60
    go_enter Try.func16, Try.ntmps16
    go_wp2_with (go_at_call 24; refine Calls.mono (side_any _ _) ?_; rintro e w' ⟨rfl, rfl⟩)
    rw [hw2]
    go_quiet (fail)
    go_wp2_with (first
      | (at_builtin
         refine wpList_append_row _ rfl (.tmp 75) (.tmp 79) 22 rfl (w.heap.size + 2) 9 i0 _ 16 Try.underlying22 hi hz0 hz1 hz2 rfl (.slice none 0 0) (0) ([]) rfl (World.ownsRow_nil _ _ _ _) w.heap.size A ss.length c (ss.map .string) rfl (by simp) (HR.out.below (by go_grown; all_goals (refine below_drewN ?_ _; go_grown))) (strs_oneCell _) (by unfold maxLen; omega) (by omega) (by simp) ?_
         intro v1 w1 hown1 hg1 hat1
         simp only [Nat.zero_add, List.nil_append] at hown1
         have hb1 := (Below.refl (w.heap.size + 2) _).grown hg1 (by simp) (fun k hk => by simp [Value.ownBlock] at hk)
         have HZ1 : Hid (w.heap.size + 2 ≤ w1.heap.size) := Lib.hid (by have := hb1.size; simp at this; omega)
         have HBW1 : Hid (Below w.heap.size w w1) := Lib.hid (Below.trans (by go_grown; all_goals (refine below_drewN ?_ _; go_grown)) (hb1.mono (by omega)))
         have K1 : Box12 w1 w.heap.size (.slice A ss.length c) (.slice AO nO cO) (.string (ch.extract 1 ch.size)) (.int .i64 0) (.int .i64 l1) (.int .i64 l2) (.int .i64 l3) (.int .i64 l4) (.int .i64 l5) (.int .i64 l6) (.int .i64 l7) (.int .i64 fair) := Box12.kept ⟨by go_simp, by go_simp, by go_simp, by go_simp, by go_simp, by go_simp, by go_simp, by go_simp, by go_simp, by go_simp, by go_simp, by go_simp, fun _ => by go_simp⟩ hb1 (by omega)
         have Z1 : Box12 w1 (w.heap.size + 1) (.slice none 0 0) (.slice none 0 0) (.string ⟨#[]⟩) (.int .i64 0) (.int .i64 0) (.int .i64 0) (.int .i64 0) (.int .i64 0) (.int .i64 0) (.int .i64 0) (.int .i64 0) (.int .i64 0) := Box12.kept ⟨by go_simp, by go_simp, by go_simp, by go_simp, by go_simp, by go_simp, by go_simp, by go_simp, by go_simp, by go_simp, by go_simp, by go_simp, fun _ => by go_simp⟩ hb1 (by omega)
         obtain ⟨k0, k1, k2, k3, k4, k5, k6, k7, k8, k9, k10, k11, f0⟩ := id K1
         obtain ⟨z0, z1, z2, z3, z4, z5, z6, z7, z8, z9, z10, z11, f1⟩ := id Z1
         obtain ⟨A1, m1, c1', rfl⟩ := own_slice hown1
         have Hown1 := Lib.hid hown1
         clear hown1 hg1 hat1 hb1)
      | (at_builtin
         refine wpList_append_lies _ rfl (.tmp 83) (.tmp 85) 22 rfl (w.heap.size + 2) 9 i0 _ 1 16 Try.underlying22 hi hz0 hz1 hz2 rfl (by omega) (.slice A1 m1 c1') (ss.length) (ss.map .string) rfl (Hown1.out.alloc _) ⟨w1.heap.size, 0, none⟩ 1 1 [.string raw] rfl rfl (World.news_of_block (cs := #[.string raw]) (t := 9) (fr := (0, 0)) (heap_new' (by simp))) (by simp [Value.oneCell']) (by omega) (by unfold maxLen; omega) (by omega) (by have := HZ1.out; simp; omega) _ rfl ?_
         intro g2 c2' w2 hown2 hg2 hat2 hlt2
         have hb2 : Below (w.heap.size + 2) w1 w2 := ((Below.refl (w.heap.size + 2) w1).alloc HZ1.out _).grown hg2 (by have := HZ1.out; simp; omega) (fun k hk => (Hown1.out.lt k hk).1)
         have HZ2 : Hid (w.heap.size + 2 ≤ w2.heap.size) := Lib.hid (Nat.le_trans HZ1.out hb2.size)
         have HBW2 : Hid (Below w.heap.size w w2) := Lib.hid (HBW1.out.trans (hb2.mono (by omega)))
         have K2 := K1.kept hb2 (show w.heap.size < w.heap.size + 2 by omega)
         have Z2 := Z1.kept hb2 (show w.heap.size + 1 < w.heap.size + 2 by omega)
         clear k0 k1 k2 k3 k4 k5 k6 k7 k8 k9 k10 k11 z0 z1 z2 z3 z4 z5 z6 z7 z8 z9 z10 z11 f0 f1
         obtain ⟨k0, k1, k2, k3, k4, k5, k6, k7, k8, k9, k10, k11, f0⟩ := id K2
         obtain ⟨z0, z1, z2, z3, z4, z5, z6, z7, z8, z9, z10, z11, f1⟩ := id Z2
         have Hown2 := Lib.hid hown2
         clear hown2 hg2 hat2 hb2 hlt2
         clear K1 Z1)
      | (at_builtin
         refine wpList_append_lies _ rfl (.tmp 89) (.tmp 91) 22 rfl (w.heap.size + 2) 9 i0 _ 1 16 Try.underlying22 hi hz0 hz1 hz2 rfl (by omega) (.slice (some ⟨g2, 0, none⟩) (ss.length + 1) c2') (ss.length + 1) (ss.map .string ++ [.string raw]) rfl (Hown2.out.alloc _) ⟨w2.heap.size, 0, none⟩ 1 1 [.string raw] rfl rfl (World.news_of_block (cs := #[.string raw]) (t := 9) (fr := (0, 0)) (heap_new' (by simp))) (by simp [Value.oneCell']) (by omega) (by unfold maxLen; omega) (by omega) (by have := HZ2.out; simp; omega) _ rfl ?_
         intro g3 c3' w3 hown3 hg3 hat3 hlt3
         have hb3 : Below (w.heap.size + 2) w2 w3 := ((Below.refl (w.heap.size + 2) w2).alloc HZ2.out _).grown hg3 (by have := HZ2.out; simp; omega) (fun k hk => (Hown2.out.lt k hk).1)
         have HZ3 : Hid (w.heap.size + 2 ≤ w3.heap.size) := Lib.hid (Nat.le_trans HZ2.out hb3.size)
         have HBW3 : Hid (Below w.heap.size w w3) := Lib.hid (HBW2.out.trans (hb3.mono (by omega)))
         have K3 := K2.kept hb3 (show w.heap.size < w.heap.size + 2 by omega)
         have Z3 := Z2.kept hb3 (show w.heap.size + 1 < w.heap.size + 2 by omega)
         clear k0 k1 k2 k3 k4 k5 k6 k7 k8 k9 k10 k11 z0 z1 z2 z3 z4 z5 z6 z7 z8 z9 z10 z11 f0 f1
         obtain ⟨k0, k1, k2, k3, k4, k5, k6, k7, k8, k9, k10, k11, f0⟩ := id K3
         obtain ⟨z0, z1, z2, z3, z4, z5, z6, z7, z8, z9, z10, z11, f1⟩ := id Z3
         have Hown3 := Lib.hid hown3
         clear hown3 hg3 hat3 hb3 hlt3
         have hO : w3.ownsRow (w.heap.size + 2) 9 1 (.slice (some ⟨g3, 0, none⟩) (ss.length + 1 + 1) c3') (ss.length + 1 + 1) (((ss ++ [raw, raw])).map .string) := (by have h := Hown3.out; simpa using h)
         obtain ⟨N, hN⟩ : ∃ N, N = ss.length + 1 + 1 := ⟨_, rfl⟩
         rw [← hN] at hO ⊢
         obtain ⟨g, cc, he, hNl, hca, hcb, hgb, hgl, hrw⟩ := own_block hO (by simp)
         injection he with e1 e2 e3
         injection e1 with e1
         injection e1 with e1
         subst e1 e3
         have HN := Lib.hid hNl
         have HRW := Lib.hid hrw
         have hN60 : N ≤ 60 := (by have := H60.out; omega)
         have HL := Lib.hid hN60
         have hN1 : 1 ≤ N := by omega
         have hN2 : N ≤ 1100 := by omega
         have hx : ¬ (60 : Int) < (N : Int) := by omega
         clear hO hNl hrw hN hN60 Hown3
         clear K2 Z2))
    refine bodyPost_ret (by simp [results, Try.results16, go_sem, z0, z1, z2, z3, z4, z5, z6, z7, z8, z9, z10, z11]; try rfl) rfl ?_
    have hB := HBW3.out
    have hZ := HZ3.out
    refine ⟨_, rfl, ?_, fun p hp h => by simp [Value.ownBlock] at h; omega, by go_grown⟩
    simp only [World.size_setCell]
    have hS1 := strs_all HN.out HL.out hca hcb HRW.out
    repeat refine strs_set ?_ (by simp; omega)
    exact hS1
  · have H60 := Lib.hid h60
    clear h60
    go_enter Try.func16, Try.ntmps16
    go_wp2_with (go_at_call 24; refine Calls.mono (side_any _ _) ?_; rintro e w' ⟨rfl, rfl⟩)
    rw [hw2]
    go_quiet (fail)
    go_wp2_with (first
      | (at_builtin
         refine wpList_append_row _ rfl (.tmp 75) (.tmp 79) 22 rfl (w.heap.size + 2) 9 i0 _ 16 Try.underlying22 hi hz0 hz1 hz2 rfl (.slice none 0 0) (0) ([]) rfl (World.ownsRow_nil _ _ _ _) w.heap.size A ss.length c (ss.map .string) rfl (by simp) (HR.out.below (by go_grown; all_goals (refine below_drewN ?_ _; go_grown))) (strs_oneCell _) (by unfold maxLen; omega) (by omega) (by simp) ?_
         intro v1 w1 hown1 hg1 hat1
         simp only [Nat.zero_add, List.nil_append] at hown1
         have hb1 := (Below.refl (w.heap.size + 2) _).grown hg1 (by simp) (fun k hk => by simp [Value.ownBlock] at hk)
         have HZ1 : Hid (w.heap.size + 2 ≤ w1.heap.size) := Lib.hid (by have := hb1.size; simp at this; omega)
         have HBW1 : Hid (Below w.heap.size w w1) := Lib.hid (Below.trans (by go_grown; all_goals (refine below_drewN ?_ _; go_grown)) (hb1.mono (by omega)))
         have K1 : Box12 w1 w.heap.size (.slice A ss.length c) (.slice AO nO cO) (.string (ch.extract 1 ch.size)) (.int .i64 0) (.int .i64 l1) (.int .i64 l2) (.int .i64 l3) (.int .i64 l4) (.int .i64 l5) (.int .i64 l6) (.int .i64 l7) (.int .i64 fair) := Box12.kept ⟨by go_simp, by go_simp, by go_simp, by go_simp, by go_simp, by go_simp, by go_simp, by go_simp, by go_simp, by go_simp, by go_simp, by go_simp, fun _ => by go_simp⟩ hb1 (by omega)
         have Z1 : Box12 w1 (w.heap.size + 1) (.slice none 0 0) (.slice none 0 0) (.string ⟨#[]⟩) (.int .i64 0) (.int .i64 0) (.int .i64 0) (.int .i64 0) (.int .i64 0) (.int .i64 0) (.int .i64 0) (.int .i64 0) (.int .i64 0) := Box12.kept ⟨by go_simp, by go_simp, by go_simp, by go_simp, by go_simp, by go_simp, by go_simp, by go_simp, by go_simp, by go_simp, by go_simp, by go_simp, fun _ => by go_simp⟩ hb1 (by omega)
         obtain ⟨k0, k1, k2, k3, k4, k5, k6, k7, k8, k9, k10, k11, f0⟩ := id K1
         obtain ⟨z0, z1, z2, z3, z4, z5, z6, z7, z8, z9, z10, z11, f1⟩ := id Z1
         obtain ⟨A1, m1, c1', rfl⟩ := own_slice hown1
         have Hown1 := Lib.hid hown1
         clear hown1 hg1 hat1 hb1)
      | (at_builtin
         refine wpList_append_lies _ rfl (.tmp 83) (.tmp 85) 22 rfl (w.heap.size + 2) 9 i0 _ 1 16 Try.underlying22 hi hz0 hz1 hz2 rfl (by omega) (.slice A1 m1 c1') (ss.length) (ss.map .string) rfl (Hown1.out.alloc _) ⟨w1.heap.size, 0, none⟩ 1 1 [.string raw] rfl rfl (World.news_of_block (cs := #[.string raw]) (t := 9) (fr := (0, 0)) (heap_new' (by simp))) (by simp [Value.oneCell']) (by omega) (by unfold maxLen; omega) (by omega) (by have := HZ1.out; simp; omega) _ rfl ?_
         intro g2 c2' w2 hown2 hg2 hat2 hlt2
         have hb2 : Below (w.heap.size + 2) w1 w2 := ((Below.refl (w.heap.size + 2) w1).alloc HZ1.out _).grown hg2 (by have := HZ1.out; simp; omega) (fun k hk => (Hown1.out.lt k hk).1)
         have HZ2 : Hid (w.heap.size + 2 ≤ w2.heap.size) := Lib.hid (Nat.le_trans HZ1.out hb2.size)
         have HBW2 : Hid (Below w.heap.size w w2) := Lib.hid (HBW1.out.trans (hb2.mono (by omega)))
         have K2 := K1.kept hb2 (show w.heap.size < w.heap.size + 2 by omega)
         have Z2 := Z1.kept hb2 (show w.heap.size + 1 < w.heap.size + 2 by omega)
         clear k0 k1 k2 k3 k4 k5 k6 k7 k8 k9 k10 k11 z0 z1 z2 z3 z4 z5 z6 z7 z8 z9 z10 z11 f0 f1
         obtain ⟨k0, k1, k2, k3, k4, k5, k6, k7, k8, k9, k10, k11, f0⟩ := id K2
         obtain ⟨z0, z1, z2, z3, z4, z5, z6, z7, z8, z9, z10, z11, f1⟩ := id Z2
         have Hown2 := Lib.hid hown2
         clear hown2 hg2 hat2 hb2 hlt2
         clear K1 Z1)
      | (at_builtin
         refine wpList_append_lies _ rfl (.tmp 89) (.tmp 91) 22 rfl (w.heap.size + 2) 9 i0 _ 1 16 Try.underlying22 hi hz0 hz1 hz2 rfl (by omega) (.slice (some ⟨g2, 0, none⟩) (ss.length + 1) c2') (ss.length + 1) (ss.map .string ++ [.string raw]) rfl (Hown2.out.alloc _) ⟨w2.heap.size, 0, none⟩ 1 1 [.string raw] rfl rfl (World.news_of_block (cs := #[.string raw]) (t := 9) (fr := (0, 0)) (heap_new' (by simp))) (by simp [Value.oneCell']) (by omega) (by unfold maxLen; omega) (by omega) (by have := HZ2.out; simp; omega) _ rfl ?_
         intro g3 c3' w3 hown3 hg3 hat3 hlt3
         have hb3 : Below (w.heap.size + 2) w2 w3 := ((Below.refl (w.heap.size + 2) w2).alloc HZ2.out _).grown hg3 (by have := HZ2.out; simp; omega) (fun k hk => (Hown2.out.lt k hk).1)
         have HZ3 : Hid (w.heap.size + 2 ≤ w3.heap.size) := Lib.hid (Nat.le_trans HZ2.out hb3.size)
         have HBW3 : Hid (Below w.heap.size w w3) := Lib.hid (HBW2.out.trans (hb3.mono (by omega)))
         have K3 := K2.kept hb3 (show w.heap.size < w.heap.size + 2 by omega)
         have Z3 := Z2.kept hb3 (show w.heap.size + 1 < w.heap.size + 2 by omega)
         clear k0 k1 k2 k3 k4 k5 k6 k7 k8 k9 k10 k11 z0 z1 z2 z3 z4 z5 z6 z7 z8 z9 z10 z11 f0 f1
         obtain ⟨k0, k1, k2, k3, k4, k5, k6, k7, k8, k9, k10, k11, f0⟩ := id K3
         obtain ⟨z0, z1, z2, z3, z4, z5, z6, z7, z8, z9, z10, z11, f1⟩ := id Z3
         have Hown3 := Lib.hid hown3
         clear hown3 hg3 hat3 hb3 hlt3
         have hO : w3.ownsRow (w.heap.size + 2) 9 1 (.slice (some ⟨g3, 0, none⟩) (ss.length + 1 + 1) c3') (ss.length + 1 + 1) (((ss ++ [raw, raw])).map .string) := (by have h := Hown3.out; simpa using h)
         obtain ⟨N, hN⟩ : ∃ N, N = ss.length + 1 + 1 := ⟨_, rfl⟩
         rw [← hN] at hO ⊢
         obtain ⟨g, cc, he, hNl, hca, hcb, hgb, hgl, hrw⟩ := own_block hO (by simp)
         injection he with e1 e2 e3
         injection e1 with e1
         injection e1 with e1
         subst e1 e3
         have HN := Lib.hid hNl
         have HRW := Lib.hid hrw
         have hN60 : ¬ N ≤ 60 := (by have := H60.out; omega)
         have HL := Lib.hid hN60
         have hN1 : 1 ≤ N := by omega
         have hN2 : N ≤ 1100 := by omega
         have hx : (60 : Int) < (N : Int) := by omega
         have hck : ¬ c3' = N - 60 := by omega
         clear hO hNl hrw hN hN60 Hown3
         clear K2 Z2))
    refine bodyPost_ret (by simp [results, Try.results16, go_sem, z0, z1, z2, z3, z4, z5, z6, z7, z8, z9, z10, z11]; try rfl) rfl ?_
    have hB := HBW3.out
    have hZ := HZ3.out
    refine ⟨_, rfl, ?_, fun p hp h => by simp [Value.ownBlock] at h; omega, by go_grown⟩
    simp only [World.size_setCell]
    have hS1 := strs_last HN.out HL.out hca hcb HRW.out
    simp only [Nat.zero_add] at hS1
    repeat refine strs_set ?_ (by simp; omega)
    exact hS1

end Go.Proofs.Ytgllojpeggmleaa
