/-
  slices.Grow of nothing, slices.Concat of two slices of strings.
-/
import Derived.Test.YtgllojpeggmleaaApp
namespace Go.Proofs.Ytgllojpeggmleaa
open Go.RowKit Go.Proofs.Mem

theorem info_str : (Try.prog.info? 9).map (fun i => (i.zero, i.size, i.bytes)) = some (some (.string ⟨#[]⟩), 1, 16) := by kernel_rfl

set_option maxHeartbeats 1000000 in
theorem grow_none (n : Nat) (hn : n ≤ 1099511627776) (w : World) :
    Calls Try.prog 25 #[.slice none 0 0, .int .i64 n] w (GotOwn w 9) := by
  obtain ⟨i0, hi, hz0, hz1, hz2⟩ := info_parts info_str
  by_cases h0 : n = 0
  · subst h0
    go_enter Try.func25, Try.ntmps25
    go_wp2
    go_ret
    exact ⟨_, rfl, World.ownsRow_nil _ _ _ _, Below.refl _ _⟩
  · have hp : (0 : Int) < (n : Int) := by omega
    have hold : (Builtin.firstCells i0.size 0 (.slice none 0 0)).run Try.prog w.drew = .ok ([] : List Value).toArray w.drew := run_firstCells_none w.drew i0.size 0 0 0
    have hrz : ∀ ty, _ := fun ty => Lib.run_append_grow_zeros (P := Try.prog) w 22 3 ty 9 i0 (.string ⟨#[]⟩) .i64 .i64 Try.underlying22 Try.underlying3 hi hz0 none 0 0 [] hold n (by omega) (by omega) (by omega) (by omega) (by rw [hz2]; omega)
      (by rw [hz2]; unfold Builtin.nextslicecap; rw [if_pos (by omega)]; omega)
    simp only [Nat.zero_add] at hrz
    have hG1 := grownCap_ge w n 0 9
    have hG2 := grownCap_le_maxLen w n 0 9 (by unfold maxLen; omega)
    obtain ⟨G, hG⟩ : ∃ G, G = grownCap w n 0 9 := ⟨_, rfl⟩
    rw [← hG] at hrz hG1 hG2
    clear hG hold
    have hG3 : G ≤ 9223372036854775807 := by unfold maxLen at hG2; exact hG2
    go_enter Try.func25, Try.ntmps25
    go_wp2_with (at_builtin; refine Lib.wpList_append_run _ rfl _ _ _ _ rfl _ _ rfl rfl _ _ (hrz _) ?_)
    go_ret
    refine ⟨_, rfl, ⟨by simp, .inr ⟨w.heap.size, G, _, rfl, Nat.le_refl _, heap_alloc_new w _, Nat.zero_le _, hG2, ?_, by simp⟩⟩, ((Below.refl _ _).alloc (Nat.le_refl _) _).drew⟩
    simp [size_zeroCells]
    omega

set_option maxHeartbeats 1000000 in
theorem concat_two (V1 V2 : Value) (ss1 ss2 : List ByteArray) (g : Nat) (w : World) (hg : g < w.heap.size) (hc1 : w.cell? ⟨g, 0, none⟩ = some V1) (hc2 : w.cell? ⟨g, 1, none⟩ = some V2)
    (h1 : Strs w w.heap.size V1 ss1) (h2 : Strs w w.heap.size V2 ss2) (hl1 : ss1.length ≤ 100000000) (hl2 : ss2.length ≤ 100000000) :
    Calls Try.prog 18 #[.slice (some ⟨g, 0, none⟩) 2 2] w (GotStrs w (ss1 ++ ss2)) := by
  obtain ⟨A1, c1, rfl, hc1a, hc1b, hr1⟩ := h1
  obtain ⟨A2, c2, rfl, hc2a, hc2b, hr2⟩ := h2
  obtain ⟨i0, hi, hz0, hz1, hz2⟩ := info_parts info_str
  go_enter Try.func18, Try.ntmps18
  go_wp2
  refine wp_loop_rounds 3 ?_
  rw [rounds_succ]; go_wp2
  rw [rounds_succ]; go_wp2
  rw [rounds_succ]; go_wp2_with fail
  rw [show (ss1.length : Int) + (ss2.length : Int) = ((ss1.length + ss2.length : Nat) : Int) by omega]
  refine (grow_none (ss1.length + ss2.length) (by omega) _).mono ?_
  rintro e w1 ⟨v, rfl, hown, hb1⟩
  have hd1 := (hb1.cell (p := ⟨g, 0, none⟩) hg).trans hc1
  have hd2 := (hb1.cell (p := ⟨g, 1, none⟩) hg).trans hc2
  go_wp2_with fail
  refine wp_loop_rounds 3 ?_
  rw [rounds_succ]
  go_wp2_with (at_builtin; refine wpList_append_row _ rfl (.tmp 31) (.tmp 32) _ rfl w.heap.size 9 i0 _ 16 Try.underlying22 hi hz0 hz1 hz2 rfl v 0 [] rfl hown w.heap.size A1 ss1.length c1 (ss1.map .string) rfl (by simp) (hr1.below hb1) (strs_oneCell _) (by unfold maxLen; omega) (by omega) hb1.size ?_; intro v2 w2 hown2 hg2 hat2)
  have hk2 : Below w.heap.size w1 w2 := (Below.refl _ _).grown hg2 hb1.size (fun k hk => (hown.lt k hk).1)
  have hb2 : Below w.heap.size w w2 := hb1.trans hk2
  have he1 := (hb2.cell (p := ⟨g, 0, none⟩) hg).trans hc1
  have he2 := (hb2.cell (p := ⟨g, 1, none⟩) hg).trans hc2
  go_wp2
  rw [rounds_succ]
  go_wp2_with (at_builtin; refine wpList_append_row _ rfl (.tmp 31) (.tmp 32) _ rfl w.heap.size 9 i0 _ 16 Try.underlying22 hi hz0 hz1 hz2 rfl v2 (0 + ss1.length) ([] ++ ss1.map .string) rfl hown2 w.heap.size A2 ss2.length c2 (ss2.map .string) rfl (by simp) (hr2.below hb2) (strs_oneCell _) (by unfold maxLen; omega) (by omega) hb2.size ?_; intro v3 w3 hown3 hg3 hat3)
  have hb3 : Below w.heap.size w w3 := hb2.grown hg3 hb2.size (fun k hk => (hown2.lt k hk).1)
  go_wp2
  rw [rounds_succ]
  go_wp2
  go_ret
  have hown4 : w3.ownsRow w.heap.size 9 1 v3 (0 + ss1.length + ss2.length) ((ss1 ++ ss2).map .string) := by simpa using hown3
  exact ⟨v3, rfl, strs_of_own hown4, fun g hg => (hown4.lt g hg).1, hb3⟩

end Go.Proofs.Ytgllojpeggmleaa
