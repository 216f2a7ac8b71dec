/-
  THE WALKS OF net.Post: side 1, place 2, each of the outside's choices.
-/
import Derived.Test.YtgllojpeggmleaaChoose
import Derived.RegionTactic
import Derived.ChangeAlike
namespace Go.Proofs.Ytgllojpeggmleaa
open Go.RowKit Go.Proofs.Mem
set_option linter.unusedVariables false

set_option maxHeartbeats 2000000 in
theorem core_12_l (D0 D1 : Value) (ss : List ByteArray) (ch raw : ByteArray) (l0 l1 l2 l3 l4 l5 l6 l7 fair : Int) (w : World) (hr : raw.size ≤ 65536) (hch : ch.size ≤ 9223372036854775807)
    (hS : Strs w w.heap.size D1 ss) (hO : ∃ A n c, D0 = .slice A n c) (hl : ss.length ≤ 1000) (hL0 : 0 ≤ l6) (hL1 : l6 ≤ 1000) (hw : wayOf ch = 0) (hx : l6 + 1 < fair) :
    Calls Try.prog 10 #[.agg #[D0, D1, .string ch, .int .i64 l0, .int .i64 l1, .int .i64 l2, .int .i64 l3, .int .i64 l4, .int .i64 l5, .int .i64 l6, .int .i64 l7, .int .i64 fair], .int .i64 1, .int .i64 2, .string raw] w (PostX w D1 (fun V => .agg #[D0, V, .string (restOf ch), .int .i64 l0, .int .i64 l1, .int .i64 l2, .int .i64 l3, .int .i64 l4, .int .i64 l5, .int .i64 (l6 + 1), .int .i64 l7, .int .i64 fair]) ss) := by
  have hS0 := Lib.hid hS
  obtain ⟨A, c, rfl, hc1, hc2, hrow⟩ := hS
  obtain ⟨AO, nO, cO, rfl⟩ := hO
  have hw' := Lib.hid hw
  clear hw hrow
  go_enter Try.func10, Try.ntmps10
  go_wp2_with fail
  apply Calls.mono
  · exact choose_any _ ch _ hch (by simp) (by simp)
  rintro e w' ⟨rfl, rfl⟩
  rw [hw'.out]
  go_wp2_with fail
  go_region
  go_wp2_with fail
  go_region
  go_wp2_with fail
  refine bodyPost_ret (by simp [results, Try.results10, go_sem]; try rfl) rfl ?_
  exact ⟨_, rfl, hS0.out.on (by go_grown), fun p _ h => h, by go_grown⟩

set_option maxHeartbeats 2000000 in
theorem core_12_0 (D0 D1 : Value) (ss : List ByteArray) (ch raw : ByteArray) (l0 l1 l2 l3 l4 l5 l6 l7 fair : Int) (w : World) (hr : raw.size ≤ 65536) (hch : ch.size ≤ 9223372036854775807)
    (hS : Strs w w.heap.size D1 ss) (hO : ∃ A n c, D0 = .slice A n c) (hl : ss.length ≤ 1000) (hL0 : 0 ≤ l6) (hL1 : l6 ≤ 1000) (hw : wayOf ch = 0) (hx : ¬ l6 + 1 < fair) :
    Calls Try.prog 10 #[.agg #[D0, D1, .string ch, .int .i64 l0, .int .i64 l1, .int .i64 l2, .int .i64 l3, .int .i64 l4, .int .i64 l5, .int .i64 l6, .int .i64 l7, .int .i64 fair], .int .i64 1, .int .i64 2, .string raw] w (PostX w D1 (fun V => .agg #[D0, V, .string (restOf ch), .int .i64 l0, .int .i64 l1, .int .i64 l2, .int .i64 l3, .int .i64 l4, .int .i64 l5, .int .i64 0, .int .i64 l7, .int .i64 fair]) (last60 (ss ++ [raw]))) := by
  have hS0 := Lib.hid hS
  obtain ⟨A, c, rfl, hc1, hc2, hrow⟩ := hS
  obtain ⟨AO, nO, cO, rfl⟩ := hO
  have hw' := Lib.hid hw
  clear hw hrow
  go_enter Try.func10, Try.ntmps10
  go_wp2_with fail
  apply Calls.mono
  · exact choose_any _ ch _ hch (by simp) (by simp)
  rintro e w' ⟨rfl, rfl⟩
  rw [hw'.out]
  go_wp2_with fail
  go_region
  go_wp2_with fail
  apply Calls.mono
  · exact concat_two (.slice A ss.length c) (.slice (some ⟨w.heap.size + 1 + 1, 0, none⟩) 1 1) ss [raw] (w.heap.size + 1 + 1 + 1) _ (by go_simp) (by go_simp) (by go_simp) (by exact hS0.out.on (by go_grown)) (by exact (Strs.new' _ [raw] _ 1 _ _ rfl rfl (by unfold maxLen; omega) (by simp)).alloc _) (by omega) (by simp)
  rintro e w1 ⟨V, rfl, hV, hfr, hb1⟩
  obtain ⟨A', c', rfl, hc1', hc2', hrow'⟩ := hV
  obtain ⟨n', hn'⟩ : ∃ n', n' = (ss ++ [raw]).length := ⟨_, rfl⟩
  rw [← hn'] at hc1' ⊢
  have hn1 : 1 ≤ n' := by rw [hn']; simp; try omega
  have hn2 : n' ≤ 1100 := by rw [hn']; simp; omega
  obtain ⟨b', off', rfl, hb', hcell'⟩ := hrow'.at_ (by simp; try omega)
  have hfb : w.heap.size + 1 + 1 + 1 < b' := by have := hfr b' rfl; simp at this; omega
  have HN := Lib.hid hn'
  have HR := Lib.hid hrow'
  have hB : Below w.heap.size w w1 := bel (by go_grown) hb1
  have k0 : w1.cell? ⟨w.heap.size, 0, none⟩ = some (.slice AO nO cO) := (hb1.cell (p := ⟨w.heap.size, 0, none⟩) (by go_simp)).trans (by go_simp)
  have k1 : w1.cell? ⟨w.heap.size, 1, none⟩ = some (.slice A ss.length c) := (hb1.cell (p := ⟨w.heap.size, 1, none⟩) (by go_simp)).trans (by go_simp)
  have k2 : w1.cell? ⟨w.heap.size, 2, none⟩ = some (.string (restOf ch)) := (hb1.cell (p := ⟨w.heap.size, 2, none⟩) (by go_simp)).trans (by go_simp)
  have k3 : w1.cell? ⟨w.heap.size, 3, none⟩ = some (.int .i64 l0) := (hb1.cell (p := ⟨w.heap.size, 3, none⟩) (by go_simp)).trans (by go_simp)
  have k4 : w1.cell? ⟨w.heap.size, 4, none⟩ = some (.int .i64 l1) := (hb1.cell (p := ⟨w.heap.size, 4, none⟩) (by go_simp)).trans (by go_simp)
  have k5 : w1.cell? ⟨w.heap.size, 5, none⟩ = some (.int .i64 l2) := (hb1.cell (p := ⟨w.heap.size, 5, none⟩) (by go_simp)).trans (by go_simp)
  have k6 : w1.cell? ⟨w.heap.size, 6, none⟩ = some (.int .i64 l3) := (hb1.cell (p := ⟨w.heap.size, 6, none⟩) (by go_simp)).trans (by go_simp)
  have k7 : w1.cell? ⟨w.heap.size, 7, none⟩ = some (.int .i64 l4) := (hb1.cell (p := ⟨w.heap.size, 7, none⟩) (by go_simp)).trans (by go_simp)
  have k8 : w1.cell? ⟨w.heap.size, 8, none⟩ = some (.int .i64 l5) := (hb1.cell (p := ⟨w.heap.size, 8, none⟩) (by go_simp)).trans (by go_simp)
  have k9 : w1.cell? ⟨w.heap.size, 9, none⟩ = some (.int .i64 l6) := (hb1.cell (p := ⟨w.heap.size, 9, none⟩) (by go_simp)).trans (by go_simp)
  have k10 : w1.cell? ⟨w.heap.size, 10, none⟩ = some (.int .i64 l7) := (hb1.cell (p := ⟨w.heap.size, 10, none⟩) (by go_simp)).trans (by go_simp)
  have k11 : w1.cell? ⟨w.heap.size, 11, none⟩ = some (.int .i64 fair) := (hb1.cell (p := ⟨w.heap.size, 11, none⟩) (by go_simp)).trans (by go_simp)
  have z0 : w1.cell? ⟨w.heap.size + 1, 0, none⟩ = some (.slice none 0 0) := (hb1.cell (p := ⟨w.heap.size + 1, 0, none⟩) (by go_simp)).trans (by go_simp)
  have z1 : w1.cell? ⟨w.heap.size + 1, 1, none⟩ = some (.slice none 0 0) := (hb1.cell (p := ⟨w.heap.size + 1, 1, none⟩) (by go_simp)).trans (by go_simp)
  have z2 : w1.cell? ⟨w.heap.size + 1, 2, none⟩ = some (.string ⟨#[]⟩) := (hb1.cell (p := ⟨w.heap.size + 1, 2, none⟩) (by go_simp)).trans (by go_simp)
  have z3 : w1.cell? ⟨w.heap.size + 1, 3, none⟩ = some (.int .i64 0) := (hb1.cell (p := ⟨w.heap.size + 1, 3, none⟩) (by go_simp)).trans (by go_simp)
  have z4 : w1.cell? ⟨w.heap.size + 1, 4, none⟩ = some (.int .i64 0) := (hb1.cell (p := ⟨w.heap.size + 1, 4, none⟩) (by go_simp)).trans (by go_simp)
  have z5 : w1.cell? ⟨w.heap.size + 1, 5, none⟩ = some (.int .i64 0) := (hb1.cell (p := ⟨w.heap.size + 1, 5, none⟩) (by go_simp)).trans (by go_simp)
  have z6 : w1.cell? ⟨w.heap.size + 1, 6, none⟩ = some (.int .i64 0) := (hb1.cell (p := ⟨w.heap.size + 1, 6, none⟩) (by go_simp)).trans (by go_simp)
  have z7 : w1.cell? ⟨w.heap.size + 1, 7, none⟩ = some (.int .i64 0) := (hb1.cell (p := ⟨w.heap.size + 1, 7, none⟩) (by go_simp)).trans (by go_simp)
  have z8 : w1.cell? ⟨w.heap.size + 1, 8, none⟩ = some (.int .i64 0) := (hb1.cell (p := ⟨w.heap.size + 1, 8, none⟩) (by go_simp)).trans (by go_simp)
  have z9 : w1.cell? ⟨w.heap.size + 1, 9, none⟩ = some (.int .i64 0) := (hb1.cell (p := ⟨w.heap.size + 1, 9, none⟩) (by go_simp)).trans (by go_simp)
  have z10 : w1.cell? ⟨w.heap.size + 1, 10, none⟩ = some (.int .i64 0) := (hb1.cell (p := ⟨w.heap.size + 1, 10, none⟩) (by go_simp)).trans (by go_simp)
  have z11 : w1.cell? ⟨w.heap.size + 1, 11, none⟩ = some (.int .i64 0) := (hb1.cell (p := ⟨w.heap.size + 1, 11, none⟩) (by go_simp)).trans (by go_simp)
  have f0 : ∀ o, w1.frozen? ⟨w.heap.size, o, none⟩ = false := fun o => (hb1.frozen (p := ⟨w.heap.size, o, none⟩) (by go_simp)).trans (by go_simp)
  have f1 : ∀ o, w1.frozen? ⟨w.heap.size + 1, o, none⟩ = false := fun o => (hb1.frozen (p := ⟨w.heap.size + 1, o, none⟩) (by go_simp)).trans (by go_simp)
  have hz := hb1.size
  simp at hz
  clear hb1 hn' hcell' hrow' hfr
  have hzB := hB.size
  have HB := Lib.hid hB
  clear hB
  by_cases h60 : n' ≤ 60
  · have hck : ¬ c' = 0 := by omega
    have hx : ¬ (0 : Int) < (n' : Int) - 60 := by omega
    go_wp2_with fail
    refine bodyPost_ret (by simp [results, Try.results10, go_sem, z0, z1, z2, z3, z4, z5, z6, z7, z8, z9, z10, z11]; try rfl) rfl ?_
    have hB := HB.out
    refine ⟨_, rfl, ?_, fun p hp h => by simp [Value.ownBlock] at h; omega, by go_grown⟩
    simp only [World.size_setCell]
    have hS1 := strs_all HN.out h60 hc1' hc2' HR.out
    repeat refine strs_set ?_ (by simp; omega)
    exact hS1
  · have hx : (0 : Int) < (n' : Int) - 60 := by omega
    go_wp2_with fail
    refine bodyPost_ret (by simp [results, Try.results10, go_sem, z0, z1, z2, z3, z4, z5, z6, z7, z8, z9, z10, z11]; try rfl) rfl ?_
    have hB := HB.out
    refine ⟨_, rfl, ?_, fun p hp h => by simp [Value.ownBlock] at h; omega, by go_grown⟩
    simp only [World.size_setCell]
    have hS1 := strs_last HN.out h60 hc1' hc2' HR.out
    repeat refine strs_set ?_ (by simp; omega)
    exact hS1

set_option maxHeartbeats 2000000 in
theorem core_12_1 (D0 D1 : Value) (ss : List ByteArray) (ch raw : ByteArray) (l0 l1 l2 l3 l4 l5 l6 l7 fair : Int) (w : World) (hr : raw.size ≤ 65536) (hch : ch.size ≤ 9223372036854775807)
    (hS : Strs w w.heap.size D1 ss) (hO : ∃ A n c, D0 = .slice A n c) (hl : ss.length ≤ 1000) (hL0 : 0 ≤ l6) (hL1 : l6 ≤ 1000) (hw : wayOf ch = 1) :
    Calls Try.prog 10 #[.agg #[D0, D1, .string ch, .int .i64 l0, .int .i64 l1, .int .i64 l2, .int .i64 l3, .int .i64 l4, .int .i64 l5, .int .i64 l6, .int .i64 l7, .int .i64 fair], .int .i64 1, .int .i64 2, .string raw] w (PostX w D1 (fun V => .agg #[D0, V, .string (restOf ch), .int .i64 l0, .int .i64 l1, .int .i64 l2, .int .i64 l3, .int .i64 l4, .int .i64 l5, .int .i64 0, .int .i64 l7, .int .i64 fair]) (last60 (ss ++ [raw]))) := by
  have hS0 := Lib.hid hS
  obtain ⟨A, c, rfl, hc1, hc2, hrow⟩ := hS
  obtain ⟨AO, nO, cO, rfl⟩ := hO
  have hw' := Lib.hid hw
  clear hw hrow
  go_enter Try.func10, Try.ntmps10
  go_wp2_with fail
  apply Calls.mono
  · exact choose_any _ ch _ hch (by simp) (by simp)
  rintro e w' ⟨rfl, rfl⟩
  rw [hw'.out]
  go_wp2_with fail
  apply Calls.mono
  · exact concat_two (.slice A ss.length c) (.slice (some ⟨w.heap.size + 1 + 1, 0, none⟩) 1 1) ss [raw] (w.heap.size + 1 + 1 + 1) _ (by go_simp) (by go_simp) (by go_simp) (by exact hS0.out.on (by go_grown)) (by exact (Strs.new' _ [raw] _ 1 _ _ rfl rfl (by unfold maxLen; omega) (by simp)).alloc _) (by omega) (by simp)
  rintro e w1 ⟨V, rfl, hV, hfr, hb1⟩
  obtain ⟨A', c', rfl, hc1', hc2', hrow'⟩ := hV
  obtain ⟨n', hn'⟩ : ∃ n', n' = (ss ++ [raw]).length := ⟨_, rfl⟩
  rw [← hn'] at hc1' ⊢
  have hn1 : 1 ≤ n' := by rw [hn']; simp; try omega
  have hn2 : n' ≤ 1100 := by rw [hn']; simp; omega
  obtain ⟨b', off', rfl, hb', hcell'⟩ := hrow'.at_ (by simp; try omega)
  have hfb : w.heap.size + 1 + 1 + 1 < b' := by have := hfr b' rfl; simp at this; omega
  have HN := Lib.hid hn'
  have HR := Lib.hid hrow'
  have hB : Below w.heap.size w w1 := bel (by go_grown) hb1
  have k0 : w1.cell? ⟨w.heap.size, 0, none⟩ = some (.slice AO nO cO) := (hb1.cell (p := ⟨w.heap.size, 0, none⟩) (by go_simp)).trans (by go_simp)
  have k1 : w1.cell? ⟨w.heap.size, 1, none⟩ = some (.slice A ss.length c) := (hb1.cell (p := ⟨w.heap.size, 1, none⟩) (by go_simp)).trans (by go_simp)
  have k2 : w1.cell? ⟨w.heap.size, 2, none⟩ = some (.string (restOf ch)) := (hb1.cell (p := ⟨w.heap.size, 2, none⟩) (by go_simp)).trans (by go_simp)
  have k3 : w1.cell? ⟨w.heap.size, 3, none⟩ = some (.int .i64 l0) := (hb1.cell (p := ⟨w.heap.size, 3, none⟩) (by go_simp)).trans (by go_simp)
  have k4 : w1.cell? ⟨w.heap.size, 4, none⟩ = some (.int .i64 l1) := (hb1.cell (p := ⟨w.heap.size, 4, none⟩) (by go_simp)).trans (by go_simp)
  have k5 : w1.cell? ⟨w.heap.size, 5, none⟩ = some (.int .i64 l2) := (hb1.cell (p := ⟨w.heap.size, 5, none⟩) (by go_simp)).trans (by go_simp)
  have k6 : w1.cell? ⟨w.heap.size, 6, none⟩ = some (.int .i64 l3) := (hb1.cell (p := ⟨w.heap.size, 6, none⟩) (by go_simp)).trans (by go_simp)
  have k7 : w1.cell? ⟨w.heap.size, 7, none⟩ = some (.int .i64 l4) := (hb1.cell (p := ⟨w.heap.size, 7, none⟩) (by go_simp)).trans (by go_simp)
  have k8 : w1.cell? ⟨w.heap.size, 8, none⟩ = some (.int .i64 l5) := (hb1.cell (p := ⟨w.heap.size, 8, none⟩) (by go_simp)).trans (by go_simp)
  have k9 : w1.cell? ⟨w.heap.size, 9, none⟩ = some (.int .i64 l6) := (hb1.cell (p := ⟨w.heap.size, 9, none⟩) (by go_simp)).trans (by go_simp)
  have k10 : w1.cell? ⟨w.heap.size, 10, none⟩ = some (.int .i64 l7) := (hb1.cell (p := ⟨w.heap.size, 10, none⟩) (by go_simp)).trans (by go_simp)
  have k11 : w1.cell? ⟨w.heap.size, 11, none⟩ = some (.int .i64 fair) := (hb1.cell (p := ⟨w.heap.size, 11, none⟩) (by go_simp)).trans (by go_simp)
  have z0 : w1.cell? ⟨w.heap.size + 1, 0, none⟩ = some (.slice none 0 0) := (hb1.cell (p := ⟨w.heap.size + 1, 0, none⟩) (by go_simp)).trans (by go_simp)
  have z1 : w1.cell? ⟨w.heap.size + 1, 1, none⟩ = some (.slice none 0 0) := (hb1.cell (p := ⟨w.heap.size + 1, 1, none⟩) (by go_simp)).trans (by go_simp)
  have z2 : w1.cell? ⟨w.heap.size + 1, 2, none⟩ = some (.string ⟨#[]⟩) := (hb1.cell (p := ⟨w.heap.size + 1, 2, none⟩) (by go_simp)).trans (by go_simp)
  have z3 : w1.cell? ⟨w.heap.size + 1, 3, none⟩ = some (.int .i64 0) := (hb1.cell (p := ⟨w.heap.size + 1, 3, none⟩) (by go_simp)).trans (by go_simp)
  have z4 : w1.cell? ⟨w.heap.size + 1, 4, none⟩ = some (.int .i64 0) := (hb1.cell (p := ⟨w.heap.size + 1, 4, none⟩) (by go_simp)).trans (by go_simp)
  have z5 : w1.cell? ⟨w.heap.size + 1, 5, none⟩ = some (.int .i64 0) := (hb1.cell (p := ⟨w.heap.size + 1, 5, none⟩) (by go_simp)).trans (by go_simp)
  have z6 : w1.cell? ⟨w.heap.size + 1, 6, none⟩ = some (.int .i64 0) := (hb1.cell (p := ⟨w.heap.size + 1, 6, none⟩) (by go_simp)).trans (by go_simp)
  have z7 : w1.cell? ⟨w.heap.size + 1, 7, none⟩ = some (.int .i64 0) := (hb1.cell (p := ⟨w.heap.size + 1, 7, none⟩) (by go_simp)).trans (by go_simp)
  have z8 : w1.cell? ⟨w.heap.size + 1, 8, none⟩ = some (.int .i64 0) := (hb1.cell (p := ⟨w.heap.size + 1, 8, none⟩) (by go_simp)).trans (by go_simp)
  have z9 : w1.cell? ⟨w.heap.size + 1, 9, none⟩ = some (.int .i64 0) := (hb1.cell (p := ⟨w.heap.size + 1, 9, none⟩) (by go_simp)).trans (by go_simp)
  have z10 : w1.cell? ⟨w.heap.size + 1, 10, none⟩ = some (.int .i64 0) := (hb1.cell (p := ⟨w.heap.size + 1, 10, none⟩) (by go_simp)).trans (by go_simp)
  have z11 : w1.cell? ⟨w.heap.size + 1, 11, none⟩ = some (.int .i64 0) := (hb1.cell (p := ⟨w.heap.size + 1, 11, none⟩) (by go_simp)).trans (by go_simp)
  have f0 : ∀ o, w1.frozen? ⟨w.heap.size, o, none⟩ = false := fun o => (hb1.frozen (p := ⟨w.heap.size, o, none⟩) (by go_simp)).trans (by go_simp)
  have f1 : ∀ o, w1.frozen? ⟨w.heap.size + 1, o, none⟩ = false := fun o => (hb1.frozen (p := ⟨w.heap.size + 1, o, none⟩) (by go_simp)).trans (by go_simp)
  have hz := hb1.size
  simp at hz
  clear hb1 hn' hcell' hrow' hfr
  have hzB := hB.size
  have HB := Lib.hid hB
  clear hB
  by_cases h60 : n' ≤ 60
  · have hck : ¬ c' = 0 := by omega
    have hx : ¬ (0 : Int) < (n' : Int) - 60 := by omega
    go_wp2_with fail
    refine bodyPost_ret (by simp [results, Try.results10, go_sem, z0, z1, z2, z3, z4, z5, z6, z7, z8, z9, z10, z11]; try rfl) rfl ?_
    have hB := HB.out
    refine ⟨_, rfl, ?_, fun p hp h => by simp [Value.ownBlock] at h; omega, by go_grown⟩
    simp only [World.size_setCell]
    have hS1 := strs_all HN.out h60 hc1' hc2' HR.out
    repeat refine strs_set ?_ (by simp; omega)
    exact hS1
  · have hx : (0 : Int) < (n' : Int) - 60 := by omega
    go_wp2_with fail
    refine bodyPost_ret (by simp [results, Try.results10, go_sem, z0, z1, z2, z3, z4, z5, z6, z7, z8, z9, z10, z11]; try rfl) rfl ?_
    have hB := HB.out
    refine ⟨_, rfl, ?_, fun p hp h => by simp [Value.ownBlock] at h; omega, by go_grown⟩
    simp only [World.size_setCell]
    have hS1 := strs_last HN.out h60 hc1' hc2' HR.out
    repeat refine strs_set ?_ (by simp; omega)
    exact hS1

set_option maxHeartbeats 2000000 in
theorem core_12_2 (D0 D1 : Value) (ss : List ByteArray) (ch raw : ByteArray) (l0 l1 l2 l3 l4 l5 l6 l7 fair : Int) (w : World) (hr : raw.size ≤ 65536) (hch : ch.size ≤ 9223372036854775807)
    (hS : Strs w w.heap.size D1 ss) (hO : ∃ A n c, D0 = .slice A n c) (hl : ss.length ≤ 1000) (hL0 : 0 ≤ l6) (hL1 : l6 ≤ 1000) (hw : wayOf ch = 2) :
    Calls Try.prog 10 #[.agg #[D0, D1, .string ch, .int .i64 l0, .int .i64 l1, .int .i64 l2, .int .i64 l3, .int .i64 l4, .int .i64 l5, .int .i64 l6, .int .i64 l7, .int .i64 fair], .int .i64 1, .int .i64 2, .string raw] w (PostX w D1 (fun V => .agg #[D0, V, .string (restOf ch), .int .i64 l0, .int .i64 l1, .int .i64 l2, .int .i64 l3, .int .i64 l4, .int .i64 l5, .int .i64 0, .int .i64 l7, .int .i64 fair]) (last60 ([raw] ++ ss))) := by
  have hS0 := Lib.hid hS
  obtain ⟨A, c, rfl, hc1, hc2, hrow⟩ := hS
  obtain ⟨AO, nO, cO, rfl⟩ := hO
  have hw' := Lib.hid hw
  clear hw hrow
  go_enter Try.func10, Try.ntmps10
  go_wp2_with fail
  apply Calls.mono
  · exact choose_any _ ch _ hch (by simp) (by simp)
  rintro e w' ⟨rfl, rfl⟩
  rw [hw'.out]
  go_wp2_with fail
  apply Calls.mono
  · exact concat_two (.slice (some ⟨w.heap.size + 1 + 1, 0, none⟩) 1 1) (.slice A ss.length c) [raw] ss (w.heap.size + 1 + 1 + 1) _ (by go_simp) (by go_simp) (by go_simp) (by exact (Strs.new' _ [raw] _ 1 _ _ rfl rfl (by unfold maxLen; omega) (by simp)).alloc _) (by exact hS0.out.on (by go_grown)) (by simp) (by omega)
  rintro e w1 ⟨V, rfl, hV, hfr, hb1⟩
  obtain ⟨A', c', rfl, hc1', hc2', hrow'⟩ := hV
  obtain ⟨n', hn'⟩ : ∃ n', n' = ([raw] ++ ss).length := ⟨_, rfl⟩
  rw [← hn'] at hc1' ⊢
  have hn1 : 1 ≤ n' := by rw [hn']; simp; try omega
  have hn2 : n' ≤ 1100 := by rw [hn']; simp; omega
  obtain ⟨b', off', rfl, hb', hcell'⟩ := hrow'.at_ (by simp; try omega)
  have hfb : w.heap.size + 1 + 1 + 1 < b' := by have := hfr b' rfl; simp at this; omega
  have HN := Lib.hid hn'
  have HR := Lib.hid hrow'
  have hB : Below w.heap.size w w1 := bel (by go_grown) hb1
  have k0 : w1.cell? ⟨w.heap.size, 0, none⟩ = some (.slice AO nO cO) := (hb1.cell (p := ⟨w.heap.size, 0, none⟩) (by go_simp)).trans (by go_simp)
  have k1 : w1.cell? ⟨w.heap.size, 1, none⟩ = some (.slice A ss.length c) := (hb1.cell (p := ⟨w.heap.size, 1, none⟩) (by go_simp)).trans (by go_simp)
  have k2 : w1.cell? ⟨w.heap.size, 2, none⟩ = some (.string (restOf ch)) := (hb1.cell (p := ⟨w.heap.size, 2, none⟩) (by go_simp)).trans (by go_simp)
  have k3 : w1.cell? ⟨w.heap.size, 3, none⟩ = some (.int .i64 l0) := (hb1.cell (p := ⟨w.heap.size, 3, none⟩) (by go_simp)).trans (by go_simp)
  have k4 : w1.cell? ⟨w.heap.size, 4, none⟩ = some (.int .i64 l1) := (hb1.cell (p := ⟨w.heap.size, 4, none⟩) (by go_simp)).trans (by go_simp)
  have k5 : w1.cell? ⟨w.heap.size, 5, none⟩ = some (.int .i64 l2) := (hb1.cell (p := ⟨w.heap.size, 5, none⟩) (by go_simp)).trans (by go_simp)
  have k6 : w1.cell? ⟨w.heap.size, 6, none⟩ = some (.int .i64 l3) := (hb1.cell (p := ⟨w.heap.size, 6, none⟩) (by go_simp)).trans (by go_simp)
  have k7 : w1.cell? ⟨w.heap.size, 7, none⟩ = some (.int .i64 l4) := (hb1.cell (p := ⟨w.heap.size, 7, none⟩) (by go_simp)).trans (by go_simp)
  have k8 : w1.cell? ⟨w.heap.size, 8, none⟩ = some (.int .i64 l5) := (hb1.cell (p := ⟨w.heap.size, 8, none⟩) (by go_simp)).trans (by go_simp)
  have k9 : w1.cell? ⟨w.heap.size, 9, none⟩ = some (.int .i64 l6) := (hb1.cell (p := ⟨w.heap.size, 9, none⟩) (by go_simp)).trans (by go_simp)
  have k10 : w1.cell? ⟨w.heap.size, 10, none⟩ = some (.int .i64 l7) := (hb1.cell (p := ⟨w.heap.size, 10, none⟩) (by go_simp)).trans (by go_simp)
  have k11 : w1.cell? ⟨w.heap.size, 11, none⟩ = some (.int .i64 fair) := (hb1.cell (p := ⟨w.heap.size, 11, none⟩) (by go_simp)).trans (by go_simp)
  have z0 : w1.cell? ⟨w.heap.size + 1, 0, none⟩ = some (.slice none 0 0) := (hb1.cell (p := ⟨w.heap.size + 1, 0, none⟩) (by go_simp)).trans (by go_simp)
  have z1 : w1.cell? ⟨w.heap.size + 1, 1, none⟩ = some (.slice none 0 0) := (hb1.cell (p := ⟨w.heap.size + 1, 1, none⟩) (by go_simp)).trans (by go_simp)
  have z2 : w1.cell? ⟨w.heap.size + 1, 2, none⟩ = some (.string ⟨#[]⟩) := (hb1.cell (p := ⟨w.heap.size + 1, 2, none⟩) (by go_simp)).trans (by go_simp)
  have z3 : w1.cell? ⟨w.heap.size + 1, 3, none⟩ = some (.int .i64 0) := (hb1.cell (p := ⟨w.heap.size + 1, 3, none⟩) (by go_simp)).trans (by go_simp)
  have z4 : w1.cell? ⟨w.heap.size + 1, 4, none⟩ = some (.int .i64 0) := (hb1.cell (p := ⟨w.heap.size + 1, 4, none⟩) (by go_simp)).trans (by go_simp)
  have z5 : w1.cell? ⟨w.heap.size + 1, 5, none⟩ = some (.int .i64 0) := (hb1.cell (p := ⟨w.heap.size + 1, 5, none⟩) (by go_simp)).trans (by go_simp)
  have z6 : w1.cell? ⟨w.heap.size + 1, 6, none⟩ = some (.int .i64 0) := (hb1.cell (p := ⟨w.heap.size + 1, 6, none⟩) (by go_simp)).trans (by go_simp)
  have z7 : w1.cell? ⟨w.heap.size + 1, 7, none⟩ = some (.int .i64 0) := (hb1.cell (p := ⟨w.heap.size + 1, 7, none⟩) (by go_simp)).trans (by go_simp)
  have z8 : w1.cell? ⟨w.heap.size + 1, 8, none⟩ = some (.int .i64 0) := (hb1.cell (p := ⟨w.heap.size + 1, 8, none⟩) (by go_simp)).trans (by go_simp)
  have z9 : w1.cell? ⟨w.heap.size + 1, 9, none⟩ = some (.int .i64 0) := (hb1.cell (p := ⟨w.heap.size + 1, 9, none⟩) (by go_simp)).trans (by go_simp)
  have z10 : w1.cell? ⟨w.heap.size + 1, 10, none⟩ = some (.int .i64 0) := (hb1.cell (p := ⟨w.heap.size + 1, 10, none⟩) (by go_simp)).trans (by go_simp)
  have z11 : w1.cell? ⟨w.heap.size + 1, 11, none⟩ = some (.int .i64 0) := (hb1.cell (p := ⟨w.heap.size + 1, 11, none⟩) (by go_simp)).trans (by go_simp)
  have f0 : ∀ o, w1.frozen? ⟨w.heap.size, o, none⟩ = false := fun o => (hb1.frozen (p := ⟨w.heap.size, o, none⟩) (by go_simp)).trans (by go_simp)
  have f1 : ∀ o, w1.frozen? ⟨w.heap.size + 1, o, none⟩ = false := fun o => (hb1.frozen (p := ⟨w.heap.size + 1, o, none⟩) (by go_simp)).trans (by go_simp)
  have hz := hb1.size
  simp at hz
  clear hb1 hn' hcell' hrow' hfr
  have hzB := hB.size
  have HB := Lib.hid hB
  clear hB
  by_cases h60 : n' ≤ 60
  · have hck : ¬ c' = 0 := by omega
    have hx : ¬ (0 : Int) < (n' : Int) - 60 := by omega
    go_wp2_with fail
    refine bodyPost_ret (by simp [results, Try.results10, go_sem, z0, z1, z2, z3, z4, z5, z6, z7, z8, z9, z10, z11]; try rfl) rfl ?_
    have hB := HB.out
    refine ⟨_, rfl, ?_, fun p hp h => by simp [Value.ownBlock] at h; omega, by go_grown⟩
    simp only [World.size_setCell]
    have hS1 := strs_all HN.out h60 hc1' hc2' HR.out
    repeat refine strs_set ?_ (by simp; omega)
    exact hS1
  · have hx : (0 : Int) < (n' : Int) - 60 := by omega
    go_wp2_with fail
    refine bodyPost_ret (by simp [results, Try.results10, go_sem, z0, z1, z2, z3, z4, z5, z6, z7, z8, z9, z10, z11]; try rfl) rfl ?_
    have hB := HB.out
    refine ⟨_, rfl, ?_, fun p hp h => by simp [Value.ownBlock] at h; omega, by go_grown⟩
    simp only [World.size_setCell]
    have hS1 := strs_last HN.out h60 hc1' hc2' HR.out
    repeat refine strs_set ?_ (by simp; omega)
    exact hS1

set_option maxHeartbeats 2000000 in
theorem core_12_3 (D0 D1 : Value) (ss : List ByteArray) (ch raw : ByteArray) (l0 l1 l2 l3 l4 l5 l6 l7 fair : Int) (w : World) (hr : raw.size ≤ 65536) (hch : ch.size ≤ 9223372036854775807)
    (hS : Strs w w.heap.size D1 ss) (hO : ∃ A n c, D0 = .slice A n c) (hl : ss.length ≤ 1000) (hL0 : 0 ≤ l6) (hL1 : l6 ≤ 1000) (hw : wayOf ch = 3) :
    Calls Try.prog 10 #[.agg #[D0, D1, .string ch, .int .i64 l0, .int .i64 l1, .int .i64 l2, .int .i64 l3, .int .i64 l4, .int .i64 l5, .int .i64 l6, .int .i64 l7, .int .i64 fair], .int .i64 1, .int .i64 2, .string raw] w (PostX w D1 (fun V => .agg #[D0, V, .string (restOf ch), .int .i64 l0, .int .i64 l1, .int .i64 l2, .int .i64 l3, .int .i64 l4, .int .i64 l5, .int .i64 0, .int .i64 l7, .int .i64 fair]) (last60 (ss ++ [raw, raw]))) := by
  have hS0 := Lib.hid hS
  obtain ⟨A, c, rfl, hc1, hc2, hrow⟩ := hS
  obtain ⟨AO, nO, cO, rfl⟩ := hO
  have hw' := Lib.hid hw
  clear hw hrow
  go_enter Try.func10, Try.ntmps10
  go_wp2_with fail
  apply Calls.mono
  · exact choose_any _ ch _ hch (by simp) (by simp)
  rintro e w' ⟨rfl, rfl⟩
  rw [hw'.out]
  go_wp2_with fail
  apply Calls.mono
  · exact concat_two (.slice A ss.length c) (.slice (some ⟨w.heap.size + 1 + 1, 0, none⟩) 2 2) ss [raw, raw] (w.heap.size + 1 + 1 + 1) _ (by go_simp) (by go_simp) (by go_simp) (by exact hS0.out.on (by go_grown)) (by exact (Strs.new' _ [raw, raw] _ 2 _ _ rfl rfl (by unfold maxLen; omega) (by simp)).alloc _) (by omega) (by simp)
  rintro e w1 ⟨V, rfl, hV, hfr, hb1⟩
  obtain ⟨A', c', rfl, hc1', hc2', hrow'⟩ := hV
  obtain ⟨n', hn'⟩ : ∃ n', n' = (ss ++ [raw, raw]).length := ⟨_, rfl⟩
  rw [← hn'] at hc1' ⊢
  have hn1 : 1 ≤ n' := by rw [hn']; simp; try omega
  have hn2 : n' ≤ 1100 := by rw [hn']; simp; omega
  obtain ⟨b', off', rfl, hb', hcell'⟩ := hrow'.at_ (by simp; try omega)
  have hfb : w.heap.size + 1 + 1 + 1 < b' := by have := hfr b' rfl; simp at this; omega
  have HN := Lib.hid hn'
  have HR := Lib.hid hrow'
  have hB : Below w.heap.size w w1 := bel (by go_grown) hb1
  have k0 : w1.cell? ⟨w.heap.size, 0, none⟩ = some (.slice AO nO cO) := (hb1.cell (p := ⟨w.heap.size, 0, none⟩) (by go_simp)).trans (by go_simp)
  have k1 : w1.cell? ⟨w.heap.size, 1, none⟩ = some (.slice A ss.length c) := (hb1.cell (p := ⟨w.heap.size, 1, none⟩) (by go_simp)).trans (by go_simp)
  have k2 : w1.cell? ⟨w.heap.size, 2, none⟩ = some (.string (restOf ch)) := (hb1.cell (p := ⟨w.heap.size, 2, none⟩) (by go_simp)).trans (by go_simp)
  have k3 : w1.cell? ⟨w.heap.size, 3, none⟩ = some (.int .i64 l0) := (hb1.cell (p := ⟨w.heap.size, 3, none⟩) (by go_simp)).trans (by go_simp)
  have k4 : w1.cell? ⟨w.heap.size, 4, none⟩ = some (.int .i64 l1) := (hb1.cell (p := ⟨w.heap.size, 4, none⟩) (by go_simp)).trans (by go_simp)
  have k5 : w1.cell? ⟨w.heap.size, 5, none⟩ = some (.int .i64 l2) := (hb1.cell (p := ⟨w.heap.size, 5, none⟩) (by go_simp)).trans (by go_simp)
  have k6 : w1.cell? ⟨w.heap.size, 6, none⟩ = some (.int .i64 l3) := (hb1.cell (p := ⟨w.heap.size, 6, none⟩) (by go_simp)).trans (by go_simp)
  have k7 : w1.cell? ⟨w.heap.size, 7, none⟩ = some (.int .i64 l4) := (hb1.cell (p := ⟨w.heap.size, 7, none⟩) (by go_simp)).trans (by go_simp)
  have k8 : w1.cell? ⟨w.heap.size, 8, none⟩ = some (.int .i64 l5) := (hb1.cell (p := ⟨w.heap.size, 8, none⟩) (by go_simp)).trans (by go_simp)
  have k9 : w1.cell? ⟨w.heap.size, 9, none⟩ = some (.int .i64 l6) := (hb1.cell (p := ⟨w.heap.size, 9, none⟩) (by go_simp)).trans (by go_simp)
  have k10 : w1.cell? ⟨w.heap.size, 10, none⟩ = some (.int .i64 l7) := (hb1.cell (p := ⟨w.heap.size, 10, none⟩) (by go_simp)).trans (by go_simp)
  have k11 : w1.cell? ⟨w.heap.size, 11, none⟩ = some (.int .i64 fair) := (hb1.cell (p := ⟨w.heap.size, 11, none⟩) (by go_simp)).trans (by go_simp)
  have z0 : w1.cell? ⟨w.heap.size + 1, 0, none⟩ = some (.slice none 0 0) := (hb1.cell (p := ⟨w.heap.size + 1, 0, none⟩) (by go_simp)).trans (by go_simp)
  have z1 : w1.cell? ⟨w.heap.size + 1, 1, none⟩ = some (.slice none 0 0) := (hb1.cell (p := ⟨w.heap.size + 1, 1, none⟩) (by go_simp)).trans (by go_simp)
  have z2 : w1.cell? ⟨w.heap.size + 1, 2, none⟩ = some (.string ⟨#[]⟩) := (hb1.cell (p := ⟨w.heap.size + 1, 2, none⟩) (by go_simp)).trans (by go_simp)
  have z3 : w1.cell? ⟨w.heap.size + 1, 3, none⟩ = some (.int .i64 0) := (hb1.cell (p := ⟨w.heap.size + 1, 3, none⟩) (by go_simp)).trans (by go_simp)
  have z4 : w1.cell? ⟨w.heap.size + 1, 4, none⟩ = some (.int .i64 0) := (hb1.cell (p := ⟨w.heap.size + 1, 4, none⟩) (by go_simp)).trans (by go_simp)
  have z5 : w1.cell? ⟨w.heap.size + 1, 5, none⟩ = some (.int .i64 0) := (hb1.cell (p := ⟨w.heap.size + 1, 5, none⟩) (by go_simp)).trans (by go_simp)
  have z6 : w1.cell? ⟨w.heap.size + 1, 6, none⟩ = some (.int .i64 0) := (hb1.cell (p := ⟨w.heap.size + 1, 6, none⟩) (by go_simp)).trans (by go_simp)
  have z7 : w1.cell? ⟨w.heap.size + 1, 7, none⟩ = some (.int .i64 0) := (hb1.cell (p := ⟨w.heap.size + 1, 7, none⟩) (by go_simp)).trans (by go_simp)
  have z8 : w1.cell? ⟨w.heap.size + 1, 8, none⟩ = some (.int .i64 0) := (hb1.cell (p := ⟨w.heap.size + 1, 8, none⟩) (by go_simp)).trans (by go_simp)
  have z9 : w1.cell? ⟨w.heap.size + 1, 9, none⟩ = some (.int .i64 0) := (hb1.cell (p := ⟨w.heap.size + 1, 9, none⟩) (by go_simp)).trans (by go_simp)
  have z10 : w1.cell? ⟨w.heap.size + 1, 10, none⟩ = some (.int .i64 0) := (hb1.cell (p := ⟨w.heap.size + 1, 10, none⟩) (by go_simp)).trans (by go_simp)
  have z11 : w1.cell? ⟨w.heap.size + 1, 11, none⟩ = some (.int .i64 0) := (hb1.cell (p := ⟨w.heap.size + 1, 11, none⟩) (by go_simp)).trans (by go_simp)
  have f0 : ∀ o, w1.frozen? ⟨w.heap.size, o, none⟩ = false := fun o => (hb1.frozen (p := ⟨w.heap.size, o, none⟩) (by go_simp)).trans (by go_simp)
  have f1 : ∀ o, w1.frozen? ⟨w.heap.size + 1, o, none⟩ = false := fun o => (hb1.frozen (p := ⟨w.heap.size + 1, o, none⟩) (by go_simp)).trans (by go_simp)
  have hz := hb1.size
  simp at hz
  clear hb1 hn' hcell' hrow' hfr
  have hzB := hB.size
  have HB := Lib.hid hB
  clear hB
  by_cases h60 : n' ≤ 60
  · have hck : ¬ c' = 0 := by omega
    have hx : ¬ (0 : Int) < (n' : Int) - 60 := by omega
    go_wp2_with fail
    refine bodyPost_ret (by simp [results, Try.results10, go_sem, z0, z1, z2, z3, z4, z5, z6, z7, z8, z9, z10, z11]; try rfl) rfl ?_
    have hB := HB.out
    refine ⟨_, rfl, ?_, fun p hp h => by simp [Value.ownBlock] at h; omega, by go_grown⟩
    simp only [World.size_setCell]
    have hS1 := strs_all HN.out h60 hc1' hc2' HR.out
    repeat refine strs_set ?_ (by simp; omega)
    exact hS1
  · have hx : (0 : Int) < (n' : Int) - 60 := by omega
    go_wp2_with fail
    refine bodyPost_ret (by simp [results, Try.results10, go_sem, z0, z1, z2, z3, z4, z5, z6, z7, z8, z9, z10, z11]; try rfl) rfl ?_
    have hB := HB.out
    refine ⟨_, rfl, ?_, fun p hp h => by simp [Value.ownBlock] at h; omega, by go_grown⟩
    simp only [World.size_setCell]
    have hS1 := strs_last HN.out h60 hc1' hc2' HR.out
    repeat refine strs_set ?_ (by simp; omega)
    exact hS1

end Go.Proofs.Ytgllojpeggmleaa
