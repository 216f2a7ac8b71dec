/-
  THE WALKS OF net.Pull: each side, nothing under way, or something.
-/
import Derived.Test.YtgllojpeggmleaaChoose
import Derived.RegionTactic
import Derived.ChangeAlike
namespace Go.Proofs.Ytgllojpeggmleaa
open Go.RowKit Go.Proofs.Mem
set_option linter.unusedVariables false

theorem strs_tail {w : World} {B b off c n : Nat} {x : ByteArray} {ss : List ByteArray} (hn : n = ss.length + 1) (hc : n ≤ c) (hm : c ≤ maxLen) (h : Row w B (some ⟨b, off, none⟩) ((x :: ss).map .string)) :
    Strs w B (.slice (if c = 1 then some ⟨b, off, none⟩ else some ⟨b, off + 1, none⟩) (n - 1) (c - 1)) ss := by
  have h1 := strs_cut (k := 1) (n := n) (ss := x :: ss) (by simpa using hn) (by omega) hc hm h
  have e : Option.map (fun x : Addr => x.add 1) (some ⟨b, off, none⟩) = some ⟨b, off + 1, none⟩ := by simp [Addr.add]
  rw [e] at h1
  simpa using h1

set_option maxHeartbeats 2000000 in
theorem pull0_0 (D0 D1 : Value) (ch : ByteArray) (l0 l1 l2 l3 l4 l5 l6 l7 fair : Int) (w : World) (hS : Strs w w.heap.size D0 []) (hO : ∃ A n c, D1 = .slice A n c) :
    Calls Try.prog 11 #[.agg #[D0, D1, .string ch, .int .i64 l0, .int .i64 l1, .int .i64 l2, .int .i64 l3, .int .i64 l4, .int .i64 l5, .int .i64 l6, .int .i64 l7, .int .i64 fair], .int .i64 0] w (PostX w D0 (fun V => .tuple #[.agg #[V, D1, .string ch, .int .i64 l0, .int .i64 l1, .int .i64 l2, .int .i64 l3, .int .i64 l4, .int .i64 l5, .int .i64 l6, .int .i64 l7, .int .i64 fair], .string ⟨#[]⟩, .bool false]) []) := by
  have hS0 := Lib.hid hS
  obtain ⟨A, c, rfl, hc1, hc2, hrow⟩ := hS
  obtain ⟨AO, nO, cO, rfl⟩ := hO
  clear hrow
  simp only [List.length_nil] at hS0 ⊢
  go_enter Try.func11, Try.ntmps11
  go_wp2_with fail
  refine bodyPost_ret (by simp [results, Try.results11, go_sem]; try rfl) rfl ?_
  exact ⟨_, rfl, hS0.out.on (by go_grown), fun p _ h => h, by go_grown⟩

set_option maxHeartbeats 2000000 in
theorem pull1_0 (D0 D1 : Value) (x : ByteArray) (ss : List ByteArray) (ch : ByteArray) (l0 l1 l2 l3 l4 l5 l6 l7 fair : Int) (w : World) (hS : Strs w w.heap.size D0 (x :: ss)) (hO : ∃ A n c, D1 = .slice A n c) (hl : ss.length ≤ 1000) :
    Calls Try.prog 11 #[.agg #[D0, D1, .string ch, .int .i64 l0, .int .i64 l1, .int .i64 l2, .int .i64 l3, .int .i64 l4, .int .i64 l5, .int .i64 l6, .int .i64 l7, .int .i64 fair], .int .i64 0] w (PostX w D0 (fun V => .tuple #[.agg #[V, D1, .string ch, .int .i64 l0, .int .i64 l1, .int .i64 l2, .int .i64 l3, .int .i64 l4, .int .i64 l5, .int .i64 l6, .int .i64 l7, .int .i64 fair], .string x, .bool true]) ss) := by
  obtain ⟨A, c, rfl, hc1, hc2, hrow⟩ := hS
  obtain ⟨AO, nO, cO, rfl⟩ := hO
  obtain ⟨b, off, rfl, hb, hcell⟩ := hrow.at_ (by simp)
  have hx := hcell 0 _ (by simp; rfl)
  rw [Nat.add_zero] at hx
  obtain ⟨n, hn⟩ : ∃ n, n = (x :: ss).length := ⟨_, rfl⟩
  rw [← hn] at hc1 ⊢
  have hn1 : 1 ≤ n := by rw [hn]; simp
  have hn2 : n ≤ 1001 := by rw [hn]; simp; omega
  have hne : ((n : Int) == 0) = false := by simp; omega
  have hp : (0 : Int) < n := by omega
  have HN := Lib.hid hn
  have HR := Lib.hid hrow
  clear hn hrow hcell
  by_cases hc : c = 1
  all_goals
    have HC := Lib.hid hc
    go_enter Try.func11, Try.ntmps11
    go_wp2_with fail
    refine bodyPost_ret (by simp [results, Try.results11, go_sem]; try rfl) rfl ?_
    refine ⟨_, rfl, ?_, fun p _ h => by simpa [Value.ownBlock] using h, by go_grown⟩
    have h1 := strs_tail HN.out hc1 hc2 HR.out
    first | rw [if_pos HC.out] at h1 | rw [if_neg HC.out] at h1
    first | exact (h1.below (by go_grown)).more (by go_size) | (rw [HC.out] at h1; exact (h1.below (by go_grown)).more (by go_size))

set_option maxHeartbeats 2000000 in
theorem pull0_1 (D0 D1 : Value) (ch : ByteArray) (l0 l1 l2 l3 l4 l5 l6 l7 fair : Int) (w : World) (hS : Strs w w.heap.size D1 []) (hO : ∃ A n c, D0 = .slice A n c) :
    Calls Try.prog 11 #[.agg #[D0, D1, .string ch, .int .i64 l0, .int .i64 l1, .int .i64 l2, .int .i64 l3, .int .i64 l4, .int .i64 l5, .int .i64 l6, .int .i64 l7, .int .i64 fair], .int .i64 1] w (PostX w D1 (fun V => .tuple #[.agg #[D0, V, .string ch, .int .i64 l0, .int .i64 l1, .int .i64 l2, .int .i64 l3, .int .i64 l4, .int .i64 l5, .int .i64 l6, .int .i64 l7, .int .i64 fair], .string ⟨#[]⟩, .bool false]) []) := by
  have hS0 := Lib.hid hS
  obtain ⟨A, c, rfl, hc1, hc2, hrow⟩ := hS
  obtain ⟨AO, nO, cO, rfl⟩ := hO
  clear hrow
  simp only [List.length_nil] at hS0 ⊢
  go_enter Try.func11, Try.ntmps11
  go_wp2_with fail
  refine bodyPost_ret (by simp [results, Try.results11, go_sem]; try rfl) rfl ?_
  exact ⟨_, rfl, hS0.out.on (by go_grown), fun p _ h => h, by go_grown⟩

set_option maxHeartbeats 2000000 in
theorem pull1_1 (D0 D1 : Value) (x : ByteArray) (ss : List ByteArray) (ch : ByteArray) (l0 l1 l2 l3 l4 l5 l6 l7 fair : Int) (w : World) (hS : Strs w w.heap.size D1 (x :: ss)) (hO : ∃ A n c, D0 = .slice A n c) (hl : ss.length ≤ 1000) :
    Calls Try.prog 11 #[.agg #[D0, D1, .string ch, .int .i64 l0, .int .i64 l1, .int .i64 l2, .int .i64 l3, .int .i64 l4, .int .i64 l5, .int .i64 l6, .int .i64 l7, .int .i64 fair], .int .i64 1] w (PostX w D1 (fun V => .tuple #[.agg #[D0, V, .string ch, .int .i64 l0, .int .i64 l1, .int .i64 l2, .int .i64 l3, .int .i64 l4, .int .i64 l5, .int .i64 l6, .int .i64 l7, .int .i64 fair], .string x, .bool true]) ss) := by
  obtain ⟨A, c, rfl, hc1, hc2, hrow⟩ := hS
  obtain ⟨AO, nO, cO, rfl⟩ := hO
  obtain ⟨b, off, rfl, hb, hcell⟩ := hrow.at_ (by simp)
  have hx := hcell 0 _ (by simp; rfl)
  rw [Nat.add_zero] at hx
  obtain ⟨n, hn⟩ : ∃ n, n = (x :: ss).length := ⟨_, rfl⟩
  rw [← hn] at hc1 ⊢
  have hn1 : 1 ≤ n := by rw [hn]; simp
  have hn2 : n ≤ 1001 := by rw [hn]; simp; omega
  have hne : ((n : Int) == 0) = false := by simp; omega
  have hp : (0 : Int) < n := by omega
  have HN := Lib.hid hn
  have HR := Lib.hid hrow
  clear hn hrow hcell
  by_cases hc : c = 1
  all_goals
    have HC := Lib.hid hc
    go_enter Try.func11, Try.ntmps11
    go_wp2_with fail
    refine bodyPost_ret (by simp [results, Try.results11, go_sem]; try rfl) rfl ?_
    refine ⟨_, rfl, ?_, fun p _ h => by simpa [Value.ownBlock] using h, by go_grown⟩
    have h1 := strs_tail HN.out hc1 hc2 HR.out
    first | rw [if_pos HC.out] at h1 | rw [if_neg HC.out] at h1
    first | exact (h1.below (by go_grown)).more (by go_size) | (rw [HC.out] at h1; exact (h1.below (by go_grown)).more (by go_size))

end Go.Proofs.Ytgllojpeggmleaa
