/-
  The walk of GearLast.
-/
import Derived.Test.YtbbopmhbbaapfaaLawA
import Derived.Laws.BytesArg
namespace Go.Proofs.Ytbbopmhbbaapfaa
open Go.RowKit Go.Proofs.Gear

theorem last_hash (a s : ByteArray) (h : s.size = 64) : ghash (a ++ s).data.toList = ghash s.data.toList := by
  have e : (a ++ s).data.toList = a.data.toList ++ s.data.toList := by simp
  rw [e]
  exact ghash_last _ _ (by rw [← h]; simp)

theorem last_walk (a b : ByteArray) (ha : a.size ≤ 9223372036854775807) (hb : b.size ≤ 9223372036854775807) (cs : Array Value) (xs : List Int) (hn : xs.length = 64)
    (hx : ∀ i, i < 64 → cs[i]? = some (.int .u8 (xs.getD i 0))) (w : World) :
    Calls Try.prog 4 #[.string a, .string b, .agg cs] w fun e w' => e = .returned (.bool true) ∧ Below w.heap.size w w' := by
  have hB0 : Below w.heap.size w (w.alloc (.cells cs 28)) := (Below.refl _ _).alloc (Nat.le_refl _) _
  by_cases hl : 1000 < a.size
  · go_enter Try.func4, Try.ntmps4
    go_wp2_with (go_at_call 7; refine (awake_any _).mono ?_; rintro e w' ⟨rfl, hb1⟩)
    go_ret
    exact ⟨rfl, bel hB0 hb1⟩
  by_cases hl2 : 1000 < b.size
  · go_enter Try.func4, Try.ntmps4
    go_wp2_with (go_at_call 7; refine (awake_any _).mono ?_; rintro e w' ⟨rfl, hb1⟩)
    go_ret
    exact ⟨rfl, bel hB0 hb1⟩
  have hconv := run_convert_bytes_arg (P := Try.prog) (w.alloc (.cells cs 28)) 29 5 Try.underlying29 Try.underlying5 w.heap.size 0 64 64 xs hn (by
    intro i hi
    have hh : (w.alloc (.cells cs 28)).heap[w.heap.size]? = some (.cells cs 28) := heap_alloc_new w _
    rw [Nat.zero_add, cell_of_row _ _ i cs 28 (0, 0) hh]
    exact hx i hi) 9 Try.underlying9
  have hS : (strOfNums xs).size = 64 := by rw [strOfNums_size, hn]
  obtain ⟨s, hs⟩ : ∃ s, s = strOfNums xs := ⟨_, rfl⟩
  rw [← hs] at hconv hS
  clear hs hx
  have h1 := last_hash a s hS
  have h2 := last_hash b s hS
  have hza : (a ++ s).size ≤ 9223372036854775807 := by rw [ByteArray.size_append]; omega
  have hzb : (b ++ s).size ≤ 9223372036854775807 := by rw [ByteArray.size_append]; omega
  have hzs : s.size ≤ 9223372036854775807 := by omega
  have hz64 : s.size ≤ 64 := by omega
  have H1 := Lib.hid h1
  have H2 := Lib.hid h2
  clear h1 h2 hS
  go_enter Try.func4, Try.ntmps4
  go_wp2_with fail
  refine (hash_as (a ++ s) _ hza H1.out _).mono ?_
  rintro e w1 ⟨rfl, hb1⟩
  go_wp2_with fail
  refine (hash_as (b ++ s) _ hzb H2.out _).mono ?_
  rintro e w2 ⟨rfl, hb2⟩
  go_wp2_with fail
  refine (hash_as (a ++ s) _ hza H1.out _).mono ?_
  rintro e w3 ⟨rfl, hb3⟩
  go_wp2_with fail
  refine (hash_any s hzs _).mono ?_
  rintro e w4 ⟨rfl, hb4⟩
  go_wp2_with fail
  refine (awake_any _).mono ?_
  rintro e w5 ⟨rfl, hb5⟩
  go_wp2_with fail
  go_ret
  exact ⟨rfl, bel (bel (bel (bel (bel hB0 hb1) hb2) hb3) hb4) hb5⟩

end Go.Proofs.Ytbbopmhbbaapfaa
