/-
  All slots of an index's bytes.
-/
import Derived.Test.YtjjenpklcbpkmaaIVw
import Derived.Test.YtjjenpklcbpkmaaApp
namespace Go.Proofs.Ytjjenpklcbpkmaa
open Go.RowKit Go.Proofs.Mem
set_option linter.unusedVariables false

theorem info_slot : (Try.prog.info? 34).map (fun i => (i.zero, i.size, i.bytes)) = some (some (.agg #[.string ⟨#[]⟩, .int .i64 0, .int .i64 0]), 3, 32) := by kernel_rfl

/-- A row of slots of the call's own. -/
def OwnS (w : World) (B : Nat) (v : Value) (l : List Slt) : Prop := w.ownsRow B 34 3 v l.length (cellsL l)
theorem own_below {B : Nat} {v : Value} {l : List Slt} {w w' : World} (h : OwnS w B v l) (hb : Below w.heap.size w w') : OwnS w' B v l :=
  World.ownsRow.kept (row := none) h ⟨hb.os, hb.tape, hb.output, hb.size, fun k hk _ => hb.block k hk⟩ (Classical.em _)
theorem slots_of_own {w : World} {B : Nat} {v : Value} {l : List Slt} (h : OwnS w B v l) : Slots w w.heap.size v l := by
  rcases h.2 with ⟨rfl, h0⟩ | ⟨g, cap, cur, rfl, hb, hh, hle, hm, hsz, hx⟩
  · have : l = [] := List.eq_nil_of_length_eq_zero h0
    subst this
    exact Slots.nil
  · refine ⟨_, cap, rfl, hle, hm, .inr ⟨g, 0, rfl, ?_, ?_⟩⟩
    · rcases Nat.lt_or_ge g w.heap.size with hl | hl
      · exact hl
      · rw [Array.getElem?_eq_none hl] at hh; cases hh
    · intro j v hj
      rw [Nat.zero_add, cell_of_row _ _ j cur _ (0, 0) hh]
      rw [← hx, List.getElem?_take] at hj
      split at hj
      · simpa using hj
      · cases hj
theorem own_shape {w : World} {B : Nat} {v : Value} {l : List Slt} (h : OwnS w B v l) : ∃ A c, v = .slice A l.length c := by
  rcases h.2 with ⟨rfl, h0⟩ | ⟨g, cap, cur, rfl, _⟩
  · exact ⟨none, 0, by rw [h0]⟩
  · exact ⟨_, cap, rfl⟩
theorem cellsL_snoc (l : List Slt) (x : Slt) : cellsL (l ++ [x]) = cellsL l ++ x.cells := by
  unfold cellsL
  rw [List.flatMap_append]
  simp

theorem alloc_cells (w : World) (l : List Value) (e : TypeId) {j : Nat} {u : Value} (hj : l[j]? = some u) : (w.alloc (.cells l.toArray e)).cell? ((⟨w.heap.size, 0, none⟩ : Addr).add j) = some u := by
  have ha : (⟨w.heap.size, 0, none⟩ : Addr).add j = ⟨w.heap.size, j, none⟩ := by cases j <;> simp [Addr.add]
  rw [ha, cell_of_row _ _ j _ _ (0, 0) (heap_alloc_new w _), List.getElem?_toArray]
  exact hj
theorem cells_one (x : Slt) : ∀ u ∈ x.cells, u.oneCell' = true := by
  intro u hu
  unfold Slt.cells at hu
  simp only [List.mem_cons, List.not_mem_nil, or_false] at hu
  rcases hu with rfl | rfl | rfl <;> rfl

set_option maxHeartbeats 1000000 in
theorem all_any (s : ByteArray) (w : World) (h : 1032 ≤ s.size) (hs : s.size ≤ 1000000) :
    Calls Try.prog 24 #[.string s] w fun e w' => ∃ D, e = .returned D ∧ OwnS w' w.heap.size D (slotsOf s) ∧ Below w.heap.size w w' := by
  obtain ⟨i0, hi, hz0, hz1, hz2⟩ := info_parts info_slot
  have HSZ := Lib.hid (fun W => vsize_any s W h (by omega))
  have hcl : countV s ≤ 100000 := by unfold countV; omega
  have HO0 : Hid (OwnS w w.heap.size (.slice none 0 0) (slotsN s 0)) := Lib.hid (World.ownsRow_nil _ _ _ _)
  obtain ⟨n, hn⟩ : ∃ n, n = countV s := ⟨_, rfl⟩
  have HVS := Lib.hid (fun i (hi : i < n) W => vslot_any s i W (by have := count_at (i := i) h (by omega); omega) hs)
  have HN := Lib.hid hn
  rw [← hn] at HSZ hcl
  have HS := Lib.hid hs
  have HH := Lib.hid h
  clear hn hs h
  go_enter Try.func24, Try.ntmps24
  go_wp2_with (go_at_call 38; refine Calls.mono (HSZ.out _) ?_; rintro e w1 ⟨rfl, rfl⟩)
  go_loopw [3, 4, 7] (fun D _ q wr => ∃ k : Nat, q = .int .i64 k ∧ k ≤ n ∧ Hid (OwnS wr w1.heap.size D (slotsN s k)) ∧ Hid (Below w1.heap.size w1 wr)) (fun _ _ q _ => n + 1 - (intOf q).toNat)
  case atStart => exact ⟨0, rfl, Nat.zero_le _, HO0, Lib.hid (Below.refl _ _)⟩
  case round =>
    obtain ⟨k, rfl, hk, hO, hB⟩ := hrel
    by_cases hlt : k < n
    · have k1 : (k : Int) < (n : Int) := by omega
      have hks : k + 1 ≤ 100001 := by omega
      go_wp2_with (first
        | (go_at_call 40
           refine Calls.mono (HVS.out k hlt _) ?_
           rintro e w2 ⟨rfl, hB2⟩
           have HO2 := Lib.hid (own_below hO.out hB2)
           have HB2 := Lib.hid (bel hB.out hB2)
           have hbs := HB2.out.size
           clear hB2)
        | (at_builtin
           refine wpList_append_own _ rfl _ _ 22 rfl w1.heap.size 34 i0 (.agg #[.string ⟨#[]⟩, .int .i64 0, .int .i64 0]) 3 32 Try.underlying22 hi hz0 hz1 hz2 rfl (by decide) _ _ _ rfl (World.ownsRow.alloc HO2.out _) ⟨w2.heap.size, 0, none⟩ 1 1 (slotAt s (1028 + k * 40)).cells rfl rfl ?c1 ?c2 ?c3 ?c4 ?c5 ?_
           case c1 => exact fun j u hj => alloc_cells w2 _ _ hj
           case c2 => exact cells_one _
           case c3 => rw [slotsN_len]; unfold maxLen; omega
           case c4 => rw [slotsN_len]; omega
           case c5 => simp; omega
           intro D2 w3 hown3 hgrow3 _
           have HO3 : Hid (OwnS w3 w1.heap.size D2 (slotsN s (k + 1))) := Lib.hid (by
             unfold OwnS
             rw [slotsN_succ, cellsL_snoc, List.length_append]
             exact hown3)
           have HB3 := Lib.hid ((HB2.out.alloc hbs (.cells #[.string (s.extract (1028 + k * 40) (1028 + k * 40 + 32)), .int .i64 (numAt s (1028 + k * 40 + 32) : Nat), .int .i64 (numAt s (1028 + k * 40 + 36) : Nat)] 34)).grown hgrow3 (by simp; omega) (fun q hq => (HO2.out.lt q hq).1))
           clear hown3 hgrow3))
      go_roundw
      case rel => exact ⟨k + 1, by go_num, by omega, HO3, HB3⟩
      case measure => simp [intOf]; omega
    · obtain rfl : k = n := by omega
      go_wp2_with fail
      go_ret
      refine ⟨_, rfl, ?_, hB.out⟩
      unfold slotsOf
      rw [← HN.out]
      exact hO.out

end Go.Proofs.Ytjjenpklcbpkmaa
