/-
  ContainsFunc with badKey and with badObject; several.
-/
import Derived.Test.YthlajcohbpjgkaaDoorMEqu
namespace Go.Proofs.YthlajcohbpjgkaaDoor
open Go.RowKit Go.Shelf Go.Proofs.Mem
set_option linter.unusedVariables false

def badK (k : ByteArray) : Bool := decide (k.size ≠ 32)
def badO (x : ObjL) : Bool := decide (x.1.size ≠ 32 ∨ 40000 < x.2.size)

set_option maxHeartbeats 1000000 in
theorem badk_any (s : ByteArray) (w : World) (b : Bool) (hb : badK s = b) :
    Calls Tryd.prog 32 #[.string s] w fun e w' => e = .returned (.bool b) ∧ w' = w := by
  by_cases h : s.size = 32
  · have e1 : ((s.size : Int) == 32) = true := by rw [beq_iff_eq]; omega
    have e2 : ((s.size : Int) != 32) = false := by rw [bne, e1]; rfl
    obtain rfl : b = false := by rw [← hb]; unfold badK; exact decide_eq_false (fun h' => h' h)
    clear h hb
    go_enter Tryd.func32, Tryd.ntmps32
    go_wp2_with fail
    go_ret
    exact ⟨rfl, rfl⟩
  · have e1 : ((s.size : Int) == 32) = false := by rw [beq_eq_false_iff_ne]; omega
    have e2 : ((s.size : Int) != 32) = true := by rw [bne, e1]; rfl
    obtain rfl : b = true := by rw [← hb]; unfold badK; exact decide_eq_true h
    clear h hb
    go_enter Tryd.func32, Tryd.ntmps32
    go_wp2_with fail
    go_ret
    exact ⟨rfl, rfl⟩

set_option maxHeartbeats 1000000 in
theorem bado_any (k r : ByteArray) (w : World) (b : Bool) (hb : badO (k, r) = b) :
    Calls Tryd.prog 36 #[.agg #[.string k, .string r]] w fun e w' => e = .returned (.bool b) ∧ Below w.heap.size w w' := by
  by_cases h : k.size = 32
  · have e0 : badK k = false := by unfold badK; exact decide_eq_false (fun h' => h' h)
    by_cases h2 : 40000 < r.size
    · have d1 : decide (40000 < (r.size : Int)) = true := decide_eq_true (by omega)
      have d2 : decide (40000 < r.size) = true := decide_eq_true h2
      obtain rfl : b = true := by rw [← hb]; unfold badO; exact decide_eq_true (.inr h2)
      clear h hb h2
      go_enter Tryd.func36, Tryd.ntmps36
      go_wp2_with (go_at_call 32; refine (badk_any _ _ _ e0).mono ?_; rintro e w1 ⟨rfl, rfl⟩)
      go_ret
      exact ⟨rfl, by go_grown⟩
    · have d1 : decide (40000 < (r.size : Int)) = false := decide_eq_false (by omega)
      have d2 : decide (40000 < r.size) = false := decide_eq_false h2
      obtain rfl : b = false := by rw [← hb]; unfold badO; exact decide_eq_false (fun h' => by rcases h' with h' | h'; exact h' h; exact h2 h')
      clear h hb h2
      go_enter Tryd.func36, Tryd.ntmps36
      go_wp2_with (go_at_call 32; refine (badk_any _ _ _ e0).mono ?_; rintro e w1 ⟨rfl, rfl⟩)
      go_ret
      exact ⟨rfl, by go_grown⟩
  · have e0 : badK k = true := by unfold badK; exact decide_eq_true h
    obtain rfl : b = true := by rw [← hb]; unfold badO; exact decide_eq_true (.inl h)
    clear h hb
    go_enter Tryd.func36, Tryd.ntmps36
    go_wp2_with (go_at_call 32; refine (badk_any _ _ _ e0).mono ?_; rintro e w1 ⟨rfl, rfl⟩)
    go_ret
    exact ⟨rfl, by go_grown⟩

theorem any_take {α : Type} {l : List α} {p : α → Bool} {k : Nat} {x : α} (h : ∀ y ∈ l.take k, p y = false) (hx : l[k]? = some x) (hp : p x = false) : ∀ y ∈ l.take (k + 1), p y = false := by
  intro y hy
  rw [List.take_add_one, hx] at hy
  rcases List.mem_append.1 hy with h' | h'
  · exact h y h'
  · rw [List.mem_singleton.1 h']; exact hp
theorem any_none {α : Type} {l : List α} {p : α → Bool} {n : Nat} (h : ∀ y ∈ l.take n, p y = false) (hn : n = l.length) : l.any p = false := by
  rw [List.any_eq_false]
  intro x hx
  rw [h x (by rw [List.take_of_length_le (by omega)]; exact hx)]
  decide
theorem any_some {α : Type} {l : List α} {p : α → Bool} {k : Nat} {x : α} (hx : l[k]? = some x) (hp : p x = true) : l.any p = true := by
  rw [List.any_eq_true]
  exact ⟨x, List.mem_of_getElem? hx, hp⟩

set_option maxHeartbeats 1000000 in
theorem idxk_any (u : Value) (l : List ByteArray) (w : World) (hl : Strs w w.heap.size u l) :
    Calls Tryd.prog 53 #[u, .func (.func 32) #[] #[]] w fun e w' => ∃ i : Int, e = .returned (.int .i64 i) ∧ decide (0 ≤ i) = l.any badK ∧ w' = w := by
  obtain ⟨A1, c1, rfl, a1, b1, r1⟩ := hl
  have hz1 : l.length ≤ 9223372036854775807 := by unfold maxLen at b1; omega
  have HR1 := Lib.hid r1
  clear r1 a1 b1
  obtain ⟨n, hn⟩ : ∃ n, n = l.length := ⟨_, rfl⟩
  have hnz : n ≤ 9223372036854775807 := by omega
  have HN1 := Lib.hid hn
  rw [← hn]
  clear hn hz1
  go_enter Tryd.func53, Tryd.ntmps53
  go_wp2_with fail
  go_loop [8] (fun iv => ∃ k : Nat, iv = .int .i64 k ∧ k ≤ n ∧ Hid (∀ y ∈ l.take k, badK y = false)) (fun iv => n + 1 - (intOf iv).toNat)
  case atStart => exact ⟨0, rfl, Nat.zero_le _, Lib.hid (fun y hy => by cases hy)⟩
  case round =>
    obtain ⟨k, rfl, hk, hE⟩ := hrel
    by_cases hlt : k < n
    · obtain ⟨x, hx⟩ : ∃ x, l[k]? = some x := ⟨l[k]'(by have := HN1.out; omega), List.getElem?_eq_getElem (by have := HN1.out; omega)⟩
      obtain ⟨b1, o1, rfl, hb1, q0⟩ := row_key HR1.out hx
      have i1 : (k : Int) < (n : Int) := by omega
      have i0 : (0 : Int) ≤ (k : Int) := by omega
      have HX := Lib.hid hx
      clear hx
      cases hbx : badK x with
      | true =>
        have HBX := Lib.hid hbx
        clear hbx
        go_wp2_with (go_at_call 32; refine (badk_any _ _ _ HBX.out).mono ?_; rintro e w1 ⟨rfl, rfl⟩)
        go_ret
        exact ⟨_, rfl, by rw [any_some HX.out HBX.out]; exact decide_eq_true i0, rfl⟩
      | false =>
        have HBX := Lib.hid hbx
        clear hbx
        go_wp2_with (go_at_call 32; refine (badk_any _ _ _ HBX.out).mono ?_; rintro e w1 ⟨rfl, rfl⟩)
        go_round
        case rel => exact ⟨k + 1, by go_num, by omega, Lib.hid (any_take hE.out HX.out HBX.out)⟩
        case measure => simp [intOf]; omega
    · obtain rfl : k = n := by omega
      go_wp2_with fail
      go_ret
      exact ⟨_, rfl, by rw [any_none hE.out HN1.out]; rfl, rfl⟩

set_option maxHeartbeats 1000000 in
theorem idxo_any (u : Value) (l : List ObjL) (w : World) (hl : Objs w w.heap.size u l) :
    Calls Tryd.prog 54 #[u, .func (.func 36) #[] #[]] w fun e w' => ∃ i : Int, e = .returned (.int .i64 i) ∧ decide (0 ≤ i) = l.any badO ∧ Below w.heap.size w w' := by
  obtain ⟨A1, c1, rfl, a1, b1, r1⟩ := hl
  have hz1 : l.length ≤ 9223372036854775807 := by unfold maxLen at b1; omega
  have HR1 := Lib.hid r1
  clear r1 a1 b1
  obtain ⟨n, hn⟩ : ∃ n, n = l.length := ⟨_, rfl⟩
  have hnz : n ≤ 9223372036854775807 := by omega
  have HN1 := Lib.hid hn
  rw [← hn]
  clear hn hz1
  go_enter Tryd.func54, Tryd.ntmps54
  go_wp2_with fail
  go_loopw [8] (fun iv wr => ∃ k : Nat, iv = .int .i64 k ∧ k ≤ n ∧ Hid (∀ y ∈ l.take k, badO y = false) ∧ Hid (Below w.heap.size w wr)) (fun iv _ => n + 1 - (intOf iv).toNat)
  case atStart => exact ⟨0, rfl, Nat.zero_le _, Lib.hid (fun y hy => by cases hy), Lib.hid (Below.refl _ _)⟩
  case round =>
    obtain ⟨k, rfl, hk, hE, hB⟩ := hrel
    by_cases hlt : k < n
    · obtain ⟨x, hx⟩ : ∃ x, l[k]? = some x := ⟨l[k]'(by have := HN1.out; omega), List.getElem?_eq_getElem (by have := HN1.out; omega)⟩
      obtain ⟨b1, o1, rfl, hb1, q0, q1⟩ := row_obj HR1.out hx
      obtain ⟨x1, x2⟩ := x
      have p0 := (hB.out.cell (p := ⟨b1, o1 + k * 2, none⟩) hb1).trans q0
      have p1 := (hB.out.cell (p := ⟨b1, o1 + k * 2 + 1, none⟩) hb1).trans q1
      have i1 : (k : Int) < (n : Int) := by omega
      have i0 : (0 : Int) ≤ (k : Int) := by omega
      have HX := Lib.hid hx
      dsimp only at p0 p1
      clear hx q0 q1
      cases hbx : badO (x1, x2) with
      | true =>
        have HBX := Lib.hid hbx
        clear hbx
        go_wp2_with (go_at_call 36; refine (bado_any _ _ _ _ HBX.out).mono ?_; rintro e w1 ⟨rfl, hb1⟩)
        go_ret
        exact ⟨_, rfl, by rw [any_some HX.out HBX.out]; exact decide_eq_true i0, bel hB.out hb1⟩
      | false =>
        have HBX := Lib.hid hbx
        clear hbx
        go_wp2_with (go_at_call 36; refine (bado_any _ _ _ _ HBX.out).mono ?_; rintro e w1 ⟨rfl, hb1⟩)
        go_roundw
        case rel => exact ⟨k + 1, by go_num, by omega, Lib.hid (any_take hE.out HX.out HBX.out), Lib.hid (bel hB.out hb1)⟩
        case measure => simp [intOf]; omega
    · obtain rfl : k = n := by omega
      go_wp2_with fail
      go_ret
      exact ⟨_, rfl, by rw [any_none hE.out HN1.out]; rfl, hB.out⟩

set_option maxHeartbeats 1000000 in
theorem cfk_any (u : Value) (l : List ByteArray) (w : World) (b : Bool) (hb : l.any badK = b) (hl : Strs w w.heap.size u l) :
    Calls Tryd.prog 34 #[u, .func (.func 32) #[] #[]] w fun e w' => e = .returned (.bool b) ∧ w' = w := by
  have HC := Lib.hid (idxk_any u l w hl)
  have HB := Lib.hid hb
  clear hb
  go_enter Tryd.func34, Tryd.ntmps34
  go_wp2_with (go_at_call 53; refine HC.out.mono ?_; rw [HB.out]; rintro e w1 ⟨i, rfl, hi, rfl⟩)
  go_ret
  first | exact ⟨rfl, rfl⟩ | exact ⟨by rw [← hi]; rfl, rfl⟩

set_option maxHeartbeats 1000000 in
theorem cfo_any (u : Value) (l : List ObjL) (w : World) (b : Bool) (hb : l.any badO = b) (hl : Objs w w.heap.size u l) :
    Calls Tryd.prog 35 #[u, .func (.func 36) #[] #[]] w fun e w' => e = .returned (.bool b) ∧ Below w.heap.size w w' := by
  have HC := Lib.hid (idxo_any u l w hl)
  have HB := Lib.hid hb
  clear hb
  go_enter Tryd.func35, Tryd.ntmps35
  go_wp2_with (go_at_call 54; refine HC.out.mono ?_; rw [HB.out]; rintro e w1 ⟨i, rfl, hi, hb1⟩)
  go_ret
  first | exact ⟨rfl, hb1⟩ | exact ⟨by rw [← hi]; rfl, hb1⟩

/-- One to four. -/
def sevB (n : Nat) : Bool := decide (1 ≤ n ∧ n ≤ 4)
set_option maxHeartbeats 1000000 in
theorem sev_any (n : Nat) (w : World) (b : Bool) (hb : sevB n = b) (hn : n ≤ 9223372036854775807) :
    Calls Tryd.prog 33 #[.int .i64 n] w fun e w' => e = .returned (.bool b) ∧ w' = w := by
  by_cases h1 : 0 < n
  · have d1 : decide (0 < (n : Int)) = true := decide_eq_true (by omega)
    have d2 : decide (0 < n) = true := decide_eq_true h1
    by_cases h2 : n ≤ 4
    · have d3 : decide ((n : Int) ≤ 4) = true := decide_eq_true (by omega)
      have d4 : decide (n ≤ 4) = true := decide_eq_true h2
      obtain rfl : b = true := by rw [← hb]; unfold sevB; exact decide_eq_true ⟨h1, h2⟩
      clear h1 h2 hb
      go_enter Tryd.func33, Tryd.ntmps33
      go_wp2_with fail
      go_ret
      exact ⟨rfl, rfl⟩
    · have d3 : decide ((n : Int) ≤ 4) = false := decide_eq_false (by omega)
      have d4 : decide (n ≤ 4) = false := decide_eq_false h2
      obtain rfl : b = false := by rw [← hb]; unfold sevB; exact decide_eq_false (fun h => h2 h.2)
      clear h1 h2 hb
      go_enter Tryd.func33, Tryd.ntmps33
      go_wp2_with fail
      go_ret
      exact ⟨rfl, rfl⟩
  · have d1 : decide (0 < (n : Int)) = false := decide_eq_false (by omega)
    have d2 : decide (0 < n) = false := decide_eq_false h1
    obtain rfl : b = false := by rw [← hb]; unfold sevB; exact decide_eq_false (fun h => h1 h.1)
    clear h1 hb
    go_enter Tryd.func33, Tryd.ntmps33
    go_wp2_with fail
    go_ret
    exact ⟨rfl, rfl⟩

end Go.Proofs.YthlajcohbpjgkaaDoor
