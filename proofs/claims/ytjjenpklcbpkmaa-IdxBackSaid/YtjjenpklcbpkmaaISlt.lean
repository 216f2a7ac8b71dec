/-
  Slots in memory; which can be an index: both packages.
-/
import Derived.Test.YtjjenpklcbpkmaaMem
import Derived.Lib.Hide
import Derived.Handy
namespace Go.Proofs.Ytjjenpklcbpkmaa
open Go.RowKit Go.Proofs.Mem
set_option linter.unusedVariables false

/-- A slot: its key, where it is, how long. -/
structure Slt where
  k : ByteArray
  a : Int
  s : Int
def Slt.cells (x : Slt) : List Value := [.string x.k, .int .i64 x.a, .int .i64 x.s]
def cellsL (l : List Slt) : List Value := l.flatMap Slt.cells
theorem cellsL_len (l : List Slt) : (cellsL l).length = 3 * l.length := by
  unfold cellsL
  induction l with
  | nil => rfl
  | cons x l ih => rw [List.flatMap_cons, List.length_append, ih, List.length_cons]; show 3 + _ = _; omega
theorem cellsL_get {l : List Slt} {i : Nat} {x : Slt} (h : l[i]? = some x) : (cellsL l)[3 * i]? = some (.string x.k) ∧ (cellsL l)[3 * i + 1]? = some (.int .i64 x.a) ∧ (cellsL l)[3 * i + 2]? = some (.int .i64 x.s) := by
  unfold cellsL
  induction l generalizing i with
  | nil => simp at h
  | cons y l ih =>
    rw [List.flatMap_cons]
    cases i with
    | zero =>
      simp at h
      subst h
      exact ⟨rfl, rfl, rfl⟩
    | succ i =>
      simp at h
      obtain ⟨h0, h1, h2⟩ := ih h
      have e : ∀ j, (y.cells ++ List.flatMap Slt.cells l)[3 * (i + 1) + j]? = (List.flatMap Slt.cells l)[3 * i + j]? := by
        intro j
        rw [List.getElem?_append_right (by show 3 ≤ _; omega)]
        congr 1
        show _ - 3 = _
        omega
      exact ⟨(e 0).trans h0, (e 1).trans h1, (e 2).trans h2⟩

/-- A slice of slots. -/
def Slots (w : World) (B : Nat) (v : Value) (l : List Slt) : Prop :=
  ∃ A c, v = .slice A l.length c ∧ l.length ≤ c ∧ c ≤ maxLen ∧ Row w B A (cellsL l)
theorem Slots.below {w w' : World} {B : Nat} {v : Value} {l : List Slt} (h : Slots w B v l) (hb : Below B w w') : Slots w' B v l := by
  obtain ⟨A, c, e, h1, h2, h3⟩ := h
  exact ⟨A, c, e, h1, h2, h3.below hb⟩
theorem Slots.more {w : World} {B B' : Nat} {v : Value} {l : List Slt} (h : Slots w B v l) (hB : B ≤ B') : Slots w B' v l := by
  obtain ⟨A, c, e, h1, h2, h3⟩ := h
  exact ⟨A, c, e, h1, h2, h3.more hB⟩
theorem Slots.on {w w' : World} {v : Value} {l : List Slt} (h : Slots w w.heap.size v l) (hb : Below w.heap.size w w') : Slots w' w'.heap.size v l := (h.below hb).more hb.size
theorem Slots.nil {w : World} {B : Nat} : Slots w B (.slice none 0 0) [] := ⟨none, 0, rfl, Nat.le_refl _, by unfold maxLen; omega, Row.nil⟩
/-- The cells of a slot in a row. -/
theorem row_slot {w : World} {B : Nat} {A : Option Addr} {l : List Slt} (h : Row w B A (cellsL l)) {i : Nat} {x : Slt} (hx : l[i]? = some x) :
    ∃ b o, A = some ⟨b, o, none⟩ ∧ b < B ∧ w.cell? ⟨b, o + i * 3, none⟩ = some (.string x.k) ∧ w.cell? ⟨b, o + i * 3 + 1, none⟩ = some (.int .i64 x.a) ∧ w.cell? ⟨b, o + i * 3 + 2, none⟩ = some (.int .i64 x.s) := by
  have hi : i < l.length := by
    rcases Nat.lt_or_ge i l.length with h | h
    · exact h
    · rw [List.getElem?_eq_none h] at hx; cases hx
  obtain ⟨b, o, e, hb, hc⟩ := h.at_ (by rw [cellsL_len]; omega)
  obtain ⟨h0, h1, h2⟩ := cellsL_get hx
  refine ⟨b, o, e, hb, ?_, ?_, ?_⟩
  · rw [show o + i * 3 = o + 3 * i by omega]; exact hc _ _ h0
  · rw [show o + i * 3 + 1 = o + (3 * i + 1) by omega]; exact hc _ _ h1
  · rw [show o + i * 3 + 2 = o + (3 * i + 2) by omega]; exact hc _ _ h2

def smallS (x : Slt) : Bool := decide (x.k.size ≤ 100)

set_option maxHeartbeats 1000000 in
theorem few_any (v : Value) (l : List Slt) (w : World) (h : Slots w w.heap.size v l) (hz : ∀ x ∈ l, x.k.size ≤ 9223372036854775807) :
    Calls Try.prog 6 #[v] w fun e w' => e = .returned (.bool (decide (l.length ≤ 40) && l.all smallS)) ∧ Below w.heap.size w w' := by
  obtain ⟨A, c, rfl, hc1, hc2, hR⟩ := h
  have hl : l.length ≤ 9223372036854775807 := by unfold maxLen at hc2; omega
  have HR := Lib.hid hR
  have HZ := Lib.hid hz
  clear hR hz hc1 hc2
  by_cases h40 : l.length ≤ 40
  case neg =>
    rw [decide_eq_false h40, Bool.false_and]
    go_enter Try.func6, Try.ntmps6
    go_wp2_with fail
    go_ret
    exact ⟨rfl, Below.refl _ _⟩
  rw [decide_eq_true h40, Bool.true_and]
  obtain ⟨r, hr⟩ : ∃ r, r = l.all smallS := ⟨_, rfl⟩
  rw [← hr]
  have HRR := Lib.hid hr
  clear hr
  go_enter Try.func6, Try.ntmps6
  go_wp2_with fail
  go_loopw [4, 10] (fun _ i wr => ∃ k : Nat, i = .int .i64 k ∧ k ≤ l.length ∧ Hid ((l.take k).all smallS = true) ∧ Hid (Below w.heap.size w wr)) (fun _ i _ => l.length + 1 - (intOf i).toNat)
  case atStart => exact ⟨0, rfl, Nat.zero_le _, Lib.hid rfl, Lib.hid (Below.refl _ _)⟩
  case round =>
    obtain ⟨k, rfl, hk, hE, hB⟩ := hrel
    by_cases hlt : k < l.length
    · obtain ⟨x, hx⟩ : ∃ x, l[k]? = some x := ⟨l[k], List.getElem?_eq_getElem hlt⟩
      obtain ⟨b, o, rfl, hb, q0, q1, q2⟩ := row_slot HR.out hx
      have p0 := (hB.out.cell (p := ⟨b, o + k * 3, none⟩) hb).trans q0
      have p1 := (hB.out.cell (p := ⟨b, o + k * 3 + 1, none⟩) hb).trans q1
      have p2 := (hB.out.cell (p := ⟨b, o + k * 3 + 2, none⟩) hb).trans q2
      have hxz := HZ.out x (List.mem_of_getElem? hx)
      have i1 : (k : Int) < (l.length : Int) := by omega
      have i0 : (0 : Int) ≤ (k : Int) := by omega
      have HX := Lib.hid hx
      have hlb : b < wr.heap.size := Nat.lt_of_lt_of_le hb hB.out.size
      clear q0 q1 q2 hx
      by_cases hs : x.k.size ≤ 100
      · go_wp2_with fail
        go_roundw
        case rel => exact ⟨k + 1, by go_num, by omega, Lib.hid (by
          rw [List.take_add_one, HX.out, List.all_append, hE.out]
          simp [smallS, hs]), Lib.hid (bel hB.out (by go_grown))⟩
        case measure => simp [intOf]; omega
      · go_wp2_with fail
        go_ret
        refine ⟨?_, bel hB.out (by go_grown)⟩
        have : r = false := by
          rw [HRR.out, List.all_eq_false]
          exact ⟨x, List.mem_of_getElem? HX.out, by simp [smallS, hs]⟩
        rw [this]
        rfl
    · obtain rfl : k = l.length := by omega
      go_wp2_with fail
      go_ret
      refine ⟨?_, hB.out⟩
      have h1 := hE.out
      rw [List.take_length] at h1
      rw [HRR.out, h1]
      rfl

end Go.Proofs.Ytjjenpklcbpkmaa
