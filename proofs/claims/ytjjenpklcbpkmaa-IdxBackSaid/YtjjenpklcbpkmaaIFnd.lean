/-
  The slot of a key: the document's package.
-/
import Derived.Test.YtjjenpklcbpkmaaISm
namespace Go.Proofs.Ytjjenpklcbpkmaa
open Go.RowKit Go.Proofs.Mem
set_option linter.unusedVariables false

def isK (key : ByteArray) (x : Slt) : Bool := decide (x.k = key)
def noSlt : Slt := ⟨⟨#[]⟩, 0, 0⟩
def findL (l : List Slt) (key : ByteArray) : Option Slt := l.find? (isK key)
def Slt.val (x : Slt) : Value := .agg #[.string x.k, .int .i64 x.a, .int .i64 x.s]
def findV (o : Option Slt) : Value := .tuple #[(o.getD noSlt).val, .bool o.isSome]
theorem find_take {l : List Slt} {k : Nat} {x : Slt} {key : ByteArray} (h : (l.take k).find? (isK key) = none) (hx : l[k]? = some x) (hk : isK key x = false) : (l.take (k + 1)).find? (isK key) = none := by
  rw [List.take_add_one, hx, List.find?_append, h]
  simp [hk]
theorem find_here {l : List Slt} {k : Nat} {x : Slt} {key : ByteArray} (h : (l.take k).find? (isK key) = none) (hx : l[k]? = some x) (hk : isK key x = true) : findL l key = some x := by
  unfold findL
  have hlt : k < l.length := by
    rcases Nat.lt_or_ge k l.length with h | h
    · exact h
    · rw [List.getElem?_eq_none h] at hx; cases hx
  have e : l = l.take k ++ x :: l.drop (k + 1) := by
    have h2 : l[k] = x := by rw [List.getElem?_eq_getElem hlt] at hx; exact Option.some.inj hx
    rw [← h2, List.getElem_cons_drop, List.take_append_drop]
  rw [e, List.find?_append, h]
  simp [hk]

theorem BoxS.put {w : World} {q : Nat} {y : Slt} (h : BoxS w q y) (x : Slt) : BoxS (((w.setCell ⟨q, 0, none⟩ (.string x.k)).setCell ⟨q, 1, none⟩ (.int .i64 x.a)).setCell ⟨q, 2, none⟩ (.int .i64 x.s)) q x :=
  heap_setCell_same _ _ 2 _ _ _ (heap_setCell_same _ _ 1 _ _ _ (heap_setCell_same w q 0 _ _ _ h))
theorem below_put {w wr : World} {B q : Nat} (hB : Below B w wr) (hq : B ≤ q) (x : Slt) : Below B w (((wr.setCell ⟨q, 0, none⟩ (.string x.k)).setCell ⟨q, 1, none⟩ (.int .i64 x.a)).setCell ⟨q, 2, none⟩ (.int .i64 x.s)) :=
  ((hB.setCell (p := ⟨q, 0, none⟩) hq _).setCell (p := ⟨q, 1, none⟩) hq _).setCell (p := ⟨q, 2, none⟩) hq _
theorem BoxS.on {w w' : World} {q B : Nat} {x : Slt} (h : BoxS w q x) (hq : q < B) (hb : Below B w w') : BoxS w' q x := (hb.block q hq).trans h
theorem BoxS.lt {w : World} {q : Nat} {x : Slt} (h : BoxS w q x) : q < w.heap.size := by
  rcases Nat.lt_or_ge q w.heap.size with h' | h'
  · exact h'
  · unfold BoxS at h
    rw [Array.getElem?_eq_none h'] at h
    cases h
theorem BoxS.new (w : World) (x : Slt) : BoxS (w.alloc (.cells #[.string x.k, .int .i64 x.a, .int .i64 x.s] 34)) w.heap.size x := heap_alloc_new w _

set_option maxHeartbeats 1000000 in
theorem r17find_any (v : Value) (l : List Slt) (key : ByteArray) (w : World) (h : Slots w w.heap.size v l) :
    Calls Try.prog 41 #[v, .string key] w fun e w' => e = .returned (findV (findL l key)) ∧ Below w.heap.size w w' := by
  obtain ⟨A, c, rfl, hc1, hc2, hR⟩ := h
  have hl : l.length ≤ 9223372036854775807 := by unfold maxLen at hc2; omega
  have HR := Lib.hid hR
  clear hR hc1 hc2
  obtain ⟨r, hr⟩ : ∃ r, r = findL l key := ⟨_, rfl⟩
  rw [← hr]
  have HRR := Lib.hid hr
  clear hr
  go_enter Try.func41, Try.ntmps41
  go_wp2_with fail
  have HBX0 : Hid (BoxS (w.alloc (.cells #[.string ⟨#[]⟩, .int .i64 0, .int .i64 0] 34)) w.heap.size noSlt) := Lib.hid (heap_alloc_new w _)
  go_loopw [6] (fun q wr => ∃ k : Nat, q = .int .i64 k ∧ k ≤ l.length ∧ Hid ((l.take k).find? (isK key) = none) ∧ Hid (BoxS wr w.heap.size noSlt) ∧ Hid (Below w.heap.size w wr)) (fun q _ => l.length + 1 - (intOf q).toNat)
  case atStart => exact ⟨0, rfl, Nat.zero_le _, Lib.hid rfl, HBX0, Lib.hid ((Below.refl _ _).alloc (Nat.le_refl _) _)⟩
  case round =>
    obtain ⟨k, rfl, hk, hF, hX, hB⟩ := hrel
    obtain ⟨g0, g1, g2⟩ := hX.out.cells
    have f0 := Lib.frozen_of_heap hX.out 0
    have f1 := Lib.frozen_of_heap hX.out 1
    have f2 := Lib.frozen_of_heap hX.out 2
    by_cases hlt : k < l.length
    · obtain ⟨x, hx⟩ : ∃ x, l[k]? = some x := ⟨l[k], List.getElem?_eq_getElem hlt⟩
      obtain ⟨b, o, rfl, hb, q0, q1, q2⟩ := row_slot HR.out hx
      have p0 := (hB.out.cell (p := ⟨b, o + k * 3, none⟩) hb).trans q0
      have p1 := (hB.out.cell (p := ⟨b, o + k * 3 + 1, none⟩) hb).trans q1
      have p2 := (hB.out.cell (p := ⟨b, o + k * 3 + 2, none⟩) hb).trans q2
      have i1 : (k : Int) < (l.length : Int) := by omega
      have i0 : (0 : Int) ≤ (k : Int) := by omega
      have HX := Lib.hid hx
      have hne : b ≠ w.heap.size := Nat.ne_of_lt hb
      clear q0 q1 q2 hx
      by_cases hs : x.k = key
      · have d0 : (x.k.toList == key.toList) = true := by rw [beq_list, decide_eq_true hs]
        have HE : Hid (r = some x) := Lib.hid (by rw [HRR.out]; exact find_here hF.out HX.out (decide_eq_true hs))
        clear hs
        go_wp2_with fail
        have hh : BoxS (((wr.setCell ⟨w.heap.size, 0, none⟩ (.string x.k)).setCell ⟨w.heap.size, 1, none⟩ (.int .i64 x.a)).setCell ⟨w.heap.size, 2, none⟩ (.int .i64 x.s)) w.heap.size x :=
          heap_setCell_same _ _ 2 _ _ _ (heap_setCell_same _ _ 1 _ _ _ (heap_setCell_same wr w.heap.size 0 _ _ _ hX.out))
        have hbl : Below w.heap.size w (((wr.setCell ⟨w.heap.size, 0, none⟩ (.string x.k)).setCell ⟨w.heap.size, 1, none⟩ (.int .i64 x.a)).setCell ⟨w.heap.size, 2, none⟩ (.int .i64 x.s)) :=
          ((hB.out.setCell (p := ⟨w.heap.size, 0, none⟩) (Nat.le_refl _) _).setCell (p := ⟨w.heap.size, 1, none⟩) (Nat.le_refl _) _).setCell (p := ⟨w.heap.size, 2, none⟩) (Nat.le_refl _) _
        generalize ((wr.setCell ⟨w.heap.size, 0, none⟩ (.string x.k)).setCell ⟨w.heap.size, 1, none⟩ (.int .i64 x.a)).setCell ⟨w.heap.size, 2, none⟩ (.int .i64 x.s) = W3 at *
        obtain ⟨c0, c1, c2⟩ := hh.cells
        refine bodyPost_ret (v := .tuple #[x.val, .bool true]) (by simp [results, Try.results41, go_sem, c0, c1, c2, Slt.val]) rfl ⟨?_, hbl⟩
        rw [HE.out]
        rfl
      · have d0 : (x.k.toList == key.toList) = false := by rw [beq_list, decide_eq_false hs]
        have HT := Lib.hid (find_take hF.out HX.out (decide_eq_false hs))
        clear hs
        go_wp2_with fail
        go_roundw
        case rel => exact ⟨k + 1, by go_num, by omega, HT, hX, hB⟩
        case measure => simp [intOf]; omega
    · obtain rfl : k = l.length := by omega
      go_wp2_with fail
      have hh : BoxS (((wr.setCell ⟨w.heap.size, 0, none⟩ (.string ⟨#[]⟩)).setCell ⟨w.heap.size, 1, none⟩ (.int .i64 0)).setCell ⟨w.heap.size, 2, none⟩ (.int .i64 0)) w.heap.size noSlt :=
        heap_setCell_same _ _ 2 _ _ _ (heap_setCell_same _ _ 1 _ _ _ (heap_setCell_same wr w.heap.size 0 _ _ _ hX.out))
      have hbl : Below w.heap.size w (((wr.setCell ⟨w.heap.size, 0, none⟩ (.string ⟨#[]⟩)).setCell ⟨w.heap.size, 1, none⟩ (.int .i64 0)).setCell ⟨w.heap.size, 2, none⟩ (.int .i64 0)) :=
        ((hB.out.setCell (p := ⟨w.heap.size, 0, none⟩) (Nat.le_refl _) _).setCell (p := ⟨w.heap.size, 1, none⟩) (Nat.le_refl _) _).setCell (p := ⟨w.heap.size, 2, none⟩) (Nat.le_refl _) _
      generalize ((wr.setCell ⟨w.heap.size, 0, none⟩ (.string ⟨#[]⟩)).setCell ⟨w.heap.size, 1, none⟩ (.int .i64 0)).setCell ⟨w.heap.size, 2, none⟩ (.int .i64 0) = W3 at *
      obtain ⟨c0, c1, c2⟩ := hh.cells
      refine bodyPost_ret (v := .tuple #[noSlt.val, .bool false]) (by simp [results, Try.results41, go_sem, c0, c1, c2, Slt.val]) rfl ⟨?_, hbl⟩
      have hF' := hF.out
      rw [List.take_length] at hF'
      rw [HRR.out]
      unfold findL
      rw [hF']
      rfl

theorem rfind_any (s key : ByteArray) (w : World) (hs : s.size ≤ 1000000) :
    Calls Try.prog 14 #[.string s, .string key] w fun e w' => e = .returned (findV (findL (readL s) key)) ∧ Below w.heap.size w w' := by
  have HRD := Lib.hid (fun W => rread_any s W hs)
  obtain ⟨l, hl⟩ : ∃ l, l = readL s := ⟨_, rfl⟩
  rw [← hl] at HRD ⊢
  have HFD := Lib.hid (fun W D (h : Slots W W.heap.size D l) => r17find_any D l key W h)
  obtain ⟨r, hr⟩ : ∃ r, r = findL l key := ⟨_, rfl⟩
  rw [← hr] at HFD ⊢
  obtain ⟨x, b, hx⟩ : ∃ (x : Slt) (b : Bool), findV r = .tuple #[.agg #[.string x.k, .int .i64 x.a, .int .i64 x.s], .bool b] := ⟨_, _, rfl⟩
  rw [hx] at HFD ⊢
  clear hl hr hx
  have HB0 : Hid (Below w.heap.size w (w.alloc (.cells #[.string ⟨#[]⟩, .int .i64 0, .int .i64 0] 34))) := Lib.hid ((Below.refl _ _).alloc (Nat.le_refl _) _)
  have HX0 : Hid (BoxS (w.alloc (.cells #[.string ⟨#[]⟩, .int .i64 0, .int .i64 0] 34)) w.heap.size noSlt) := Lib.hid (heap_alloc_new w _)
  go_enter Try.func14, Try.ntmps14
  go_wp2_with (first
    | (go_at_call 9
       refine Calls.mono (HRD.out _) ?_
       rintro e w1 ⟨D, rfl, hD, hB1⟩
       have HB1 := Lib.hid (bel HB0.out hB1)
       have HX1 := Lib.hid (HX0.out.on HX0.out.lt hB1)
       have HD := Lib.hid hD
       clear hB1 hD)
    | (go_at_call 41
       refine Calls.mono (HFD.out _ _ HD.out) ?_
       rintro e w2 ⟨rfl, hB2⟩
       have HB2 := Lib.hid (bel HB1.out hB2)
       have HX2 := Lib.hid (HX1.out.on HX1.out.lt hB2)
       obtain ⟨g0, g1, g2⟩ := HX2.out.cells
       have f0 := Lib.frozen_of_heap HX2.out 0
       have f1 := Lib.frozen_of_heap HX2.out 1
       have f2 := Lib.frozen_of_heap HX2.out 2
       clear hB2))
  have hh := HX2.out.put x
  have hbl := below_put HB2.out (Nat.le_refl _) x
  generalize ((w2.setCell ⟨w.heap.size, 0, none⟩ (.string x.k)).setCell ⟨w.heap.size, 1, none⟩ (.int .i64 x.a)).setCell ⟨w.heap.size, 2, none⟩ (.int .i64 x.s) = W3 at *
  obtain ⟨c0, c1, c2⟩ := hh.cells
  exact bodyPost_ret (v := .tuple #[.agg #[.string x.k, .int .i64 x.a, .int .i64 x.s], .bool b]) (by simp [results, Try.results14, go_sem, c0, c1, c2]) rfl ⟨rfl, hbl⟩

end Go.Proofs.Ytjjenpklcbpkmaa
