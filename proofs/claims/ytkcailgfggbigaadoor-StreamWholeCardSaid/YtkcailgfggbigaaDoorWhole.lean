/-
  THE WHOLE: what a text's pieces come to (plain laws), and the walk of CdcWhole.
-/
import Derived.Test.YtkcailgfggbigaaDoorAhead
namespace Go.Proofs.YtkcailgfggbigaaDoor
open Go.RowKit Go.Shelf Go.Proofs.Gear Go.Proofs.Mem
attribute [local go_sem] Oper.semAt_some
set_option linter.unusedVariables false

/-- Texts, one behind the other. -/
def joinB (l : List ByteArray) : ByteArray := l.foldl (· ++ ·) ByteArray.empty

theorem fold_join : ∀ (l : List ByteArray) (t : ByteArray), l.foldl (· ++ ·) t = t ++ joinB l := by
  intro l
  induction l with
  | nil => intro t; apply bytes_ext; simp [joinB]
  | cons x l ih =>
    intro t
    unfold joinB
    rw [List.foldl_cons, List.foldl_cons, ih (t ++ x), ih (ByteArray.empty ++ x)]
    apply bytes_ext
    simp
theorem joinB_cons (x : ByteArray) (l : List ByteArray) : joinB (x :: l) = x ++ joinB l := by
  unfold joinB
  rw [List.foldl_cons, fold_join]
  apply bytes_ext
  simp [joinB]
theorem joinB_append (l m : List ByteArray) : joinB (l ++ m) = joinB l ++ joinB m := by
  unfold joinB
  rw [List.foldl_append, fold_join]
  rfl
theorem joinB_one (x : ByteArray) : joinB [x] = x := by
  rw [joinB_cons]
  apply bytes_ext
  simp [joinB]
theorem joinB_take (l : List ByteArray) (k : Nat) (x : ByteArray) (h : l[k]? = some x) : joinB (l.take (k + 1)) = joinB (l.take k) ++ x := by
  rw [List.take_add_one, h, joinB_append]
  rw [show (some x).toList = [x] from rfl, joinB_one]
theorem joinB_size (l : List ByteArray) (k : Nat) : (joinB (l.take k)).size ≤ (joinB l).size := by
  conv => rhs; rw [← List.take_append_drop k l, joinB_append, ByteArray.size_append]
  omega

theorem cut_join (s : ByteArray) (n : Nat) : s.extract 0 n ++ s.extract n s.size = s := by
  apply bytes_ext
  rw [toList_append, toList_extract, toList_extract, List.drop_zero, List.take_of_length_le (l := s.data.toList) (i := s.size) (by rw [toList_length]; exact Nat.le_refl _), List.take_append_drop]

/-- A TEXT'S PIECES, one behind the other, are it. -/
theorem pcs_join (mn av mx b : Nat) (hm : mn ≤ mx) (h1 : 1 ≤ mn) : ∀ (n : Nat) (s : ByteArray), s.size ≤ n → joinB (pcs mn av mx b s) = s := by
  intro n
  induction n with
  | zero => intro s hs; rw [pcs_nil _ _ _ _ s (by omega), size_zero (s := s) (by omega)]; rfl
  | succ n ih =>
    intro s hs
    by_cases h0 : s.size = 0
    · rw [pcs_nil _ _ _ _ s h0, size_zero h0]; rfl
    · have hp := cutN_pos mn av mx b s hm h1 (by omega)
      rw [pcs_cons _ _ _ _ hm h1 s (by omega), joinB_cons, ih _ (by rw [ByteArray.size_extract]; omega), cut_join]
/-- No piece is empty, none is too long, each but the last is long enough. -/
theorem pcs_sizes (mn av mx b : Nat) (hm : mn ≤ mx) (h1 : 1 ≤ mn) : ∀ (n : Nat) (s : ByteArray), s.size ≤ n →
    ∀ (k : Nat) (x : ByteArray), (pcs mn av mx b s)[k]? = some x → 0 < x.size ∧ x.size ≤ mx ∧ (k + 1 < (pcs mn av mx b s).length → mn ≤ x.size) := by
  intro n
  induction n with
  | zero => intro s hs k x hk; rw [pcs_nil _ _ _ _ s (by omega)] at hk; cases hk
  | succ n ih =>
    intro s hs k x hk
    by_cases h0 : s.size = 0
    · rw [pcs_nil _ _ _ _ s h0] at hk; cases hk
    · have hp := cutN_pos mn av mx b s hm h1 (by omega)
      have hle := cutN_le mn av mx b s
      have hge := cutN_ge mn av mx b s hm
      rw [pcs_cons _ _ _ _ hm h1 s (by omega)] at hk ⊢
      cases k with
      | zero =>
        rw [List.getElem?_cons_zero] at hk
        obtain rfl := Option.some.inj hk
        rw [ByteArray.size_extract]
        refine ⟨by omega, by omega, fun hlen => ?_⟩
        have hlt : cutN mn av mx b s < s.size := by
          by_cases h : cutN mn av mx b s < s.size
          · exact h
          · rw [pcs_nil _ _ _ _ (s.extract _ _) (by rw [ByteArray.size_extract]; omega)] at hlen
            simp at hlen
        omega
      | succ k =>
        rw [List.getElem?_cons_succ] at hk
        obtain ⟨h2, h3, h4⟩ := ih (s.extract (cutN mn av mx b s) s.size) (by rw [ByteArray.size_extract]; omega) k x hk
        exact ⟨h2, h3, fun h => h4 (by simp only [List.length_cons] at h; omega)⟩

theorem held_start {w w1 : World} {mn av mx : Int} (hL : Laid w) (h : Below (w.alloc (.cells #[.int .i64 mn, .int .i64 av, .int .i64 mx] 23)).heap.size (w.alloc (.cells #[.int .i64 mn, .int .i64 av, .int .i64 mx] 23)) w1) :
    w1.cell? ⟨w.heap.size, 0, none⟩ = some (.int .i64 mn) ∧ w1.cell? ⟨w.heap.size, 1, none⟩ = some (.int .i64 av) ∧ w1.cell? ⟨w.heap.size, 2, none⟩ = some (.int .i64 mx) ∧ Hid (Held w w1) := by
  obtain ⟨W0, hW0⟩ : ∃ W0, w.alloc (.cells #[.int .i64 mn, .int .i64 av, .int .i64 mx] 23) = W0 := ⟨_, rfl⟩
  have hx0 : Box W0 w.heap.size mn av mx := by rw [← hW0]; exact Box.new w _ _ _ _
  have hB0 : Below w.heap.size w W0 := by rw [← hW0]; clear hx0 h hW0; go_grown
  have hsz : w.heap.size < W0.heap.size := by rw [← hW0]; simp
  rw [hW0] at h
  clear hW0
  obtain ⟨x1, x2, x3⟩ := hx0.on h hsz
  have hB2 : Below w.heap.size w w1 := bel hB0 h
  exact ⟨x1, x2, x3, Lib.hid ⟨hL.on hB2, hB2, Nat.lt_of_lt_of_le hsz h.size⟩⟩

set_option maxHeartbeats 1000000 in
theorem whole_walk (mn av mx : Int) (a : ByteArray) (w : World) (hL : Laid w) (hm : mn ≤ 9223372036854775807) (ha' : a.size ≤ 9223372036854775807) :
    Calls Tryd.prog 4 #[.agg #[.int .i64 mn, .int .i64 av, .int .i64 mx], .string a] w fun e w' => e = .returned (.bool true) ∧ Below w.heap.size w w' := by
  have HL := Lib.hid hL
  clear hL
  go_enter Tryd.func4, Tryd.ntmps4
  by_cases ha : 5000 < a.size
  · go_wp2_with (go_at_call 13; refine Calls.mono (awake_any _ (HL.out.on (by go_grown))) ?_; rintro e w1 ⟨rfl, hB1⟩)
    go_ret
    exact ⟨rfl, bel (by go_grown) hB1⟩
  have hd1 : decide ((5000 : Int) < (a.size : Int)) = false := decide_eq_false (by omega)
  rcases fitB_cases mn av mx hm with hf | ⟨hf, mn, av, mx, b, rfl, rfl, rfl, hfit⟩
  · have HF := Lib.hid hf
    clear hf
    go_wp2_with (first | (go_at_call 12; refine Calls.mono (rfit_any _ _ _ _) ?_; rintro e w1 ⟨rfl, hB1⟩; rw [HF.out]; have HB1 : Hid (Below w.heap.size w w1) := Lib.hid (bel (by go_grown) hB1); clear hB1) | (go_at_call 13; refine Calls.mono (awake_any _ (HL.out.on HB1.out)) ?_; rintro e w2 ⟨rfl, hB2⟩))
    go_ret
    exact ⟨rfl, bel HB1.out hB2⟩
  have HF := Lib.hid hf
  clear hf
  have HFit := Lib.hid hfit
  clear hfit
  go_wp2_with (first
    | (go_at_call 12; refine Calls.mono (rfit_any _ _ _ _) ?_; rintro e w1 ⟨rfl, hB1⟩; rw [HF.out]; obtain ⟨x1, x2, x3, hHd⟩ := held_start HL.out hB1; clear hB1)
    | (go_at_call 14; refine Calls.mono (pieces_any HFit.out a (by omega) _ hHd.out.1) ?_; rintro e wP ⟨v, rfl, hS, -, hBP⟩; obtain ⟨y1, y2, y3, hHP⟩ := held_keep hBP x1 x2 x3 hHd; clear hBP x1 x2 x3 hHd; have HSa := Lib.hid hS; clear hS; have hjn := pcs_join mn av mx b (Nat.le_trans HFit.out.min HFit.out.max) HFit.out.one a.size a (Nat.le_refl _); have hsz := pcs_sizes mn av mx b (Nat.le_trans HFit.out.min HFit.out.max) HFit.out.one a.size a (Nat.le_refl _); generalize pcs mn av mx b a = la at *; obtain ⟨A1, c1, e1, hm1, hm2, hr1⟩ := HSa.out; subst e1; have HJ := Lib.hid hjn; have HZ := Lib.hid hsz; have HR := Lib.hid hr1; clear hjn hsz hr1 HSa; have hla : la.length ≤ 9223372036854775807 := Nat.le_trans hm1 (Nat.le_trans hm2 (by unfold maxLen; omega))))
  go_loopw [6, 23] (fun tv i wr => ∃ (k : Nat) (t : ByteArray), i = .int .i64 k ∧ k ≤ la.length ∧ tv = .string t ∧ Hid (t = joinB (la.take k)) ∧ Hid (Below wP.heap.size wP wr)) (fun _ i _ => la.length + 1 - (intOf i).toNat)
  case atStart => exact ⟨0, ByteArray.empty, rfl, Nat.zero_le _, rfl, Lib.hid rfl, Lib.hid (Below.refl _ _)⟩
  case round =>
    obtain ⟨k, t, rfl, hk, rfl, HT, hBr⟩ := hrel
    obtain ⟨z1, z2, z3, hHr⟩ := held_keep hBr.out y1 y2 y3 hHP
    by_cases hlt : k < la.length
    · obtain ⟨b1, o1, rfl, hb1, hcl1⟩ := HR.out.at_ (by simp; omega)
      obtain ⟨x, hx⟩ : ∃ x, la[k]? = some x := ⟨la[k], List.getElem?_eq_getElem (by omega)⟩
      have q1 := (hBr.out.cell (p := ⟨b1, o1 + k, none⟩) hb1).trans (hcl1 k (.string x) (by rw [List.getElem?_map, hx]; rfl))
      have hjs := joinB_size la (k + 1)
      rw [joinB_take la k x hx, HJ.out, ← HT.out, ByteArray.size_append] at hjs
      obtain ⟨s1, s2, s3⟩ := HZ.out k x hx
      have HX := Lib.hid hx
      clear hcl1 hx
      have i1 : (k : Int) < (la.length : Int) := by omega
      have i3 : (0 : Int) ≤ (k : Int) := by omega
      have g1 : ((x.size : Int) == 0) = false := beq_eq_false_iff_ne.2 (by omega)
      have g1' : (x.size == 0) = false := beq_eq_false_iff_ne.2 (by omega)
      have g2 : decide ((mx : Int) < (x.size : Int)) = false := decide_eq_false (by omega)
      have g2' : decide (mx < x.size) = false := decide_eq_false (by omega)
      have hac : ¬9223372036854775807 < t.size + x.size := by omega
      by_cases hl : k + 1 < la.length
      · have g4 : decide ((k : Int) < (la.length : Int) - 1) = true := decide_eq_true (by omega)
        have g5 := s3 hl
        have g6 : decide ((x.size : Int) < (mn : Int)) = false := decide_eq_false (by omega)
        have g6' : decide (x.size < mn) = false := decide_eq_false (by omega)
        clear s3
        go_wp2_with fail
        go_roundw
        case rel => exact ⟨k + 1, t ++ x, by go_num, by omega, rfl, Lib.hid (by rw [joinB_take la k x HX.out, HT.out]), hBr⟩
        case measure => simp [intOf]; omega
      · have g4 : decide ((k : Int) < (la.length : Int) - 1) = false := decide_eq_false (by omega)
        clear s3
        go_wp2_with fail
        go_roundw
        case rel => exact ⟨k + 1, t ++ x, by go_num, by omega, rfl, Lib.hid (by rw [joinB_take la k x HX.out, HT.out]), hBr⟩
        case measure => simp [intOf]; omega
    · have hta : t = a := by rw [HT.out, List.take_of_length_le (by omega), HJ.out]
      subst hta
      go_wp2_with (go_at_call 13; refine Calls.mono (awake_any _ hHr.out.1) ?_; rintro e w2 ⟨rfl, hB2⟩)
      go_ret
      exact ⟨rfl, bel hHr.out.2.1 hB2⟩

end Go.Proofs.YtkcailgfggbigaaDoor
