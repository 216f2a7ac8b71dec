/-
  CHAPTER 8's EXAMPLE; THE WALK OF StreamDoes.
-/
import Derived.Test.YtkcailgfggbigaaDoorStm
import Derived.Test.YtkcailgfggbigaaDoorAhead
namespace Go.Proofs.YtkcailgfggbigaaDoor
open Go.RowKit Go.Shelf Go.Proofs.Gear Go.Proofs.Mem
attribute [local go_sem] Oper.semAt_some
set_option linter.unusedVariables false

theorem fed_ab : fed 2 4 8 2 8 (⟨#[]⟩ ++ ⟨#[97, 98]⟩) = ([], ⟨#[97, 98]⟩) := by
  have h : (⟨#[]⟩ : ByteArray) ++ ⟨#[97, 98]⟩ = ⟨#[97, 98]⟩ := by apply bytes_ext; rfl
  rw [h, fed_stop _ _ _ _ _ _ (by decide)]

set_option maxHeartbeats 1000000 in
theorem awake8_any (w : World) (hL : Laid w) :
    Calls Tryd.prog 19 #[] w fun e w' => e = .returned (.bool true) ∧ Below w.heap.size w w' := by
  have HL := Lib.hid hL
  clear hL
  go_enter Tryd.func19, Tryd.ntmps19
  go_wp2_with fail
  obtain ⟨W0, hW0⟩ : ∃ W0, w.alloc (.cells #[.int .i64 2, .int .i64 4, .int .i64 8] 23) = W0 := ⟨_, rfl⟩
  have hx0 : Box W0 w.heap.size 2 4 8 := by rw [← hW0]; exact Box.new w 2 4 8 _
  have hB0 : Below w.heap.size w W0 := by rw [← hW0]; go_grown
  have hsz : w.heap.size < W0.heap.size := by rw [← hW0]; simp
  rw [hW0]
  clear hW0
  refine Calls.mono (sfeed_any fit248 ⟨#[]⟩ ⟨#[97, 98]⟩ (by decide) _ (HL.out.on hB0)) ?_
  rw [fed_ab]
  rintro e w1 ⟨v, rfl, hS, -, hB1⟩
  obtain ⟨A, c, rfl, -, -, -⟩ := hS
  have hb1 : Below w1.heap.size w1 (w1.alloc (.cells #[.string ⟨#[97, 98]⟩] 32)) := (Below.refl _ _).alloc (Nat.le_refl _) _
  have hlt1 : w.heap.size < w1.heap.size := Nat.lt_of_lt_of_le hsz hB1.size
  obtain ⟨hx1, hx2, hx3⟩ := (hx0.on hB1 hsz).on hb1 hlt1
  have hb : (w1.alloc (.cells #[.string ⟨#[97, 98]⟩] 32)).cell? ⟨w1.heap.size, 0, none⟩ = some (.string ⟨#[97, 98]⟩) := by go_simp
  have HB1 := Lib.hid ((hB0.trans (hB1.mono (Nat.le_of_lt hsz))).trans (hb1.mono (Nat.le_of_lt hlt1)))
  clear hB1 hb1 hx0
  simp only [List.length_nil]
  go_wp2_with (go_at_call 23; refine Calls.mono (end_any fit248 ⟨#[97, 98]⟩ (by decide) _ (HL.out.on HB1.out)) ?_; rintro e w2 ⟨⟨v, rfl, hS2, -, hB2⟩, -⟩; rw [pcs_ab] at hS2; obtain ⟨A2, c2, rfl, -, -, hr⟩ := hS2; obtain ⟨bb, off, rfl, hbb, hcl⟩ := hr.at_ (by simp); have hc := hcl 0 _ rfl; simp only [List.length_singleton, Nat.add_zero] at hc ⊢; have HB2 := Lib.hid (HB1.out.trans (hB2.mono HB1.out.size)); clear hcl hr hB2)
  go_ret
  exact ⟨rfl, HB2.out⟩

/-- What stays so behind calls: the table, whatever lay before. -/
def Held8 (w w' : World) : Prop := Laid w' ∧ Below w.heap.size w w' ∧ w.heap.size + 2 ≤ w'.heap.size
/-- The boxes of parameters and of a stream. -/
def Two (w w' : World) (mn av mx : Int) (t : ByteArray) : Prop :=
  w'.cell? ⟨w.heap.size, 0, none⟩ = some (.int .i64 mn) ∧ w'.cell? ⟨w.heap.size, 1, none⟩ = some (.int .i64 av) ∧ w'.cell? ⟨w.heap.size, 2, none⟩ = some (.int .i64 mx) ∧ w'.cell? ⟨w.heap.size + 1, 0, none⟩ = some (.string t) ∧ Hid (Held8 w w')
theorem Two.on {w w' w2 : World} {mn av mx : Int} {t : ByteArray} (h : Two w w' mn av mx t) (hb : Below w'.heap.size w' w2) : Two w w2 mn av mx t := by
  obtain ⟨a, b, c, d, hd⟩ := h
  have h2 := hd.out.2.2
  exact ⟨(hb.cell (p := ⟨w.heap.size, 0, none⟩) (by dsimp only; omega)).trans a, (hb.cell (p := ⟨w.heap.size, 1, none⟩) (by dsimp only; omega)).trans b, (hb.cell (p := ⟨w.heap.size, 2, none⟩) (by dsimp only; omega)).trans c, (hb.cell (p := ⟨w.heap.size + 1, 0, none⟩) (by dsimp only; omega)).trans d,
    Lib.hid ⟨hd.out.1.on hb, bel hd.out.2.1 hb, Nat.le_trans h2 hb.size⟩⟩
theorem Two.start {w w1 : World} {mn av mx : Int} {t : ByteArray} (hL : Laid w)
    (h : Below ((w.alloc (.cells #[.int .i64 mn, .int .i64 av, .int .i64 mx] 23)).alloc (.cells #[.string t] 32)).heap.size ((w.alloc (.cells #[.int .i64 mn, .int .i64 av, .int .i64 mx] 23)).alloc (.cells #[.string t] 32)) w1) : Two w w1 mn av mx t := by
  have hB0 : Below w.heap.size w ((w.alloc (.cells #[.int .i64 mn, .int .i64 av, .int .i64 mx] 23)).alloc (.cells #[.string t] 32)) := by clear h; go_grown
  refine Two.on ⟨?_, ?_, ?_, ?_, Lib.hid ⟨hL.on hB0, hB0, by simp⟩⟩ h
  all_goals (clear h hB0 hL; go_simp)

theorem sd_keep {w W5 w' : World} {mn av mx : Int} {t x : ByteArray} {g1 g2 : Nat} (HP : Hid (Two w W5 mn av mx t ∧ W5.cell? ⟨g1, 0, none⟩ = some (.string x) ∧ W5.cell? ⟨g2, 0, none⟩ = some (.string x) ∧ g1 < W5.heap.size ∧ g2 < W5.heap.size)) (hB : Hid (Below W5.heap.size W5 w')) :
    w'.cell? ⟨w.heap.size, 0, none⟩ = some (.int .i64 mn) ∧ w'.cell? ⟨w.heap.size, 1, none⟩ = some (.int .i64 av) ∧ w'.cell? ⟨w.heap.size, 2, none⟩ = some (.int .i64 mx) ∧ w'.cell? ⟨w.heap.size + 1, 0, none⟩ = some (.string t) ∧ w'.cell? ⟨g1, 0, none⟩ = some (.string x) ∧ w'.cell? ⟨g2, 0, none⟩ = some (.string x) ∧ Hid (Below W5.heap.size W5 w') := by
  obtain ⟨hT, h1, h2, h3, h4⟩ := HP.out
  obtain ⟨a, b, c, d, -⟩ := hT.on hB.out
  exact ⟨a, b, c, d, (hB.out.cell (p := ⟨g1, 0, none⟩) h3).trans h1, (hB.out.cell (p := ⟨g2, 0, none⟩) h4).trans h2, hB⟩

set_option maxHeartbeats 1000000 in
theorem sdoes_walk (mn av mx : Int) (t s : ByteArray) (w : World) (hL : Laid w) (hm : mn ≤ 9223372036854775807) (ht' : t.size ≤ 9223372036854775807) (hs' : s.size ≤ 9223372036854775807) :
    Calls Tryd.prog 7 #[.agg #[.int .i64 mn, .int .i64 av, .int .i64 mx], .agg #[.string t], .string s] w fun e w' => e = .returned (.bool true) ∧ Below w.heap.size w w' := by
  have HL := Lib.hid hL
  clear hL
  go_enter Tryd.func7, Tryd.ntmps7
  by_cases ha : 3000 < t.size
  · go_wp2_with (go_at_call 19; refine Calls.mono (awake8_any _ (HL.out.on (by go_grown))) ?_; rintro e w1 ⟨rfl, hB1⟩)
    go_ret
    exact ⟨rfl, bel (by go_grown) hB1⟩
  by_cases hc : 3000 < s.size
  · go_wp2_with (go_at_call 19; refine Calls.mono (awake8_any _ (HL.out.on (by go_grown))) ?_; rintro e w1 ⟨rfl, hB1⟩)
    go_ret
    exact ⟨rfl, bel (by go_grown) hB1⟩
  have hd1 : decide ((3000 : Int) < (t.size : Int)) = false := decide_eq_false (by omega)
  have hd2 : decide ((3000 : Int) < (s.size : Int)) = false := decide_eq_false (by omega)
  rcases fitB_cases mn av mx hm with hf | ⟨hf, mn, av, mx, b, rfl, rfl, rfl, hfit⟩
  · have HF := Lib.hid hf
    clear hf
    go_wp2_with (first | (go_at_call 18; refine Calls.mono (sfit_any _ _ _ _) ?_; rintro e w1 ⟨rfl, hB1⟩; rw [HF.out]; have HB1 : Hid (Below w.heap.size w w1) := Lib.hid (bel (by go_grown) hB1); clear hB1) | (go_at_call 19; refine Calls.mono (awake8_any _ (HL.out.on HB1.out)) ?_; rintro e w2 ⟨rfl, hB2⟩))
    go_ret
    exact ⟨rfl, bel HB1.out hB2⟩
  have HF := Lib.hid hf
  clear hf
  have HFit := Lib.hid hfit
  clear hfit
  obtain ⟨r, hr⟩ : ∃ r, r = fed mn av mx b mx (t ++ s) := ⟨_, rfl⟩
  have HR := Lib.hid hr
  clear hr
  go_wp2_with (first
    | (go_at_call 18; refine Calls.mono (sfit_any _ _ _ _) ?_; rintro e w1 ⟨rfl, hB1⟩; rw [HF.out]; have hT1 := Two.start HL.out hB1; have HT1 := Lib.hid hT1; obtain ⟨x1, x2, x3, x4, -⟩ := hT1; clear hB1)
    | (go_at_call 20; refine Calls.mono (sfeed_any HFit.out t s (by omega) _ HT1.out.2.2.2.2.out.1) ?_; rw [← HR.out]; rintro e w2 ⟨v, rfl, hS, -, hB2⟩; have HS2 := Lib.hid hS; clear hS;
        have hb2 : Below w2.heap.size w2 (w2.alloc (.cells #[.string r.2] 32)) := (Below.refl _ _).alloc (Nat.le_refl _) _;
        have hT2 := (HT1.out.on hB2).on hb2; have HT2 := Lib.hid hT2; obtain ⟨y1, y2, y3, y4, -⟩ := hT2; have HS3 := Lib.hid (HS2.out.on hb2); clear hB2 hb2 HS2;
        have hb3 : (w2.alloc (.cells #[.string r.2] 32)).cell? ⟨w2.heap.size, 0, none⟩ = some (.string r.2) := by go_simp)
    | (go_at_call 21; refine Calls.mono (rfeed_any HFit.out t s (by omega) _) ?_; rw [← HR.out]; rintro e w3 ⟨v2, rfl, hS, -, hB3⟩; have HS4 := Lib.hid hS; clear hS; 
        have HB3 := Lib.hid hB3; clear hB3))
  have hb5 : Below w3.heap.size w3 (w3.alloc (.cells #[.string r.2] 32)) := (Below.refl _ _).alloc (Nat.le_refl _) _
  have hlt2 : w2.heap.size < (w2.alloc (.cells #[.string r.2] 32)).heap.size := by simp
  have hlt3 : w3.heap.size < (w3.alloc (.cells #[.string r.2] 32)).heap.size := by simp
  have hlt4 : w2.heap.size < w3.heap.size := Nat.lt_of_lt_of_le hlt2 HB3.out.size
  have hca := (hb5.cell (p := ⟨w2.heap.size, 0, none⟩) hlt4).trans ((HB3.out.cell (p := ⟨w2.heap.size, 0, none⟩) hlt2).trans hb3)
  have hcb : (w3.alloc (.cells #[.string r.2] 32)).cell? ⟨w3.heap.size, 0, none⟩ = some (.string r.2) := by go_simp
  have hT5 := (HT2.out.on HB3.out).on hb5
  have HSl := Lib.hid ((HS3.out.on HB3.out).on hb5)
  have HSm := Lib.hid (HS4.out.on hb5)
  have hlt5 := Nat.lt_of_lt_of_le hlt4 hb5.size
  clear x1 x2 x3 x4 y1 y2 y3 y4 HT1 HT2 HS3 HS4 hb3 HB3 hlt2 hlt4 hb5
  generalize w3.alloc (.cells #[.string r.2] 32) = W5 at *
  have HP := Lib.hid (And.intro hT5 (And.intro hca (And.intro hcb (And.intro hlt5 hlt3))))
  have hS0 := sd_keep HP (Lib.hid (Below.refl W5.heap.size W5).drew)
  clear hT5 hca hcb hlt5 hlt3
  go_region_held3 (fun w' => w'.cell? ⟨w.heap.size, 0, none⟩ = some (.int .i64 mn) ∧ w'.cell? ⟨w.heap.size, 1, none⟩ = some (.int .i64 av) ∧ w'.cell? ⟨w.heap.size, 2, none⟩ = some (.int .i64 mx) ∧ w'.cell? ⟨w.heap.size + 1, 0, none⟩ = some (.string t) ∧ w'.cell? ⟨w2.heap.size, 0, none⟩ = some (.string r.2) ∧ w'.cell? ⟨w3.heap.size, 0, none⟩ = some (.string r.2) ∧ Hid (Below W5.heap.size W5 w'))
    (first
      | exact hS0
      | (go_split_ands; exact sd_keep HP (Lib.hid (bel (Hid.out ‹Hid (Below W5.heap.size W5 _)›) ‹_›))))
    (first
      | (go_at_call 23; refine Calls.mono (end_any HFit.out t (by omega) _ (by first | exact HP.out.1.2.2.2.2.out.1.on (Hid.out ‹Hid (Below W5.heap.size W5 _)›) | (go_split_ands; exact HP.out.1.2.2.2.2.out.1.on (Hid.out ‹Hid (Below W5.heap.size W5 _)›)))) ?_; rintro e we ⟨⟨ve, rfl, hS, -, hBe⟩, -⟩; have HSe := Lib.hid hS; clear hS)
      | (go_at_call 24; refine Calls.mono (rend_any HFit.out t (by omega) _) ?_; rintro e wr ⟨vr, rfl, hS, -, hBr⟩; have HSr := Lib.hid hS; clear hS; have HSe2 := Lib.hid (HSe.out.on hBr))
      | (go_at_call 22; refine Calls.mono (same_any (pcs mn av mx b t) ve vr _ HSe2.out HSr.out) ?_; rintro e ws ⟨rfl, hBs⟩)
      | (go_at_call 22; refine Calls.mono (same_any r.1 v v2 _ (by first | exact HSl.out.on (Hid.out ‹Hid (Below W5.heap.size W5 _)›) | (go_split_ands; exact HSl.out.on (Hid.out ‹Hid (Below W5.heap.size W5 _)›))) (by first | exact HSm.out.on (Hid.out ‹Hid (Below W5.heap.size W5 _)›) | (go_split_ands; exact HSm.out.on (Hid.out ‹Hid (Below W5.heap.size W5 _)›)))) ?_; rintro e ws1 ⟨rfl, hBs1⟩)
      | (go_at_call 19; refine Calls.mono (awake8_any _ (by first | exact HP.out.1.2.2.2.2.out.1.on (Hid.out ‹Hid (Below W5.heap.size W5 _)›) | (go_split_ands; exact HP.out.1.2.2.2.2.out.1.on (Hid.out ‹Hid (Below W5.heap.size W5 _)›)))) ?_; rintro e wk ⟨rfl, hBk⟩))
  go_split_ands
  go_wp2_with fail
  go_ret
  exact ⟨rfl, bel HP.out.1.2.2.2.2.out.2.1 (Hid.out ‹Hid (Below W5.heap.size W5 _)›)⟩

end Go.Proofs.YtkcailgfggbigaaDoor
