/-
  CHAPTER 7's EXAMPLES.
-/
import Derived.Test.YtkcailgfggbigaaDoorPcs
namespace Go.Proofs.YtkcailgfggbigaaDoor
open Go.RowKit Go.Shelf Go.Proofs.Gear Go.Proofs.Mem
attribute [local go_sem] Oper.semAt_some
set_option linter.unusedVariables false

theorem extract_all (s : ByteArray) : s.extract 0 s.size = s := by
  apply ByteArray.ext
  simp
theorem cutN_small (mn av mx b : Nat) (s : ByteArray) (h : s.size ≤ mn) (h1 : mn ≤ mx) : cutN mn av mx b s = s.size := by
  rw [cutN_end _ _ _ _ _ (by intro j hj; omega)]; omega
theorem pcs_small (mn av mx b : Nat) (h : mn ≤ mx) (h1 : 1 ≤ mn) (s : ByteArray) (hs : 0 < s.size) (hm : s.size ≤ mn) : pcs mn av mx b s = [s] := by
  rw [pcs_cons _ _ _ _ h h1 s hs, cutN_small _ _ _ _ _ hm h, extract_all, pcs_nil _ _ _ _ _ (by rw [ByteArray.size_extract]; omega)]
theorem fit248 : FitN 2 4 8 2 := ⟨by decide, by decide, by decide, by decide, by decide, by decide, by decide⟩
theorem pcs_ab : pcs 2 4 8 2 ⟨#[97, 98]⟩ = [⟨#[97, 98]⟩] := pcs_small _ _ _ _ (by decide) (by decide) _ (by decide) (by decide)
theorem pcs_no : pcs 2 4 8 2 ⟨#[]⟩ = [] := pcs_nil _ _ _ _ _ rfl
/-- Parameters lie in a box. -/
def Box (w : World) (g : Nat) (mn av mx : Int) : Prop := w.cell? ⟨g, 0, none⟩ = some (.int .i64 mn) ∧ w.cell? ⟨g, 1, none⟩ = some (.int .i64 av) ∧ w.cell? ⟨g, 2, none⟩ = some (.int .i64 mx)
theorem Box.on {w w' : World} {g B : Nat} {mn av mx : Int} (h : Box w g mn av mx) (hb : Below B w w') (hg : g < B) : Box w' g mn av mx :=
  ⟨(hb.cell (p := ⟨g, 0, none⟩) hg).trans h.1, (hb.cell (p := ⟨g, 1, none⟩) hg).trans h.2.1, (hb.cell (p := ⟨g, 2, none⟩) hg).trans h.2.2⟩
theorem Box.new (w : World) (mn av mx : Int) (t : TypeId) : Box (w.alloc (.cells #[.int .i64 mn, .int .i64 av, .int .i64 mx] t)) w.heap.size mn av mx :=
  ⟨by go_simp, by go_simp, by go_simp⟩

set_option maxHeartbeats 4000000 in
theorem awake_any (w : World) (hL : Laid w) :
    Calls Tryd.prog 13 #[] w fun e w' => e = .returned (.bool true) ∧ Below w.heap.size w w' := by
  have HL := Lib.hid hL
  clear hL
  go_enter Tryd.func13, Tryd.ntmps13
  go_wp2_with fail
  obtain ⟨W0, hW0⟩ : ∃ W0, w.alloc (.cells #[.int .i64 2, .int .i64 4, .int .i64 8] 23) = W0 := ⟨_, rfl⟩
  have hx0 : Box W0 w.heap.size 2 4 8 := by rw [← hW0]; exact Box.new w 2 4 8 _
  have hB0 : Below w.heap.size w W0 := by rw [← hW0]; go_grown
  have hsz : w.heap.size < W0.heap.size := by rw [← hW0]; simp
  rw [hW0]
  clear hW0
  refine Calls.mono (pieces_any fit248 ⟨#[97, 98]⟩ (by decide) _ (HL.out.on hB0)) ?_
  rintro e w1 ⟨v, rfl, hS, -, hB1⟩
  rw [pcs_ab] at hS
  obtain ⟨A, c, rfl, hc1, hc2, hr⟩ := hS
  obtain ⟨bb, off, rfl, hbb, hcl⟩ := hr.at_ (by simp)
  have hc := hcl 0 _ rfl
  obtain ⟨hx1, hx2, hx3⟩ := hx0.on hB1 hsz
  simp only [List.length_singleton, Nat.add_zero] at hc hc1 ⊢
  have hsz2 := hB1.size
  have HB1 := Lib.hid (hB0.trans (hB1.mono (Nat.le_of_lt hsz)))
  clear hcl hr hB1 hB0 hx0
  have hsz1 := HB1.out.size
  go_wp2_with fail
  refine Calls.mono (pieces_any fit248 ⟨#[]⟩ (by decide) _ (HL.out.on HB1.out)) ?_
  rintro e w2 ⟨v, rfl, hS2, -, hB2⟩
  rw [pcs_no] at hS2
  obtain ⟨A2, c2, rfl, -, -, -⟩ := hS2
  obtain ⟨hy1, hy2, hy3⟩ := Box.on (B := w1.heap.size) (w' := w2) (g := w.heap.size) ⟨hx1, hx2, hx3⟩ hB2 (by omega)
  have HB2 := Lib.hid (bel HB1.out hB2)
  clear hB2 hx1 hx2 hx3 hc
  simp only [List.length_nil]
  have hf1 : fitB 2 4 8 = true := by decide +kernel
  have hf2 : fitB 0 0 0 = false := by decide +kernel
  have HF1 := Lib.hid hf1
  have HF2 := Lib.hid hf2
  clear hf1 hf2
  go_wp2_with (go_at_call 11; refine Calls.mono (fit_any _ _ _ (by decide) _) ?_; rintro e w3 ⟨rfl, hB3⟩; first | (rw [HF1.out]; clear HF1; have HB3 := Lib.hid (bel HB2.out hB3); clear hB3) | (rw [HF2.out]; have HB4 := Lib.hid (bel HB3.out hB3); clear hB3))
  go_ret
  exact ⟨rfl, HB4.out⟩

end Go.Proofs.YtkcailgfggbigaaDoor
