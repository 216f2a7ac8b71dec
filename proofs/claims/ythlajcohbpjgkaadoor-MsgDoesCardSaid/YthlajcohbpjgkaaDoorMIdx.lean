/-
  strings.IndexAny of any text of at most eight bytes, at two bytes.
-/
import Derived.Test.YthlajcohbpjgkaaDoorShelf
import Derived.Test.YthlajcohbpjgkaaDoorMNam
import Derived.Laws.RangeAny
import Derived.Lib.DecodeN
import Derived.WalkMore
namespace Go.Proofs.YthlajcohbpjgkaaDoor
open Go.RowKit Go.Shelf Go.Proofs.Mem
set_option linter.unusedVariables false

theorem quiet_add_same {P : Program} {f : FuncId} {args : Array Value} {w : World} {a n : Nat} {v : Value}
    (h : Calls P f args (w.drewN (a + n)) fun e w' => e = .returned v ∧ w' = w.drewN (a + n)) :
    Calls P f args (w.drewN (a + n)) fun e w'' => e = .returned v ∧ ∃ m, w'' = w.drewN (a + m) :=
  h.mono fun _ _ ⟨he, hm⟩ => ⟨he, n, hm⟩
def sep2 : ByteArray := ⟨#[0, 47]⟩

set_option maxRecDepth 100000 in
set_option maxHeartbeats 2000000 in
theorem irune_bad (r : Int) (w : World) (h0 : 128 ≤ r) (h1 : r ≤ 2147483647) (he : ¬ r = 65533) (hv : Lib.validRune r = false) :
    Calls Tryd.prog 66 #[.string ⟨#[0, 47]⟩, .int .i32 r] w fun e w' => e = .returned (.int .i64 (-1)) ∧ Below w.heap.size w w' := by
  have e1 : (r == 65533) = false := beq_eq_false_iff_ne.2 he
  have d0 : decide (r < 128) = false := decide_eq_false (by omega)
  have HV := Lib.hid hv
  clear hv he
  go_enter Tryd.func66, Tryd.ntmps66
  go_wp2_with (go_at_call 72; refine (Tryd.utf8_ValidRune _ _).mono ?_; rw [HV.out]; rintro e w1 ⟨rfl, rfl⟩)
  go_ret
  exact ⟨rfl, Below.refl _ _⟩

set_option maxRecDepth 100000 in
set_option maxHeartbeats 2000000 in
theorem irune_err (w : World) :
    Calls Tryd.prog 66 #[.string ⟨#[0, 47]⟩, .int .i32 65533] w fun e w' => e = .returned (.int .i64 (-1)) ∧ Below w.heap.size w w' := by
  have n0 := fun ty => run_next_ascii (P := Tryd.prog) w ⟨#[0, 47]⟩ 0 ty (by decide) (by decide)
  have n1 := fun ty => run_next_ascii (P := Tryd.prog) w ⟨#[0, 47]⟩ 1 ty (by decide) (by decide)
  have n2 := fun ty => run_next_end (P := Tryd.prog) w ⟨#[0, 47]⟩ 2 ty (by decide)
  have g0 : (⟨#[0, 47]⟩ : ByteArray)[0].toNat = 0 := rfl
  have g1 : (⟨#[0, 47]⟩ : ByteArray)[1].toNat = 47 := rfl
  go_enter Tryd.func66, Tryd.ntmps66
  go_wp2_with fail
  refine wp_loop_rounds 3 ?_
  rw [rounds_succ]
  go_wp2_with fail
  rw [rounds_succ]
  go_wp2_with fail
  rw [rounds_succ]
  go_wp2_with fail
  go_ret
  exact ⟨rfl, (Below.refl _ _).alloc (Nat.le_refl _) _⟩

theorem ofNat_hi (n : Nat) (h : 128 ≤ n) (h2 : n < 256) : 128 ≤ (UInt8.ofNat n).toNat := by rw [UInt8.toNat_ofNat']; omega
theorem enc_high (r : Int) (h0 : 128 ≤ r) : ((Utf8.encode r).size = 2 ∧ ∃ b c : UInt8, Utf8.encode r = ⟨#[b, c]⟩ ∧ 128 ≤ c.toNat) ∨ 3 ≤ (Utf8.encode r).size ∧ (Utf8.encode r).size ≤ 4 := by
  obtain ⟨c, hc⟩ : ∃ c, c = (if Utf8.valid r then r.toNat else Utf8.runeError) := ⟨_, rfl⟩
  have hlo : 128 ≤ c := by
    rw [hc]
    split
    · omega
    · decide
  unfold Utf8.encode
  rw [← hc]
  dsimp only
  rw [if_neg (by omega)]
  split
  · exact .inl ⟨rfl, _, _, rfl, ofNat_hi _ (by omega) (by omega)⟩
  · split
    · exact .inr ⟨by show 3 ≤ 3; omega, by show 3 ≤ 4; omega⟩
    · exact .inr ⟨by show 3 ≤ 4; omega, by show 4 ≤ 4; omega⟩

set_option maxRecDepth 100000 in
set_option maxHeartbeats 2000000 in
theorem irune_high (r : Int) (w : World) (h0 : 128 ≤ r) (h1 : r ≤ 2147483647) (he : ¬ r = 65533) (hv : Lib.validRune r = true) :
    Calls Tryd.prog 66 #[.string ⟨#[0, 47]⟩, .int .i32 r] w fun e w' => e = .returned (.int .i64 (-1)) ∧ Below w.heap.size w w' := by
  have e1 : (r == 65533) = false := beq_eq_false_iff_ne.2 he
  have d0 : decide (r < 128) = false := decide_eq_false (by omega)
  have HV := Lib.hid hv
  clear hv he
  rcases enc_high r h0 with ⟨hz, b, c, hE, hc⟩ | ⟨h3, h4⟩
  · clear hz
    have q1 : ((47 : Int) == (c.toNat : Int)) = false := beq_eq_false_iff_ne.2 (by omega)
    have q2 : ((47 : Int) != (c.toNat : Int)) = true := by rw [bne, q1]; rfl
    have g1 : (⟨#[0, 47]⟩ : ByteArray)[1].toNat = 47 := rfl
    have g2 : (⟨#[b, c]⟩ : ByteArray)[1]'(by show 1 < 2; omega) = c := rfl
    go_enter Tryd.func66, Tryd.ntmps66
    go_wp2_with (go_at_call 72; refine (Tryd.utf8_ValidRune _ _).mono ?_; rw [HV.out]; rintro e w1 ⟨rfl, rfl⟩)
    apply wp_scope_straight
    go_wp2_with fail
    refine wp_loop_rounds 1 ?_
    rw [rounds_succ]
    go_wp2_with fail
    apply wp_scope_straight
    go_wp2_with fail
    go_quiet (fail)
    go_wp2_with fail
    go_quiet ((go_at_call 71; exact quiet_add_same (Tryd.strings_IndexByte _ _ _)))
    go_wp2_with fail
    simp only [Exit.noGoto_ret, Exit.inBlock, Exit.then]
    go_ret
    exact ⟨rfl, by first | exact Below.refl _ _ | (go_grown; all_goals (refine below_drewN ?_ _; go_grown))⟩
  · have q1 : decide (((Utf8.encode r).size : Int) - 1 < 2) = false := decide_eq_false (by omega)
    go_enter Tryd.func66, Tryd.ntmps66
    go_wp2_with (go_at_call 72; refine (Tryd.utf8_ValidRune _ _).mono ?_; rw [HV.out]; rintro e w1 ⟨rfl, rfl⟩)
    apply wp_scope_straight
    go_wp2_with fail
    refine wp_loop_rounds 1 ?_
    rw [rounds_succ]
    go_wp2_with fail
    simp only [Exit.noGoto_ret, Exit.inBlock]
    go_ret
    exact ⟨rfl, by first | exact Below.refl _ _ | (go_grown; all_goals (refine below_drewN ?_ _; go_grown))⟩

theorem irune_any (r : Int) (w : World) (h0 : 128 ≤ r) (h1 : r ≤ 2147483647) :
    Calls Tryd.prog 66 #[.string ⟨#[0, 47]⟩, .int .i32 r] w fun e w' => e = .returned (.int .i64 (-1)) ∧ Below w.heap.size w w' := by
  by_cases he : r = 65533
  · subst he; exact irune_err w
  · cases hv : Lib.validRune r with
    | true => exact irune_high r w h0 h1 he hv
    | false => exact irune_bad r w h0 h1 he hv

end Go.Proofs.YthlajcohbpjgkaaDoor
