/-
  StreamWhole: a text that comes by parts, however it is parted, has the pieces that it has at once: for any parameters, any texts the law returns true. Conditions: none on the arguments; the given card lays what two tables of package bits hold behind the program's start.
-/
import Derived.Test.YtkcailgfggbigaaDoorSWhole
import Derived.Test.YtkcailgfggbigaaDoorOpenP
import Derived.Test.YtkcailgfggbigaaDoorOpen
import Derived.Test.YtkcailgfggbigaaDoorTie
import Derived.Test.YtkcailgfggbigaaDoorCards
import Derived.SevenTiedAt
import Derived.ChangeMaps5
namespace Go.Proofs.YtkcailgfggbigaaDoor
open Go.ChangeShapes Go.WideShapes Go.ChangeAt Go.RowKit
open Go.ChangeMaps (open_string shut_string)
set_option linter.unusedVariables false

theorem params_okStreamWhole : (Tryd.f8.params.toList.all fun t => Tryd.prog.readableRec t && decide (t < Tryd.prog.types.size)) = true := by kernel_rfl

set_option maxRecDepth 100000 in
theorem liftedStreamWhole (os : Os) (started : os.Started) (H : Type) (enc : TypeId × Value → H) :
    ReturnsInHanded {} Tryd.checked os 8 .any (fun w args => (Rows.streamWholeSpec.pre enc Tryd.prog Tryd.f8 [] false w args ∧ laidMetH Tryd.prog laidL w) ∧ sizedMet enc Tryd.prog Tryd.f8 (OpenSpec.ofChange Rows.streamWholeSpec) false w args)
      (Rows.streamWholeSpec.post enc Tryd.prog Tryd.f8 false true false false) := by
  refine returnsInHanded_of_change_and (C := Tryd.checked) (X := fun w _ => laidMetH Tryd.prog laidL w) (fun _ _ _ hh h => h.of_heap hh) Shell.own started (by kernel_rfl) Tryd.func8
    (ChangeSpec.witness_at (enc := enc) (C := Tryd.checked) (os := os) (X := fun w _ => laidMetH Tryd.prog laidL w) false (World.laidAll Tryd.prog os laidL) #[.agg #[.int .i64 0, .int .i64 0, .int .i64 0], .slice none 0 0] 8 (World.laidAll_os _ _ _) (by kernel_rfl) (by kernel_rfl) (by kernel_rfl) (by kernel_rfl) (by kernel_rfl) (laid_witness os _)) ?_
  intro W base args ds gs before hval0 hW hcnd _ hL _
  have hval : ∀ (j : Nat) t v, Tryd.f8.params[j]? = some t → args[j]? = some v → Value.okWide Tryd.prog W .any base t v := hval0
  have hW' := hW
  obtain ⟨p, q, hA0, hV, rfl, hfz, hnd⟩ := hW
  have hA : DataW.TrodAll enc Tryd.prog W 0 (fun _ => true) true Tryd.f8.params.toList args.toList ds p := hA0
  have hK := hA
  have hlt := DataW.TrodAll.lt hA
  rw [Tryd.params8] at hA hval
  obtain ⟨v0, vs0, d0, ds0, p0, q0, hargs, rfl, rfl, h0, r0⟩ := trodAll_cons hA
  obtain ⟨v1, vs1, d1, ds1, p1, q1, rfl, rfl, rfl, h1, r1⟩ := trodAll_cons r0
  obtain ⟨rfl, rfl, rfl⟩ := trodAll_nil r1
  obtain rfl : args = #[v0, v1] := by cases args; simp_all
  obtain ⟨rfl, rfl⟩ := trodVars_none hV
  obtain ⟨mn, av, mx, rfl, hm1, hm2⟩ := open_params (hval 0 23 v0 rfl rfl) h0
  have hLaid := laid_of_met hL
  have s1 := okWide_slice Tryd.underlying26 (hval 1 26 v1 rfl rfl)
  obtain ⟨A1, m1, c1, rfl⟩ := s1
  obtain ⟨ls, hn, hnc, hcm, hR, _⟩ := open_strs Tryd.underlying26 Tryd.underlying9 (by kernel_rfl) h1
  subst hn
  clear hA0 hval0
  refine (swhole_walk mn av mx _ ls W hLaid hm1 ⟨A1, c1, rfl, hnc, hcm, hR⟩).mono fun e W' ⟨he, bel⟩ => ?_
  subst he
  exact ⟨_, rfl, _, _, _, [], _, [], hW', trodAll_mk1 (shut_bool Tryd.underlying4 _), Shell.trodAll_below Shell.laidOut bel hK params_okStreamWhole hlt, rfl, bel.frame _, fun h => by cases h⟩

theorem overStreamWhole : Rows.streamWholeRow.holds Tryd.pinned (OpenSpec.ofChange Rows.streamWholeSpec) :=
  OpenClaim.holds_of_wide 8 Tryd.f8 rfl rfl rfl rfl rfl rfl rfl ⟨rfl, rfl, rfl, rfl, rfl⟩ rfl rfl rfl rfl rfl (by kernel_rfl) Tryd.func8 (by kernel_rfl)
    (of_decide_eq_true (by kernel_rfl)) (by unfold Func.isWrapper; first | (rw [if_pos (by decide +kernel)]; kernel_rfl) | (rw [if_neg (by decide +kernel)]; exact ⟨rfl, rfl⟩))
    (fun os started H enc _ => liftedStreamWhole os started H enc)

theorem noStandInStreamWhole : ∀ (j : Nat) t, Tryd.f8.params[j]? = some t → Tryd.prog.wantsStandIn t = false := by
  intro j t ht
  have h : (Tryd.f8.params.toList.all fun t => !Tryd.prog.wantsStandIn t) = true := by kernel_rfl
  have hm : t ∈ Tryd.f8.params.toList := Array.mem_toList_iff.2 (Array.mem_of_getElem? ht)
  simpa using List.all_eq_true.1 h t hm

/-- THE STATEMENT. -/
theorem streamWhole_holds : Rows.StreamWholeCardSaid :=
  Claim7.holds_tied_plain_at .later [] [.data, .data] true Rows.streamWholeCard.stood.harness Rows.streamWholeCard.stood.looks
    overStreamWhole (fun _ h => by cases h) (by kernel_rfl) (fun _ h => by cases h) streamWhole_row_tie rfl ⟨rfl, rfl⟩ (by kernel_rfl) rfl
    (fun f fn hf hfn => by
      obtain rfl : f = 8 := Option.some.inj ((show Tryd.prog.funcNamed "silo/silolaw08.StreamWhole" = some 8 by kernel_rfl).symm.trans hf) |>.symm
      obtain rfl : fn = Tryd.f8 := (Option.some.inj (Tryd.func8.symm.trans hfn)).symm
      exact ⟨by kernel_rfl, noStandInStreamWhole⟩)
    (by kernel_rfl)

#print axioms streamWhole_holds

end Go.Proofs.YtkcailgfggbigaaDoor
