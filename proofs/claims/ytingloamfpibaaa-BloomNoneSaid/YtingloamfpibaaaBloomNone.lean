/-
  BloomNone: none is missed: what was added may be there, in joined sieves, too; bits that are set stay, at most as many more as a key sets; without keys nothing may be there: for all numbers, all keys the law returns true. No conditions.
-/
import Derived.Test.YtingloamfpibaaaBNone
import Derived.Test.YtingloamfpibaaaBOpen
namespace Go.Proofs.Ytingloamfpibaaa
open Go.ChangeShapes Go.WideShapes Go.ChangeAt Go.RowKit Go.Proofs.Mem
open Go.ChangeMaps (open_string shut_string)

theorem params_okBloomNone : (Try.f4.params.toList.all fun t => Try.prog.readableRec t && decide (t < Try.prog.types.size)) = true := by kernel_rfl

set_option maxRecDepth 100000 in
theorem liftedBloomNone (os : Os) (started : os.Started) (H : Type) (enc : TypeId × Value → H) :
    ReturnsInHanded {} Try.checked os 4 .any (Rows.bloomNoneSpec.pre6 enc Try.prog Try.f4 Rows.bloomNoneRow.domain false) (Rows.bloomNoneSpec.post enc Try.prog Try.f4 false true false false) := by
  refine returnsInHanded_of_change (C := Try.checked) Shell.own started (by kernel_rfl) Try.func4
    (ChangeSpec.witness6 (enc := enc) (C := Try.checked) false ⟨#[], #[.int .u8 0, .int .u8 0, .slice none 0 0, .slice none 0 0], []⟩ 8 (by kernel_rfl) (by kernel_rfl) (by kernel_rfl) (by kernel_rfl)) ?_
  intro W base args ds gs before hval0 hW hcnd _
  have hval : ∀ (j : Nat) t v, Try.f4.params[j]? = some t → args[j]? = some v → Value.okWide Try.prog W .any base t v := hval0
  have hW' := hW
  obtain ⟨p, q, hA0, hV, rfl, hfz, hnd⟩ := hW
  have hA : DataW.TrodAll enc Try.prog W 0 (fun _ => true) true Try.f4.params.toList args.toList ds p := hA0
  have hK := hA
  have hlt := DataW.TrodAll.lt hA
  rw [Try.params4] at hA hval
  obtain ⟨v0, vs0, d0, ds0, p0, q0, hargs, rfl, rfl, h0, r0⟩ := trodAll_cons hA
  obtain ⟨v1, vs1, d1, ds1, p1, q1, rfl, rfl, rfl, h1, r1⟩ := trodAll_cons r0
  obtain ⟨v2, vs2, d2, ds2, p2, q2, rfl, rfl, rfl, h2, r2⟩ := trodAll_cons r1
  obtain ⟨v3, vs3, d3, ds3, p3, q3, rfl, rfl, rfl, h3, r3⟩ := trodAll_cons r2
  obtain ⟨rfl, rfl, rfl⟩ := trodAll_nil r3
  obtain rfl : args = #[v0, v1, v2, v3] := by cases args; simp_all
  obtain ⟨rfl, rfl⟩ := trodVars_none hV
  obtain ⟨a0, rfl, rfl, rfl, w0⟩ := open_int Try.underlying5 (hval 0 5 v0 rfl rfl) h0
  obtain ⟨a1, rfl, rfl, rfl, w1⟩ := open_int Try.underlying5 (hval 1 5 v1 rfl rfl) h1
  have s2 := okWide_slice Try.underlying24 (hval 2 24 v2 rfl rfl)
  have s3 := okWide_slice Try.underlying24 (hval 3 24 v3 rfl rfl)
  have b0 := bounds_u8 w0
  have b1 := bounds_u8 w1
  obtain ⟨x0, rfl⟩ : ∃ x : Nat, a0 = x := ⟨a0.toNat, by omega⟩
  obtain ⟨x1, rfl⟩ : ∃ x : Nat, a1 = x := ⟨a1.toNat, by omega⟩
  obtain ⟨A2, n2, c2, rfl⟩ := s2
  obtain ⟨A3, n3, c3, rfl⟩ := s3
  obtain ⟨ls, hn, hnc, hcm, hR, _⟩ := open_strs Try.underlying24 Try.underlying9 (by kernel_rfl) h2
  obtain ⟨lo, hn3, hnc3, hcm3, hR3, _⟩ := open_strs Try.underlying24 Try.underlying9 (by kernel_rfl) h3
  clear hA0 hval0
  refine (none_walk x0 x1 ls lo (.slice A2 n2 c2) (.slice A3 n3 c3) W ⟨A2, c2, by rw [hn], by omega, hcm, hR⟩ ⟨A3, c3, by rw [hn3], by omega, hcm3, hR3⟩ (by omega) (by omega)).mono fun e W' ⟨he, bel⟩ => ?_
  subst he
  exact ⟨_, rfl, _, _, _, [], _, [], hW', trodAll_mk1 (shut_bool Try.underlying4 _), Shell.trodAll_below Shell.laidOut bel hK params_okBloomNone hlt, rfl, bel.frame _, fun h => by cases h⟩

theorem overBloomNone : Rows.bloomNoneRow.holds Try.pinned (OpenSpec.ofChange Rows.bloomNoneSpec) :=
  OpenClaim.holds_of_wide 4 Try.f4 rfl rfl rfl rfl rfl rfl rfl ⟨rfl, rfl, rfl, rfl, rfl⟩ rfl rfl rfl rfl rfl (by kernel_rfl) Try.func4 (by kernel_rfl)
    (of_decide_eq_true (by kernel_rfl)) (by unfold Func.isWrapper; first | (rw [if_pos (by decide +kernel)]; kernel_rfl) | (rw [if_neg (by decide +kernel)]; exact ⟨rfl, rfl⟩))
    (fun os started H enc _ => liftedBloomNone os started H enc)

/-- THE STATEMENT. -/
theorem bloomNone_holds : Rows.BloomNoneSaid := overBloomNone

#print axioms bloomNone_holds

end Go.Proofs.Ytingloamfpibaaa
