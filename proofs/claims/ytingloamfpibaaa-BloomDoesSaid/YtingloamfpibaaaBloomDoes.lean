/-
  BloomDoes: sieves, which can be, keys more, whether a key may be there, joined ones, and how many bits are set, are the document's: for every two sieves, all numbers, all keys the law returns true. No conditions.
-/
import Derived.Test.YtingloamfpibaaaBDoes
import Derived.Test.YtingloamfpibaaaBOpen
namespace Go.Proofs.Ytingloamfpibaaa
open Go.ChangeShapes Go.WideShapes Go.ChangeAt Go.RowKit Go.Proofs.Mem
open Go.ChangeMaps (open_string shut_string)

theorem params_okBloomDoes : (Try.f3.params.toList.all fun t => Try.prog.readableRec t && decide (t < Try.prog.types.size)) = true := by kernel_rfl

set_option maxRecDepth 100000 in
theorem liftedBloomDoes (os : Os) (started : os.Started) (H : Type) (enc : TypeId × Value → H) :
    ReturnsInHanded {} Try.checked os 3 .any (Rows.bloomDoesSpec.pre6 enc Try.prog Try.f3 Rows.bloomDoesRow.domain false) (Rows.bloomDoesSpec.post enc Try.prog Try.f3 false true false false) := by
  refine returnsInHanded_of_change (C := Try.checked) Shell.own started (by kernel_rfl) Try.func3
    (ChangeSpec.witness6 (enc := enc) (C := Try.checked) false ⟨#[], #[.agg #[.int .i64 0, .int .i64 0, .string ByteArray.empty], .agg #[.int .i64 0, .int .i64 0, .string ByteArray.empty], .int .i64 0, .int .i64 0, .slice none 0 0], []⟩ 8 (by kernel_rfl) (by kernel_rfl) (by kernel_rfl) (by kernel_rfl)) ?_
  intro W base args ds gs before hval0 hW hcnd _
  have hval : ∀ (j : Nat) t v, Try.f3.params[j]? = some t → args[j]? = some v → Value.okWide Try.prog W .any base t v := hval0
  have hW' := hW
  obtain ⟨p, q, hA0, hV, rfl, hfz, hnd⟩ := hW
  have hA : DataW.TrodAll enc Try.prog W 0 (fun _ => true) true Try.f3.params.toList args.toList ds p := hA0
  have hK := hA
  have hlt := DataW.TrodAll.lt hA
  rw [Try.params3] at hA hval
  obtain ⟨v0, vs0, d0, ds0, p0, q0, hargs, rfl, rfl, h0, r0⟩ := trodAll_cons hA
  obtain ⟨v1, vs1, d1, ds1, p1, q1, rfl, rfl, rfl, h1, r1⟩ := trodAll_cons r0
  obtain ⟨v2, vs2, d2, ds2, p2, q2, rfl, rfl, rfl, h2, r2⟩ := trodAll_cons r1
  obtain ⟨v3, vs3, d3, ds3, p3, q3, rfl, rfl, rfl, h3, r3⟩ := trodAll_cons r2
  obtain ⟨v4, vs4, d4, ds4, p4, q4, rfl, rfl, rfl, h4, r4⟩ := trodAll_cons r3
  obtain ⟨rfl, rfl, rfl⟩ := trodAll_nil r4
  obtain rfl : args = #[v0, v1, v2, v3, v4] := by cases args; simp_all
  obtain ⟨rfl, rfl⟩ := trodVars_none hV
  obtain ⟨a2, rfl, rfl, rfl, w2⟩ := open_int Try.underlying3 (hval 2 3 v2 rfl rfl) h2
  obtain ⟨a3, rfl, rfl, rfl, w3⟩ := open_int Try.underlying3 (hval 3 3 v3 rfl rfl) h3
  have s4 := okWide_slice Try.underlying24 (hval 4 24 v4 rfl rfl)
  obtain ⟨ai, ah, sa, rfl, hai, hsa⟩ := open_blo (hval 0 23 v0 rfl rfl) h0
  obtain ⟨bi, bh, sb, rfl, hbi, hsb⟩ := open_blo (hval 1 23 v1 rfl rfl) h1
  have b2 := bounds_i64 w2
  obtain ⟨A4, n4, c4, rfl⟩ := s4
  obtain ⟨ls, hn, hnc, hcm, hR, _⟩ := open_strs Try.underlying24 Try.underlying9 (by kernel_rfl) h4
  clear hA0 hval0
  refine (does_walk ai ah bi bh a2 a3 sa sb ls (.slice A4 n4 c4) W ⟨A4, c4, by rw [hn], by omega, hcm, hR⟩ (by omega) (by omega) hai hbi (by unfold maxLen at hsa; omega) (by unfold maxLen at hsb; omega)).mono fun e W' ⟨he, bel⟩ => ?_
  subst he
  exact ⟨_, rfl, _, _, _, [], _, [], hW', trodAll_mk1 (shut_bool Try.underlying4 _), Shell.trodAll_below Shell.laidOut bel hK params_okBloomDoes hlt, rfl, bel.frame _, fun h => by cases h⟩

theorem overBloomDoes : Rows.bloomDoesRow.holds Try.pinned (OpenSpec.ofChange Rows.bloomDoesSpec) :=
  OpenClaim.holds_of_wide 3 Try.f3 rfl rfl rfl rfl rfl rfl rfl ⟨rfl, rfl, rfl, rfl, rfl⟩ rfl rfl rfl rfl rfl (by kernel_rfl) Try.func3 (by kernel_rfl)
    (of_decide_eq_true (by kernel_rfl)) (by unfold Func.isWrapper; first | (rw [if_pos (by decide +kernel)]; kernel_rfl) | (rw [if_neg (by decide +kernel)]; exact ⟨rfl, rfl⟩))
    (fun os started H enc _ => liftedBloomDoes os started H enc)

/-- THE STATEMENT. -/
theorem bloomDoes_holds : Rows.BloomDoesSaid := overBloomDoes

#print axioms bloomDoes_holds

end Go.Proofs.Ytingloamfpibaaa
