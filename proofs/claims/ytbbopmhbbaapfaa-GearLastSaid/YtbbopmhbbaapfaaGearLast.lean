/-
  GearLast: a hash hangs on the last 64 bytes alone: for all texts and all 64 bytes the law returns true. No conditions.
-/
import Derived.Test.YtbbopmhbbaapfaaLawC
import Derived.Test.YtbbopmhbbaapfaaShell
namespace Go.Proofs.Ytbbopmhbbaapfaa
open Go.ChangeShapes Go.WideShapes Go.ChangeAt Go.RowKit
open Go.ChangeMaps (open_string shut_string)

theorem open_bytes64 {P : Program} {H : Type} {enc : TypeId × Value → H} {W : World} {r : Reach} {b0 t e : TypeId} {n : Nat} {v : Value} {d : DataW H} {p : List MemPlace} {sp : Nat → Bool} {hd : Bool} (ht : P.underlying t = some (.array n e)) (he : P.underlying e = some (.int .u8)) (hC : P.cellsOf e = 1)
    (hv : Value.okWide P W r b0 t v) (h : DataW.Trod enc P W 0 sp hd t v d p) : ∃ (cs : Array Value) (xs : List Int), v = .agg cs ∧ xs.length = n ∧ ∀ i, i < n → cs[i]? = some (.int .u8 (xs.getD i 0)) := by
  simp only [Value.okWide, ht] at hv
  obtain ⟨cs, rfl, _, _⟩ := hv
  obtain ⟨fuel, hf⟩ := h
  obtain ⟨ys, m, _, _, hl, hy, hi⟩ := DataW.trod_array ht hf
  simp only [Value.cells] at hi hl
  have key : ∀ i, i < n → ∃ z : Int, cs[i]? = some (.int .u8 z) := by
    intro i hin
    have h1 := hi i hin
    rw [hC, Nat.mul_one] at h1
    have hyi : ys[i]? = some (ys[i]'(by omega)) := List.getElem?_eq_getElem (by omega)
    rw [hyi] at h1
    obtain ⟨z, hz, _⟩ := DataW.trod_int he h1
    have : (cs.toList.drop i).head? = some (.int .u8 z) := by
      have h2 := List.head?_take (l := cs.toList.drop i) (i := 1)
      rw [hz] at h2
      simpa using h2.symm
    rw [List.head?_drop] at this
    exact ⟨z, by simpa using this⟩
  refine ⟨cs, (List.range n).map fun i => intOf (cs.getD i undef), rfl, by simp, fun i hin => ?_⟩
  obtain ⟨z, hz⟩ := key i hin
  simp [hz, hin, intOf]

theorem params_okGearLast : (Try.f4.params.toList.all fun t => Try.prog.readableRec t && decide (t < Try.prog.types.size)) = true := by kernel_rfl

set_option maxRecDepth 100000 in
theorem liftedGearLast (os : Os) (started : os.Started) (H : Type) (enc : TypeId × Value → H) :
    ReturnsInHanded {} Try.checked os 4 .any (Rows.gearLastSpec.pre6 enc Try.prog Try.f4 Rows.gearLastRow.domain false) (Rows.gearLastSpec.post enc Try.prog Try.f4 false true false false) := by
  refine returnsInHanded_of_change (C := Try.checked) Shell.own started (by kernel_rfl) Try.func4
    (ChangeSpec.witness6 (enc := enc) (C := Try.checked) false ⟨#[], #[.string ByteArray.empty, .string ByteArray.empty, .agg (Array.replicate 64 (.int .u8 0))], []⟩ 8 (by kernel_rfl) (by kernel_rfl) (by kernel_rfl) (by kernel_rfl)) ?_
  intro W base args ds gs before hval0 hW hcnd _
  have hval : ∀ (j : Nat) t v, Try.f4.params[j]? = some t → args[j]? = some v → Value.okWide Try.prog W .any base t v := hval0
  have hW' := hW
  obtain ⟨p, q, hA0, hV, rfl, hfz, hnd⟩ := hW
  have hA : DataW.TrodAll enc Try.prog W 0 (fun _ => true) true Try.f4.params.toList args.toList ds p := hA0
  have hK := hA
  have hlt := DataW.TrodAll.lt hA
  rw [Try.params4] at hA hval
  obtain ⟨v0, vs0, d0, ds0, p0, q0, hargs, rfl, rfl, h0, r0⟩ := trodAll_cons hA
  obtain ⟨v1, vs1, d1, ds1, p1, q1, rfl, rfl, rfl, h1, r1⟩ := trodAll_cons r0
  obtain ⟨v2, vs2, d2, ds2, p2, q2, rfl, rfl, rfl, h2, r2⟩ := trodAll_cons r1
  obtain ⟨rfl, rfl, rfl⟩ := trodAll_nil r2
  obtain rfl : args = #[v0, v1, v2] := by cases args; simp_all
  obtain ⟨rfl, rfl⟩ := trodVars_none hV
  obtain ⟨a0, rfl, rfl, rfl, w0⟩ := open_string Try.underlying9 (hval 0 9 v0 rfl rfl) h0
  obtain ⟨a1, rfl, rfl, rfl, w1⟩ := open_string Try.underlying9 (hval 1 9 v1 rfl rfl) h1
  obtain ⟨cs, xs, rfl, hxl, hx⟩ := open_bytes64 Try.underlying28 Try.underlying5 (by kernel_rfl) (hval 2 28 v2 rfl rfl) h2
  clear hA0 hval0
  refine (last_walk a0 a1 w0 w1 cs xs hxl hx W).mono fun e W' ⟨he, bel⟩ => ?_
  subst he
  exact ⟨_, rfl, _, _, _, [], _, [], hW', trodAll_mk1 (shut_bool Try.underlying4 _), Shell.trodAll_below Shell.laidOut bel hK params_okGearLast hlt, rfl, bel.frame _, fun h => by cases h⟩

theorem overGearLast : Rows.gearLastRow.holds Try.pinned (OpenSpec.ofChange Rows.gearLastSpec) :=
  OpenClaim.holds_of_wide 4 Try.f4 rfl rfl rfl rfl rfl rfl rfl ⟨rfl, rfl, rfl, rfl, rfl⟩ rfl rfl rfl rfl rfl (by kernel_rfl) Try.func4 (by kernel_rfl)
    (of_decide_eq_true (by kernel_rfl)) (by unfold Func.isWrapper; first | (rw [if_pos (by decide +kernel)]; kernel_rfl) | (rw [if_neg (by decide +kernel)]; exact ⟨rfl, rfl⟩))
    (fun os started H enc _ => liftedGearLast os started H enc)

/-- THE STATEMENT. -/
theorem gearLast_holds : Rows.GearLastSaid := overGearLast

#print axioms gearLast_holds

end Go.Proofs.Ytbbopmhbbaapfaa
