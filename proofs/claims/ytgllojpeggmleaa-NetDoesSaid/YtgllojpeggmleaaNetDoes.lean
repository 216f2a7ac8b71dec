/-
  NetDoes: which skies can be, which are the same, a sky behind a frame is sent, and what comes next, are the document's, and stay fit: for all skies, every side, every place, every frame the law returns true. No conditions.
-/
import Derived.Test.YtgllojpeggmleaaNDoes
import Derived.Test.YtgllojpeggmleaaOpen
import Derived.Test.YtgllojpeggmleaaSky
import Derived.Test.YtgllojpeggmleaaShell
namespace Go.Proofs.Ytgllojpeggmleaa
open Go.ChangeShapes Go.WideShapes Go.ChangeAt Go.RowKit Go.Proofs.Mem
open Go.ChangeMaps (open_string shut_string)

theorem does_all (D D' : Nat → Value) (S S' : Nat → List ByteArray) (ch ch' raw : ByteArray) (L L' : Nat → Int) (fair fair' to at_ : Int) (w : World) (h0 : Strs w w.heap.size (D 0) (S 0)) (h1 : Strs w w.heap.size (D 1) (S 1)) (h0' : Strs w w.heap.size (D' 0) (S' 0)) (h1' : Strs w w.heap.size (D' 1) (S' 1)) (hch : ch.size ≤ maxLen) (hch' : ch'.size ≤ maxLen) (hraw : raw.size ≤ maxLen)
    (hz0 : ∀ s ∈ S 0, s.size ≤ maxLen) (hz1 : ∀ s ∈ S 1, s.size ≤ maxLen) :
    Calls Try.prog 6 #[skyV D ch L fair, skyV D' ch' L' fair', .int .i64 to, .int .i64 at_, .string raw] w fun e w' => e = .returned (.bool true) ∧ Below w.heap.size w w' := by
  unfold maxLen at hch hch' hraw hz0 hz1
  refine does_walk D D' S S' ch ch' raw L L' fair fair' to at_ w ⟨h0, h1⟩ ⟨h0', h1'⟩ hch hch' hraw ?_
  intro i hi
  have : i = 0 ∨ i = 1 := by omega
  rcases this with rfl | rfl
  · exact hz0
  · exact hz1

theorem params_okNetDoes : (Try.f6.params.toList.all fun t => Try.prog.readableRec t && decide (t < Try.prog.types.size)) = true := by kernel_rfl

set_option maxRecDepth 100000 in
theorem liftedNetDoes (os : Os) (started : os.Started) (H : Type) (enc : TypeId × Value → H) :
    ReturnsInHanded {} Try.checked os 6 .any (Rows.netDoesSpec.pre6 enc Try.prog Try.f6 Rows.netDoesRow.domain false) (Rows.netDoesSpec.post enc Try.prog Try.f6 false true false false) := by
  refine returnsInHanded_of_change (C := Try.checked) Shell.own started (by kernel_rfl) Try.func6
    (ChangeSpec.witness6 (enc := enc) (C := Try.checked) false ⟨#[], #[.agg #[.slice none 0 0, .slice none 0 0, .string ByteArray.empty, .int .i64 0, .int .i64 0, .int .i64 0, .int .i64 0, .int .i64 0, .int .i64 0, .int .i64 0, .int .i64 0, .int .i64 0], .agg #[.slice none 0 0, .slice none 0 0, .string ByteArray.empty, .int .i64 0, .int .i64 0, .int .i64 0, .int .i64 0, .int .i64 0, .int .i64 0, .int .i64 0, .int .i64 0, .int .i64 0], .int .i64 0, .int .i64 0, .string ByteArray.empty], []⟩ 8 (by kernel_rfl) (by kernel_rfl) (by kernel_rfl) (by kernel_rfl)) ?_
  intro W base args ds gs before hval0 hW hcnd _
  have hval : ∀ (j : Nat) t v, Try.f6.params[j]? = some t → args[j]? = some v → Value.okWide Try.prog W .any base t v := hval0
  have hW' := hW
  obtain ⟨p, q, hA0, hV, rfl, hfz, hnd⟩ := hW
  have hA : DataW.TrodAll enc Try.prog W 0 (fun _ => true) true Try.f6.params.toList args.toList ds p := hA0
  have hK := hA
  have hlt := DataW.TrodAll.lt hA
  rw [Try.params6] at hA hval
  obtain ⟨v0, vs0, d0, ds0, p0, q0, hargs, rfl, rfl, h0, r0⟩ := trodAll_cons hA
  obtain ⟨v1, vs1, d1, ds1, p1, q1, rfl, rfl, rfl, h1, r1⟩ := trodAll_cons r0
  obtain ⟨v2, vs2, d2, ds2, p2, q2, rfl, rfl, rfl, h2, r2⟩ := trodAll_cons r1
  obtain ⟨v3, vs3, d3, ds3, p3, q3, rfl, rfl, rfl, h3, r3⟩ := trodAll_cons r2
  obtain ⟨v4, vs4, d4, ds4, p4, q4, rfl, rfl, rfl, h4, r4⟩ := trodAll_cons r3
  obtain ⟨rfl, rfl, rfl⟩ := trodAll_nil r4
  obtain rfl : args = #[v0, v1, v2, v3, v4] := by cases args; simp_all
  obtain ⟨rfl, rfl⟩ := trodVars_none hV
  obtain ⟨a2, rfl, rfl, rfl, w2⟩ := open_int Try.underlying3 (hval 2 3 v2 rfl rfl) h2
  obtain ⟨a3, rfl, rfl, rfl, w3⟩ := open_int Try.underlying3 (hval 3 3 v3 rfl rfl) h3
  obtain ⟨a4, rfl, rfl, rfl, w4⟩ := open_string Try.underlying9 (hval 4 9 v4 rfl rfl) h4
  obtain ⟨D, S, ch, L, fair, rfl, hS0, hS1, hch, hz0, hz1, hL, hfair⟩ := open_sky (hval 0 27 v0 rfl rfl) h0
  obtain ⟨D', S', ch', L', fair', rfl, hS0', hS1', hch', hz0', hz1', hL', hfair'⟩ := open_sky (hval 1 27 v1 rfl rfl) h1
  clear hA0 hval0
  refine (does_all D D' S S' ch ch' a4 L L' fair fair' a2 a3 W hS0 hS1 hS0' hS1' hch hch' w4 hz0 hz1).mono fun e W' ⟨he, bel⟩ => ?_
  subst he
  exact ⟨_, rfl, _, _, _, [], _, [], hW', trodAll_mk1 (shut_bool Try.underlying4 _), Shell.trodAll_below Shell.laidOut bel hK params_okNetDoes hlt, rfl, bel.frame _, fun h => by cases h⟩

theorem overNetDoes : Rows.netDoesRow.holds Try.pinned (OpenSpec.ofChange Rows.netDoesSpec) :=
  OpenClaim.holds_of_wide 6 Try.f6 rfl rfl rfl rfl rfl rfl rfl ⟨rfl, rfl, rfl, rfl, rfl⟩ rfl rfl rfl rfl rfl (by kernel_rfl) Try.func6 (by kernel_rfl)
    (of_decide_eq_true (by kernel_rfl)) (by unfold Func.isWrapper; first | (rw [if_pos (by decide +kernel)]; kernel_rfl) | (rw [if_neg (by decide +kernel)]; exact ⟨rfl, rfl⟩))
    (fun os started H enc _ => liftedNetDoes os started H enc)

/-- THE STATEMENT. -/
theorem netDoes_holds : Rows.NetDoesSaid := overNetDoes

#print axioms netDoes_holds

end Go.Proofs.Ytgllojpeggmleaa
