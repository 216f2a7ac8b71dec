/-
  NetPlain: without choices all comes, in order: for every list of frames and every side the law returns true. No conditions.
-/
import Derived.Test.YtgllojpeggmleaaPlain
import Derived.Test.YtgllojpeggmleaaOpen
import Derived.Test.YtgllojpeggmleaaShell
namespace Go.Proofs.Ytgllojpeggmleaa
open Go.ChangeShapes Go.WideShapes Go.ChangeAt Go.RowKit Go.Proofs.Mem
open Go.ChangeMaps (open_string shut_string)

theorem plain_walk (A : Option Addr) (n c : Nat) (ls : List ByteArray) (to : Int) (w : World) (hn : n = ls.length) (hR : Row w w.heap.size A (ls.map .string)) (ht0 : 0 ≤ to) (ht : to ≤ 255) (hnm : n ≤ 9223372036854775807) :
    Calls Try.prog 4 #[.slice A n c, .int .u8 to] w fun e w' => e = .returned (.bool true) ∧ Below w.heap.size w w' := by
  by_cases h : to % 2 = 0
  · exact plain_walk0 A n c ls to w hn hR ht0 ht h hnm
  · exact plain_walk1 A n c ls to w hn hR ht0 ht (by omega) hnm

theorem params_okNetPlain : (Try.f4.params.toList.all fun t => Try.prog.readableRec t && decide (t < Try.prog.types.size)) = true := by kernel_rfl

set_option maxRecDepth 100000 in
theorem liftedNetPlain (os : Os) (started : os.Started) (H : Type) (enc : TypeId × Value → H) :
    ReturnsInHanded {} Try.checked os 4 .any (Rows.netPlainSpec.pre6 enc Try.prog Try.f4 Rows.netPlainRow.domain false) (Rows.netPlainSpec.post enc Try.prog Try.f4 false true false false) := by
  refine returnsInHanded_of_change (C := Try.checked) Shell.own started (by kernel_rfl) Try.func4
    (ChangeSpec.witness6 (enc := enc) (C := Try.checked) false ⟨#[], #[.slice none 0 0, .int .u8 0], []⟩ 8 (by kernel_rfl) (by kernel_rfl) (by kernel_rfl) (by kernel_rfl)) ?_
  intro W base args ds gs before hval0 hW hcnd _
  have hval : ∀ (j : Nat) t v, Try.f4.params[j]? = some t → args[j]? = some v → Value.okWide Try.prog W .any base t v := hval0
  have hW' := hW
  obtain ⟨p, q, hA0, hV, rfl, hfz, hnd⟩ := hW
  have hA : DataW.TrodAll enc Try.prog W 0 (fun _ => true) true Try.f4.params.toList args.toList ds p := hA0
  have hK := hA
  have hlt := DataW.TrodAll.lt hA
  rw [Try.params4] at hA hval
  obtain ⟨v0, vs0, d0, ds0, p0, q0, hargs, rfl, rfl, h0, r0⟩ := trodAll_cons hA
  obtain ⟨v1, vs1, d1, ds1, p1, q1, rfl, rfl, rfl, h1, r1⟩ := trodAll_cons r0
  obtain ⟨rfl, rfl, rfl⟩ := trodAll_nil r1
  obtain rfl : args = #[v0, v1] := by cases args; simp_all
  obtain ⟨rfl, rfl⟩ := trodVars_none hV
  have s0 := okWide_slice Try.underlying22 (hval 0 22 v0 rfl rfl)
  obtain ⟨a1, rfl, rfl, rfl, w1⟩ := open_int Try.underlying5 (hval 1 5 v1 rfl rfl) h1
  obtain ⟨A0, n0, c0, rfl⟩ := s0
  obtain ⟨ls, hn, hnc, hcm, hR, _⟩ := open_strs Try.underlying22 Try.underlying9 (by kernel_rfl) h0
  have b1 := bounds_u8 w1
  clear hA0 hval0
  refine (plain_walk A0 n0 c0 ls a1 W hn hR (by omega) (by omega) (by unfold maxLen at hcm; omega)).mono fun e W' ⟨he, bel⟩ => ?_
  subst he
  exact ⟨_, rfl, _, _, _, [], _, [], hW', trodAll_mk1 (shut_bool Try.underlying4 _), Shell.trodAll_below Shell.laidOut bel hK params_okNetPlain hlt, rfl, bel.frame _, fun h => by cases h⟩

theorem overNetPlain : Rows.netPlainRow.holds Try.pinned (OpenSpec.ofChange Rows.netPlainSpec) :=
  OpenClaim.holds_of_wide 4 Try.f4 rfl rfl rfl rfl rfl rfl rfl ⟨rfl, rfl, rfl, rfl, rfl⟩ rfl rfl rfl rfl rfl (by kernel_rfl) Try.func4 (by kernel_rfl)
    (of_decide_eq_true (by kernel_rfl)) (by unfold Func.isWrapper; first | (rw [if_pos (by decide +kernel)]; kernel_rfl) | (rw [if_neg (by decide +kernel)]; exact ⟨rfl, rfl⟩))
    (fun os started H enc _ => liftedNetPlain os started H enc)

/-- THE STATEMENT. -/
theorem netPlain_holds : Rows.NetPlainSaid := overNetPlain

#print axioms netPlain_holds

end Go.Proofs.Ytgllojpeggmleaa
