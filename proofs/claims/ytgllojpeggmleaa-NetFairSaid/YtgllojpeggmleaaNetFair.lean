/-
  NetFair: what is sent often enough comes; what comes was sent; the other side is left alone: for every sky, every side, every place, all frames the law returns true. No conditions.
-/
import Derived.Test.YtgllojpeggmleaaFair
import Derived.Test.YtgllojpeggmleaaOpen
import Derived.Test.YtgllojpeggmleaaSky
import Derived.Test.YtgllojpeggmleaaShell
namespace Go.Proofs.Ytgllojpeggmleaa
open Go.ChangeShapes Go.WideShapes Go.ChangeAt Go.RowKit Go.Proofs.Mem
open Go.ChangeMaps (open_string shut_string)

theorem fair_walk (D : Nat → Value) (S : Nat → List ByteArray) (ch : ByteArray) (L : Nat → Int) (fair sd at_ : Int) (A : Option Addr) (n c : Nat) (ls : List ByteArray) (w : World) (h0 : Strs w w.heap.size (D 0) (S 0)) (h1 : Strs w w.heap.size (D 1) (S 1)) (hch : ch.size ≤ maxLen) (ht0 : 0 ≤ sd) (ht : sd ≤ 255) (ha0 : 0 ≤ at_) (ha : at_ ≤ 255) (hn : n = ls.length) (hR : Row w w.heap.size A (ls.map .string)) (hnm : n ≤ maxLen) :
    Calls Try.prog 3 #[skyV D ch L fair, .int .u8 sd, .int .u8 at_, .slice A n c] w fun e w' => e = .returned (.bool true) ∧ Below w.heap.size w w' := by
  have hz : ∀ i, i < 2 → (S i).length ≤ 9223372036854775807 := by
    intro i hi
    have : i = 0 ∨ i = 1 := by omega
    rcases this with rfl | rfl
    · obtain ⟨_, _, _, a, b, _⟩ := h0; unfold maxLen at b; omega
    · obtain ⟨_, _, _, a, b, _⟩ := h1; unfold maxLen at b; omega
  unfold maxLen at hch hnm
  by_cases h : sd % 2 = 0
  · exact fair_walk0 (D 0) (D 1) (S 0) (S 1) ch (L 0) (L 1) (L 2) (L 3) (L 4) (L 5) (L 6) (L 7) fair sd at_ A n c ls w h0 h1 hch (hz 0 (by omega)) (hz 1 (by omega)) ht0 ht h ha0 ha hn hR hnm
  · exact fair_walk1 (D 0) (D 1) (S 0) (S 1) ch (L 0) (L 1) (L 2) (L 3) (L 4) (L 5) (L 6) (L 7) fair sd at_ A n c ls w h0 h1 hch (hz 0 (by omega)) (hz 1 (by omega)) ht0 ht (by omega) ha0 ha hn hR hnm

theorem params_okNetFair : (Try.f3.params.toList.all fun t => Try.prog.readableRec t && decide (t < Try.prog.types.size)) = true := by kernel_rfl

set_option maxRecDepth 100000 in
theorem liftedNetFair (os : Os) (started : os.Started) (H : Type) (enc : TypeId × Value → H) :
    ReturnsInHanded {} Try.checked os 3 .any (Rows.netFairSpec.pre6 enc Try.prog Try.f3 Rows.netFairRow.domain false) (Rows.netFairSpec.post enc Try.prog Try.f3 false true false false) := by
  refine returnsInHanded_of_change (C := Try.checked) Shell.own started (by kernel_rfl) Try.func3
    (ChangeSpec.witness6 (enc := enc) (C := Try.checked) false ⟨#[], #[.agg #[.slice none 0 0, .slice none 0 0, .string ByteArray.empty, .int .i64 0, .int .i64 0, .int .i64 0, .int .i64 0, .int .i64 0, .int .i64 0, .int .i64 0, .int .i64 0, .int .i64 0], .int .u8 0, .int .u8 0, .slice none 0 0], []⟩ 8 (by kernel_rfl) (by kernel_rfl) (by kernel_rfl) (by kernel_rfl)) ?_
  intro W base args ds gs before hval0 hW hcnd _
  have hval : ∀ (j : Nat) t v, Try.f3.params[j]? = some t → args[j]? = some v → Value.okWide Try.prog W .any base t v := hval0
  have hW' := hW
  obtain ⟨p, q, hA0, hV, rfl, hfz, hnd⟩ := hW
  have hA : DataW.TrodAll enc Try.prog W 0 (fun _ => true) true Try.f3.params.toList args.toList ds p := hA0
  have hK := hA
  have hlt := DataW.TrodAll.lt hA
  rw [Try.params3] at hA hval
  obtain ⟨v0, vs0, d0, ds0, p0, q0, hargs, rfl, rfl, h0, r0⟩ := trodAll_cons hA
  obtain ⟨v1, vs1, d1, ds1, p1, q1, rfl, rfl, rfl, h1, r1⟩ := trodAll_cons r0
  obtain ⟨v2, vs2, d2, ds2, p2, q2, rfl, rfl, rfl, h2, r2⟩ := trodAll_cons r1
  obtain ⟨v3, vs3, d3, ds3, p3, q3, rfl, rfl, rfl, h3, r3⟩ := trodAll_cons r2
  obtain ⟨rfl, rfl, rfl⟩ := trodAll_nil r3
  obtain rfl : args = #[v0, v1, v2, v3] := by cases args; simp_all
  obtain ⟨rfl, rfl⟩ := trodVars_none hV
  obtain ⟨a1, rfl, rfl, rfl, w1⟩ := open_int Try.underlying5 (hval 1 5 v1 rfl rfl) h1
  obtain ⟨a2, rfl, rfl, rfl, w2⟩ := open_int Try.underlying5 (hval 2 5 v2 rfl rfl) h2
  have s3 := okWide_slice Try.underlying22 (hval 3 22 v3 rfl rfl)
  obtain ⟨D, S, ch, L, fair, rfl, hS0, hS1, hch, hz0, hz1, hL, hfair⟩ := open_sky (hval 0 27 v0 rfl rfl) h0
  have b1 := bounds_u8 w1
  have b2 := bounds_u8 w2
  obtain ⟨A3, n3, c3, rfl⟩ := s3
  obtain ⟨ls, hn, hnc, hcm, hR, _⟩ := open_strs Try.underlying22 Try.underlying9 (by kernel_rfl) h3
  clear hA0 hval0
  refine (fair_walk D S ch L fair a1 a2 A3 n3 c3 ls W hS0 hS1 hch (by omega) (by omega) (by omega) (by omega) hn hR (by omega)).mono fun e W' ⟨he, bel⟩ => ?_
  subst he
  exact ⟨_, rfl, _, _, _, [], _, [], hW', trodAll_mk1 (shut_bool Try.underlying4 _), Shell.trodAll_below Shell.laidOut bel hK params_okNetFair hlt, rfl, bel.frame _, fun h => by cases h⟩

theorem overNetFair : Rows.netFairRow.holds Try.pinned (OpenSpec.ofChange Rows.netFairSpec) :=
  OpenClaim.holds_of_wide 3 Try.f3 rfl rfl rfl rfl rfl rfl rfl ⟨rfl, rfl, rfl, rfl, rfl⟩ rfl rfl rfl rfl rfl (by kernel_rfl) Try.func3 (by kernel_rfl)
    (of_decide_eq_true (by kernel_rfl)) (by unfold Func.isWrapper; first | (rw [if_pos (by decide +kernel)]; kernel_rfl) | (rw [if_neg (by decide +kernel)]; exact ⟨rfl, rfl⟩))
    (fun os started H enc _ => liftedNetFair os started H enc)

/-- THE STATEMENT. -/
theorem netFair_holds : Rows.NetFairSaid := overNetFair

#print axioms netFair_holds

end Go.Proofs.Ytgllojpeggmleaa
