/-
  IdxFinds' walk.
-/
import Derived.Test.YtjjenpklcbpkmaaIRMgi
import Derived.Test.YtjjenpklcbpkmaaIRSht
import Derived.Test.YtjjenpklcbpkmaaIByt
namespace Go.Proofs.Ytjjenpklcbpkmaa
open Go.RowKit Go.Proofs.Mem
set_option linter.unusedVariables false

set_option maxRecDepth 100000 in
set_option maxHeartbeats 4000000 in
theorem finds_walk (s t key wi : ByteArray) (w : World) (hs : s.size ≤ 9223372036854775807) (ht : t.size ≤ 9223372036854775807) (hk : key.size ≤ 9223372036854775807) (hwi : wi.size ≤ 9223372036854775807) :
    Calls Try.prog 4 #[.string s, .string t, .string key, .string wi] w fun e w' => e = .returned (.bool true) ∧ Below w.heap.size w w' := by
  have HAW := Lib.hid (fun W => awake_any W)
  by_cases h1 : s.size ≤ 4000 ∧ t.size ≤ 4000 ∧ key.size ≤ 100 ∧ wi.size ≤ 100
  case neg =>
    clear hs ht hk hwi
    rcases Nat.lt_or_ge 4000 s.size with g1 | g1
    · have q1 : (4000 : Int) < (s.size : Int) := by omega
      clear h1 g1
      go_enter Try.func4, Try.ntmps4
      go_wp2_with (go_at_call 7; refine Calls.mono (HAW.out _) ?_; rintro e w1 ⟨rfl, hB1⟩; have HB1 := Lib.hid hB1; clear hB1)
      go_ret
      exact ⟨rfl, HB1.out⟩
    have q1 : ((4000 : Int) < (s.size : Int)) = False := by simp; omega
    rcases Nat.lt_or_ge 4000 t.size with g2 | g2
    · have q2 : (4000 : Int) < (t.size : Int) := by omega
      clear h1 g1 g2
      go_enter Try.func4, Try.ntmps4
      go_wp2_with (go_at_call 7; refine Calls.mono (HAW.out _) ?_; rintro e w1 ⟨rfl, hB1⟩; have HB1 := Lib.hid hB1; clear hB1)
      go_ret
      exact ⟨rfl, HB1.out⟩
    have q2 : ((4000 : Int) < (t.size : Int)) = False := by simp; omega
    rcases Nat.lt_or_ge 100 key.size with g3 | g3
    · have q3 : (100 : Int) < (key.size : Int) := by omega
      clear h1 g1 g2 g3
      go_enter Try.func4, Try.ntmps4
      go_wp2_with (go_at_call 7; refine Calls.mono (HAW.out _) ?_; rintro e w1 ⟨rfl, hB1⟩; have HB1 := Lib.hid hB1; clear hB1)
      go_ret
      exact ⟨rfl, HB1.out⟩
    have q3 : ((100 : Int) < (key.size : Int)) = False := by simp; omega
    have q4 : (100 : Int) < (wi.size : Int) := by omega
    clear h1 g1 g2 g3
    go_enter Try.func4, Try.ntmps4
    go_wp2_with (go_at_call 7; refine Calls.mono (HAW.out _) ?_; rintro e w1 ⟨rfl, hB1⟩; have HB1 := Lib.hid hB1; clear hB1)
    go_ret
    exact ⟨rfl, HB1.out⟩
  obtain ⟨h1, h2, h3, h4⟩ := h1
  have q1 : ((4000 : Int) < (s.size : Int)) = False := by simp; omega
  have q2 : ((4000 : Int) < (t.size : Int)) = False := by simp; omega
  have q3 : ((100 : Int) < (key.size : Int)) = False := by simp; omega
  have q4 : ((100 : Int) < (wi.size : Int)) = False := by simp; omega
  have HIF := Lib.hid (fun W => ifind_any s key W (by omega) (by omega))
  have HRF := Lib.hid (fun W => rfind_any s key W (by omega))
  have HIM := Lib.hid (fun W => imerge_any s t W (by omega) (by omega))
  have HRM := Lib.hid (fun W => rmerge_any s t W (by omega) (by omega))
  have HIU := Lib.hid (fun W => iunder_any s wi W (by omega) (by omega))
  have HRU := Lib.hid (fun W => runder_any s wi W (by omega) (by omega))
  have HIS := Lib.hid (fun W => ishort_any s key W (by omega) (by omega))
  have HRS := Lib.hid (fun W => rshort_any s key W (by omega) (by omega))
  obtain ⟨x, b, hx⟩ : ∃ (x : Slt) (b : Bool), findV (findL (readL s) key) = .tuple #[.agg #[.string x.k, .int .i64 x.a, .int .i64 x.s], .bool b] := ⟨_, _, rfl⟩
  rw [hx] at HIF HRF
  generalize mergeB s t = mb at *
  generalize mergeC s t = mc at *
  generalize underL (readL s) wi = un at *
  generalize shortV s key = sh at *
  have HSM := Lib.hid (fun W u v (hu : Strs W W.heap.size u un) (hv : Strs W W.heap.size v un) => r5same_any u v un un W hu hv)
  rw [decide_eq_true rfl] at HSM
  clear hx hs ht hk hwi h1 h2 h3 h4
  go_enter Try.func4, Try.ntmps4
  go_wp2_with (first
    | (go_at_call 13; refine Calls.mono (HIF.out _) ?_; rintro e w1 ⟨rfl, hB1⟩; have HB1 := Lib.hid hB1; clear hB1)
    | (go_at_call 14
       refine Calls.mono (HRF.out _) ?_
       rintro e w2 ⟨rfl, hB2⟩
       have HX2 := Lib.hid ((BoxS.new w1 x).on (BoxS.new w1 x).lt hB2)
       have HB2 := Lib.hid (bel (HB1.out.alloc HB1.out.size (.cells #[.string x.k, .int .i64 x.a, .int .i64 x.s] 34)) hB2)
       have hl2 : w1.heap.size < w2.heap.size := HX2.out.lt
       clear hB2)
    | (go_at_call 15
       refine Calls.mono (HIM.out _) ?_
       rintro e w3 ⟨rfl, hB3⟩
       have HX3 := Lib.hid ((HX2.out.on HX2.out.lt ((Below.refl w2.heap.size w2).alloc (Nat.le_refl _) (.cells #[.string x.k, .int .i64 x.a, .int .i64 x.s] 34))).on (Nat.lt_of_lt_of_le HX2.out.lt (by simp)) hB3)
       have HY3 := Lib.hid ((BoxS.new w2 x).on (BoxS.new w2 x).lt hB3)
       have HB3 := Lib.hid (bel (HB2.out.alloc HB2.out.size (.cells #[.string x.k, .int .i64 x.a, .int .i64 x.s] 34)) hB3)
       clear hB3)
    | (go_at_call 16
       refine Calls.mono (HRM.out _) ?_
       rintro e w4 ⟨rfl, hB4⟩
       obtain ⟨g0, g1, g2⟩ := (HX3.out.on HX3.out.lt hB4).cells
       obtain ⟨k0, k1, k2⟩ := (HY3.out.on HY3.out.lt hB4).cells
       have HB4 := Lib.hid (bel HB3.out hB4)
       clear hB4)
    | (go_at_call 18; refine Calls.mono (HIU.out _) ?_; rintro e w5 ⟨D5, rfl, hD5, hB5⟩; have HD5 := Lib.hid hD5; have HB5 := Lib.hid (bel HB4.out hB5); clear hB5 hD5 g0 g1 g2 k0 k1 k2)
    | (go_at_call 19; refine Calls.mono (HRU.out _) ?_; rintro e w6 ⟨D6, rfl, hD6, hB6⟩; have HD6 := Lib.hid hD6; have HE5 := Lib.hid (HD5.out.on hB6); have HB6 := Lib.hid (bel HB5.out hB6); clear hB6 hD6)
    | (go_at_call 17; refine Calls.mono (HSM.out _ _ _ HE5.out HD6.out) ?_; rintro e w7 ⟨rfl, hB7⟩; have HB7 := Lib.hid (bel HB6.out hB7); clear hB7)
    | (go_at_call 20; refine Calls.mono (HIS.out _) ?_; rintro e w8 ⟨rfl, hB8⟩; have HB8 := Lib.hid (bel HB7.out hB8); clear hB8)
    | (go_at_call 21; refine Calls.mono (HRS.out _) ?_; rintro e w9 ⟨rfl, hB9⟩; have HB9 := Lib.hid (bel HB8.out hB9); clear hB9)
    | (go_at_call 7; refine Calls.mono (HAW.out _) ?_; rintro e w10 ⟨rfl, hB10⟩; have HB10 := Lib.hid (bel HB9.out hB10); clear hB10))
  go_ret
  exact ⟨rfl, HB10.out⟩

end Go.Proofs.Ytjjenpklcbpkmaa
