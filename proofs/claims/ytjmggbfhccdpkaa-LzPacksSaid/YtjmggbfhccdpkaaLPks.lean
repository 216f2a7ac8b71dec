/-
  LzPacks' walk.
-/
import Derived.Test.YtjmggbfhccdpkaaLAwk
namespace Go.Proofs.Ytjmggbfhccdpkaa
open Go.RowKit Go.Shelf Go.Proofs.Mem Go.Maps
set_option linter.unusedVariables false

theorem packs_walk (s : ByteArray) (w : World) (hs : s.size ≤ 9223372036854775807) : Calls Try.prog 3 #[.string s] w fun e w' => e = .returned (.bool true) ∧ Below w.heap.size w w' := by
  by_cases hz : s.size ≤ 700
  case neg =>
    have HA := Lib.hid (awake_any w)
    have h1 : (700 : Int) < (s.size : Int) := by omega
    go_enter Try.func3, Try.ntmps3
    go_wp2_with (go_at_call 6; refine Calls.mono HA.out ?_; rintro e w1 ⟨rfl, hb1⟩; have HB1 := Lib.hid hb1; clear hb1)
    go_ret
    exact ⟨rfl, HB1.out⟩
  have h1 : ¬ (700 : Int) < (s.size : Int) := by omega
  have HA := Lib.hid (fun W => awake_any W)
  have H1 := Lib.hid (pack_any s w (by omega))
  have H2 := Lib.hid (fun W => rpack_any s W (by omega))
  have H3 := Lib.hid (fun W => squash_any s W (by omega))
  have H4 := Lib.hid (fun W => rsquash_any s W (by omega))
  clear hs hz
  go_enter Try.func3, Try.ntmps3
  go_wp2_with (first
    | (go_at_call 7; refine Calls.mono H1.out ?_; rintro e w1 ⟨rfl, hb1⟩; have HB1 := Lib.hid hb1; clear hb1)
    | (go_at_call 8; refine Calls.mono (H2.out _) ?_; rintro e w2 ⟨rfl, hb2⟩; have HB2 := Lib.hid (bel HB1.out hb2); clear hb2)
    | (go_at_call 9; refine Calls.mono (H3.out _) ?_; rintro e w3 ⟨rfl, hb3⟩; have HB3 := Lib.hid (bel HB2.out hb3); clear hb3)
    | (go_at_call 10; refine Calls.mono (H4.out _) ?_; rintro e w4 ⟨rfl, hb4⟩; have HB4 := Lib.hid (bel HB3.out hb4); clear hb4)
    | (go_at_call 6; refine Calls.mono (HA.out _) ?_; rintro e w5 ⟨rfl, hb5⟩; have HB5 := Lib.hid (bel HB4.out hb5); clear hb5))
  go_ret
  exact ⟨rfl, HB5.out⟩

end Go.Proofs.Ytjmggbfhccdpkaa
