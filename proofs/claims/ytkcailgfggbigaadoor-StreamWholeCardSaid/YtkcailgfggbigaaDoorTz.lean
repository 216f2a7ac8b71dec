/-
  math/bits.TrailingZeros at powers of two (its table read where it is needed).
-/
import Derived.Test.YtkcailgfggbigaaDoorGear
namespace Go.Proofs.YtkcailgfggbigaaDoor
open Go.RowKit Go.Proofs.Gear

/-- The place in the table at which a number's trailing zeros stand. -/
def tzAt (X : Int) : Int := IntKind.u64.wrap (bits .and .u64 X (IntKind.u64.wrap (-X)) * 285870213051353865) / 288230376151711744

theorem tz64_any (X : Int) (idx b : Nat) (w : World) (hx : (X == 0) = false) (he : tzAt X = (idx : Int)) (hidx : idx < 64) (hb : b < 256) (hc : w.cell? ⟨1, idx, none⟩ = some (.int .u8 b)) :
    Calls Tryd.prog 35 #[.int .u64 X] w fun e w' => e = .returned (.int .i64 b) ∧ w = w' := by
  unfold tzAt at he
  have h0 : (0 : Int) ≤ (idx : Int) := by omega
  have h1 : (idx : Int) < 64 := by omega
  go_enter Tryd.func35, Tryd.ntmps35
  go_wp2
  go_ret
  exact ⟨rfl, rfl⟩

theorem tz_any (X : Int) (idx b : Nat) (w : World) (hx : (X == 0) = false) (he : tzAt X = (idx : Int)) (hidx : idx < 64) (hb : b < 256) (hc : w.cell? ⟨1, idx, none⟩ = some (.int .u8 b)) :
    Calls Tryd.prog 27 #[.int .u64 X] w fun e w' => e = .returned (.int .i64 b) ∧ w = w' := by
  have H := Lib.hid (tz64_any X idx b w hx he hidx hb hc)
  clear hx he hc
  go_enter Tryd.func27, Tryd.ntmps27
  go_wp2_with (go_at_call 35; refine H.out.mono ?_; rintro e w' ⟨rfl, rfl⟩)
  go_ret
  exact ⟨rfl, rfl⟩

end Go.Proofs.YtkcailgfggbigaaDoor
