/-
  THE LAID TABLE: what the rows' cell 'laid' says of the world.
-/
import Derived.Test.YtkcailgfggbigaaDoorPcs
import Derived.SevenTiedAt
import Derived.Lay
import Derived.Lib.LaidU8
import Derived.MakeChecks
namespace Go.Proofs.YtkcailgfggbigaaDoor
open Go.RowKit
set_option linter.unusedVariables false

def zs64 : List Int := [0, 1, 56, 2, 57, 49, 28, 3, 61, 58, 42, 50, 38, 29, 17, 4, 62, 47, 59, 36, 45, 43, 51, 22, 53, 39, 33, 30, 24, 18, 12, 5, 63, 55, 48, 27, 60, 41, 37, 16, 46, 35, 44, 21, 52, 32, 23, 11, 54, 26, 40, 15, 34, 20, 31, 10, 25, 14, 19, 9, 13, 8, 7, 6]
def laidL : List (String × DataW Unit) := [("math/bits.deBruijn32tab", Rows.laid_math_bits_deBruijn32tab), ("math/bits.deBruijn64tab", Rows.laid_math_bits_deBruijn64tab)]
theorem laid64_eq : Rows.laid_math_bits_deBruijn64tab = (Lib.tabData .u8 zs64 : DataW Unit) := rfl
theorem g64 : Tryd.prog.globalNamed "math/bits.deBruijn64tab" = some 1 := by kernel_rfl
theorem g64Type : (Tryd.prog.globals[1]?).map (·.type) = some 65 := by kernel_rfl
theorem cells64 : Tryd.prog.cellsOf 65 = 64 := by kernel_rfl
theorem cells1 : Tryd.prog.cellsOf 5 = 1 := by kernel_rfl

theorem tabIs {W : World} (h : laidMet Tryd.prog laidL W) : Lib.TabIs Tryd.prog W "math/bits.deBruijn64tab" .u8 zs64 := by
  obtain ⟨g, t, cs, fuel, p, hg, ht, hv, hd⟩ := Lib.laidMet.reads h (n := "math/bits.deBruijn64tab") (d := Rows.laid_math_bits_deBruijn64tab) (List.mem_cons_of_mem _ (List.mem_cons_self ..))
  obtain rfl := Option.some.inj (g64.symm.trans hg)
  obtain rfl := Option.some.inj (g64Type.symm.trans ht)
  rw [laid64_eq] at hd
  unfold Lib.TabIs
  rw [hv, ← Lib.cells_of_tab Tryd.underlying65 Tryd.underlying5 cells1 cells64 hd]

theorem tz_tab : ∀ b : Fin 13, 1 ≤ b.val → 0 ≤ tzAt ((2 ^ b.val : Nat) : Int) ∧ (tzAt ((2 ^ b.val : Nat) : Int)).toNat < 64 ∧ zs64[(tzAt ((2 ^ b.val : Nat) : Int)).toNat]? = some (b.val : Int) := by decide +kernel

theorem laid_of_met {W : World} (h0 : laidMetH Tryd.prog laidL W) : Laid W := by
  have h : laidMet Tryd.prog laidL W := by rw [MakeChecks.laidMetH_plain _ _ _ (by kernel_rfl)] at h0; exact h0
  have ht := tabIs h
  refine ⟨?_, ?_⟩
  · have := ht.cell g64 0 (by decide)
    obtain ⟨o, ho, _⟩ := cells_of_cell this
    exact (Array.getElem?_eq_some_iff.1 ho).1
  · intro b h1 h2
    obtain ⟨ha, hb, hc⟩ := tz_tab ⟨b, by omega⟩ h1
    dsimp only at ha hb hc
    refine ⟨_, hb, by omega, ?_⟩
    rw [ht.cell g64 _ (List.getElem?_eq_some_iff.1 hc).1, List.getD_eq_getElem?_getD, hc]
    rfl

theorem laid_witness (os : Os) (args : Array Value) : laidMetH Tryd.prog laidL ((World.laidAll Tryd.prog os laidL).forCall (fun _ _ => 0) ⟨#[], args, []⟩).memory := by
  rw [MakeChecks.laidMetH_plain _ _ _ (by kernel_rfl)]
  exact laidMet_laidAll args (by kernel_rfl) (by kernel_rfl)

end Go.Proofs.YtkcailgfggbigaaDoor
