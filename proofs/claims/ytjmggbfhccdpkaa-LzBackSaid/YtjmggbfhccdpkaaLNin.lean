/-
  Awake: nine bytes alike, packed.
-/
import Derived.Test.YtjmggbfhccdpkaaLSqs
namespace Go.Proofs.Ytjmggbfhccdpkaa
open Go.RowKit Go.Shelf Go.Proofs.Mem Go.Maps
set_option linter.unusedVariables false

theorem pack_nine : packB ⟨#[97, 97, 97, 97, 97, 97, 97, 97, 97]⟩ = ⟨#[0, 97, 132, 1]⟩ := by
  have h0 : (bestP ⟨#[97, 97, 97, 97, 97, 97, 97, 97, 97]⟩ 0).1 = 0 := by decide +kernel
  have h1 : bestP ⟨#[97, 97, 97, 97, 97, 97, 97, 97, 97]⟩ 1 = (8, 1) := by decide +kernel
  unfold packB
  rw [pack_lit (by decide) h0 (by decide), pack_match (by decide) (by rw [h1]; decide), h1, pack_end (by decide)]
  decide +kernel

end Go.Proofs.Ytjmggbfhccdpkaa
