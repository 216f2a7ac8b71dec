/-
  No cell of these rows narrows 'for every input' (looked for: loops, veiled, ifaces, maps, wideKeys, modest, calm, conditions, laid).
  DERIVED. THE GIVEN ROWS OF THIS SEAT. 4 by the template 'for every input the law returns true; each argument reads behind the call as it read before'; 0 by the template 'total and deterministic' (their statements: YtbbopmhbbaapfaaTotals.lean).
  GIVEN WITH THE SEED: the statements are not yours to turn. If you find one false, say at which input.
  Laid BY PROGRAM, IN A SANDBOX (cutbox-rows.mjs): the forced cells as the released guide's own fill.sh prints them over the translation 2af0e883ceef5df2… (all of the seat's roots in one cut). By AI agents, Wed Nov 11 2026. No macro, syntax, notation, axiom, sorry.
-/
import Derived.Test.YtbbopmhbbaapfaaChecked
import GoSem.Claim
import GoSem.ClaimJoined
import GoSem.ClaimMapViews
import Derived.JoinedTies
import Derived.KernelRfl
namespace Go.Proofs.Ytbbopmhbbaapfaa
/- THE CELL 'sum', in the pinned program and in every row, IS THE sha256 OF THE DUMP (.gsa) THAT YtbbopmhbbaapfaaProg.lean LOADS. Nothing in Lean hashes anything: it is a label: what it is worth is what the hold of that sum in a sandbox is worth. -/
noncomputable def Try.pinned : Pinned := { name := "ytbbopmhbbaapfaa", sum := "2af0e883ceef5df22db4d59198521e83d9bee046cc8f421691cee4babe9b710c", checked := Try.checked }
namespace Rows
def none {H : Type} : Left H := { results := [], args := [] }

/-- 'silolaw06.GearTells': WHATEVER THE INPUT: true; the input reads as it did. -/
def gearTellsSpec : ChangeSpec := { name := "gearTells", fn := fun _ => fun
  | [d1, d2, d3] => { results := [.lit (.bool true)], args := [d1, d2, d3] }
  | _ => none }
def gearTellsRow : OpenClaim := { program := "ytbbopmhbbaapfaa", sum := "2af0e883ceef5df22db4d59198521e83d9bee046cc8f421691cee4babe9b710c", func := "silo/silolaw06.GearTells", spec := "gearTells", unfollowed := true, recurses := true, apart := false }
def GearTellsSaid : Prop := gearTellsRow.holds Try.pinned (OpenSpec.ofChange gearTellsSpec)

/-- ITS FALSE NEIGHBOUR: 'it returns false'. Refute it at one input. -/
def gearTellsWrong : ChangeSpec := { name := "gearTells", fn := fun _ => fun
  | [d1, d2, d3] => { results := [.lit (.bool false)], args := [d1, d2, d3] }
  | _ => none }
def GearTellsWrongFalsely : Prop := gearTellsRow.holds Try.pinned (OpenSpec.ofChange gearTellsWrong)

/-- 'silolaw06.GearLast': WHATEVER THE INPUT: true; the input reads as it did. -/
def gearLastSpec : ChangeSpec := { name := "gearLast", fn := fun _ => fun
  | [d1, d2, d3] => { results := [.lit (.bool true)], args := [d1, d2, d3] }
  | _ => none }
def gearLastRow : OpenClaim := { program := "ytbbopmhbbaapfaa", sum := "2af0e883ceef5df22db4d59198521e83d9bee046cc8f421691cee4babe9b710c", func := "silo/silolaw06.GearLast", spec := "gearLast", unfollowed := true, recurses := true, apart := false }
def GearLastSaid : Prop := gearLastRow.holds Try.pinned (OpenSpec.ofChange gearLastSpec)

/-- ITS FALSE NEIGHBOUR: 'it returns false'. Refute it at one input. -/
def gearLastWrong : ChangeSpec := { name := "gearLast", fn := fun _ => fun
  | [d1, d2, d3] => { results := [.lit (.bool false)], args := [d1, d2, d3] }
  | _ => none }
def GearLastWrongFalsely : Prop := gearLastRow.holds Try.pinned (OpenSpec.ofChange gearLastWrong)

/-- 'silolaw06.GearParts': WHATEVER THE INPUT: true; the input reads as it did. -/
def gearPartsSpec : ChangeSpec := { name := "gearParts", fn := fun _ => fun
  | [d1, d2, d3, d4] => { results := [.lit (.bool true)], args := [d1, d2, d3, d4] }
  | _ => none }
def gearPartsRow : OpenClaim := { program := "ytbbopmhbbaapfaa", sum := "2af0e883ceef5df22db4d59198521e83d9bee046cc8f421691cee4babe9b710c", func := "silo/silolaw06.GearParts", spec := "gearParts", unfollowed := true, recurses := true, apart := false }
def GearPartsSaid : Prop := gearPartsRow.holds Try.pinned (OpenSpec.ofChange gearPartsSpec)

/-- ITS FALSE NEIGHBOUR: 'it returns false'. Refute it at one input. -/
def gearPartsWrong : ChangeSpec := { name := "gearParts", fn := fun _ => fun
  | [d1, d2, d3, d4] => { results := [.lit (.bool false)], args := [d1, d2, d3, d4] }
  | _ => none }
def GearPartsWrongFalsely : Prop := gearPartsRow.holds Try.pinned (OpenSpec.ofChange gearPartsWrong)

/-- 'silolaw06.GearBack': WHATEVER THE INPUT: true; the input reads as it did. -/
def gearBackSpec : ChangeSpec := { name := "gearBack", fn := fun _ => fun
  | [d1, d2, d3] => { results := [.lit (.bool true)], args := [d1, d2, d3] }
  | _ => none }
def gearBackRow : OpenClaim := { program := "ytbbopmhbbaapfaa", sum := "2af0e883ceef5df22db4d59198521e83d9bee046cc8f421691cee4babe9b710c", func := "silo/silolaw06.GearBack", spec := "gearBack", unfollowed := true, recurses := true, apart := false }
def GearBackSaid : Prop := gearBackRow.holds Try.pinned (OpenSpec.ofChange gearBackSpec)

/-- ITS FALSE NEIGHBOUR: 'it returns false'. Refute it at one input. -/
def gearBackWrong : ChangeSpec := { name := "gearBack", fn := fun _ => fun
  | [d1, d2, d3] => { results := [.lit (.bool false)], args := [d1, d2, d3] }
  | _ => none }
def GearBackWrongFalsely : Prop := gearBackRow.holds Try.pinned (OpenSpec.ofChange gearBackWrong)

/- THE SECOND FORM. 'bulk': how many values and letters a reading holds, each counted each time it is reached (what is shared counts as often as it is met; a slice's spare places count too). A statement '..UptoSaid' is the law's where the arguments, and the package variables that the reading takes, are together of bulk at most 1048576: NARROWER than '..Said'. Prove '..Said' where nothing that the law and all that it calls make is longer than what came in: it says more and counts as full. Else prove '..UptoSaid'. A law counts once. -/
mutual
def uptoBulk {H : Type} : DataW H → Nat
  | .lit (.string bytes) => bytes.length + 1
  | .lit _ => 1
  | .nil => 1
  | .ptr d => uptoBulk d + 1
  | .slice elems spare => uptoBulkAll elems + uptoBulkAll spare + 1
  | .agg parts => uptoBulkAll parts + 1
  | .iface _ d => uptoBulk d + 1
  | .map entries => uptoBulkEntries entries + 1
  | .held _ => 1
def uptoBulkAll {H : Type} : List (DataW H) → Nat
  | [] => 0
  | d :: r => uptoBulk d + uptoBulkAll r
def uptoBulkEntries {H : Type} : List (Lit × DataW H) → Nat
  | [] => 0
  | x :: r => uptoBulkEntry x + uptoBulkEntries r
def uptoBulkEntry {H : Type} : Lit × DataW H → Nat
  | (.string bytes, d) => bytes.length + uptoBulk d + 1
  | (_, d) => uptoBulk d + 1
 end
def uptoSmall : (H : Type) → List (DataW H) → Bool := fun _ ds => decide (uptoBulkAll ds ≤ 1048576)
def OpenSpec.upto (s : _root_.Go.ChangeSpec) : _root_.Go.OpenSpec := { _root_.Go.OpenSpec.ofChange s with cond := some uptoSmall }

/-- 'silolaw06.GearTells', WHERE WHAT IT READS IS OF BULK AT MOST 1048576: true; the input reads as it did. -/
def gearTellsUptoRow : OpenClaim := { program := "ytbbopmhbbaapfaa", sum := "2af0e883ceef5df22db4d59198521e83d9bee046cc8f421691cee4babe9b710c", func := "silo/silolaw06.GearTells", spec := "gearTells", unfollowed := true, recurses := true, apart := false, narrowed := true }
def GearTellsUptoSaid : Prop := gearTellsUptoRow.holds Try.pinned (OpenSpec.upto gearTellsSpec)

/-- 'silolaw06.GearLast', WHERE WHAT IT READS IS OF BULK AT MOST 1048576: true; the input reads as it did. -/
def gearLastUptoRow : OpenClaim := { program := "ytbbopmhbbaapfaa", sum := "2af0e883ceef5df22db4d59198521e83d9bee046cc8f421691cee4babe9b710c", func := "silo/silolaw06.GearLast", spec := "gearLast", unfollowed := true, recurses := true, apart := false, narrowed := true }
def GearLastUptoSaid : Prop := gearLastUptoRow.holds Try.pinned (OpenSpec.upto gearLastSpec)

/-- 'silolaw06.GearParts', WHERE WHAT IT READS IS OF BULK AT MOST 1048576: true; the input reads as it did. -/
def gearPartsUptoRow : OpenClaim := { program := "ytbbopmhbbaapfaa", sum := "2af0e883ceef5df22db4d59198521e83d9bee046cc8f421691cee4babe9b710c", func := "silo/silolaw06.GearParts", spec := "gearParts", unfollowed := true, recurses := true, apart := false, narrowed := true }
def GearPartsUptoSaid : Prop := gearPartsUptoRow.holds Try.pinned (OpenSpec.upto gearPartsSpec)

/-- 'silolaw06.GearBack', WHERE WHAT IT READS IS OF BULK AT MOST 1048576: true; the input reads as it did. -/
def gearBackUptoRow : OpenClaim := { program := "ytbbopmhbbaapfaa", sum := "2af0e883ceef5df22db4d59198521e83d9bee046cc8f421691cee4babe9b710c", func := "silo/silolaw06.GearBack", spec := "gearBack", unfollowed := true, recurses := true, apart := false, narrowed := true }
def GearBackUptoSaid : Prop := gearBackUptoRow.holds Try.pinned (OpenSpec.upto gearBackSpec)

end Rows
end Go.Proofs.Ytbbopmhbbaapfaa
