/-
  No cell of these rows narrows 'for every input' (looked for: loops, veiled, ifaces, maps, wideKeys, modest, calm, conditions, laid).
  DERIVED. THE GIVEN ROWS OF THIS SEAT. 3 by the template 'for every input the law returns true; each argument reads behind the call as it read before'; 0 by the template 'total and deterministic' (their statements: YtingloamfpibaaaTotals.lean).
  GIVEN WITH THE SEED: the statements are not yours to turn. If you find one false, say at which input.
  Laid BY PROGRAM, IN A SANDBOX (cutbox-rows.mjs): the forced cells as the released guide's own fill.sh prints them over the translation 7380ae01e0b3dc51… (all of the seat's roots in one cut). By AI agents, Wed Nov 11 2026. No macro, syntax, notation, axiom, sorry.
-/
import Derived.Test.YtingloamfpibaaaChecked
import GoSem.Claim
import GoSem.ClaimJoined
import GoSem.ClaimMapViews
import Derived.JoinedTies
import Derived.KernelRfl
namespace Go.Proofs.Ytingloamfpibaaa
/- THE CELL 'sum', in the pinned program and in every row, IS THE sha256 OF THE DUMP (.gsa) THAT YtingloamfpibaaaProg.lean LOADS. Nothing in Lean hashes anything: it is a label: what it is worth is what the hold of that sum in a sandbox is worth. -/
noncomputable def Try.pinned : Pinned := { name := "ytingloamfpibaaa", sum := "7380ae01e0b3dc5187efec9e6826181184a51b77ba44621f6043d0c04bee2200", checked := Try.checked }
namespace Rows
def none {H : Type} : Left H := { results := [], args := [] }

/-- 'silolaw34.BloomDoes': WHATEVER THE INPUT: true; the input reads as it did. -/
def bloomDoesSpec : ChangeSpec := { name := "bloomDoes", fn := fun _ => fun
  | [d1, d2, d3, d4, d5] => { results := [.lit (.bool true)], args := [d1, d2, d3, d4, d5] }
  | _ => none }
def bloomDoesRow : OpenClaim := { program := "ytingloamfpibaaa", sum := "7380ae01e0b3dc5187efec9e6826181184a51b77ba44621f6043d0c04bee2200", func := "silo/silolaw34.BloomDoes", spec := "bloomDoes", unfollowed := true, recurses := true, apart := false }
def BloomDoesSaid : Prop := bloomDoesRow.holds Try.pinned (OpenSpec.ofChange bloomDoesSpec)

/-- ITS FALSE NEIGHBOUR: 'it returns false'. Refute it at one input. -/
def bloomDoesWrong : ChangeSpec := { name := "bloomDoes", fn := fun _ => fun
  | [d1, d2, d3, d4, d5] => { results := [.lit (.bool false)], args := [d1, d2, d3, d4, d5] }
  | _ => none }
def BloomDoesWrongFalsely : Prop := bloomDoesRow.holds Try.pinned (OpenSpec.ofChange bloomDoesWrong)

/-- 'silolaw34.BloomNone': WHATEVER THE INPUT: true; the input reads as it did. -/
def bloomNoneSpec : ChangeSpec := { name := "bloomNone", fn := fun _ => fun
  | [d1, d2, d3, d4] => { results := [.lit (.bool true)], args := [d1, d2, d3, d4] }
  | _ => none }
def bloomNoneRow : OpenClaim := { program := "ytingloamfpibaaa", sum := "7380ae01e0b3dc5187efec9e6826181184a51b77ba44621f6043d0c04bee2200", func := "silo/silolaw34.BloomNone", spec := "bloomNone", unfollowed := true, recurses := true, apart := false }
def BloomNoneSaid : Prop := bloomNoneRow.holds Try.pinned (OpenSpec.ofChange bloomNoneSpec)

/-- ITS FALSE NEIGHBOUR: 'it returns false'. Refute it at one input. -/
def bloomNoneWrong : ChangeSpec := { name := "bloomNone", fn := fun _ => fun
  | [d1, d2, d3, d4] => { results := [.lit (.bool false)], args := [d1, d2, d3, d4] }
  | _ => none }
def BloomNoneWrongFalsely : Prop := bloomNoneRow.holds Try.pinned (OpenSpec.ofChange bloomNoneWrong)

/-- 'silolaw34.BloomBytes': WHATEVER THE INPUT: true; the input reads as it did. -/
def bloomBytesSpec : ChangeSpec := { name := "bloomBytes", fn := fun _ => fun
  | [d1, d2] => { results := [.lit (.bool true)], args := [d1, d2] }
  | _ => none }
def bloomBytesRow : OpenClaim := { program := "ytingloamfpibaaa", sum := "7380ae01e0b3dc5187efec9e6826181184a51b77ba44621f6043d0c04bee2200", func := "silo/silolaw34.BloomBytes", spec := "bloomBytes", inPlace := ["internal/abi.NoEscape"], unfollowed := true, recurses := true, apart := false }
def BloomBytesSaid : Prop := bloomBytesRow.holds Try.pinned (OpenSpec.ofChange bloomBytesSpec)

/-- ITS FALSE NEIGHBOUR: 'it returns false'. Refute it at one input. -/
def bloomBytesWrong : ChangeSpec := { name := "bloomBytes", fn := fun _ => fun
  | [d1, d2] => { results := [.lit (.bool false)], args := [d1, d2] }
  | _ => none }
def BloomBytesWrongFalsely : Prop := bloomBytesRow.holds Try.pinned (OpenSpec.ofChange bloomBytesWrong)

/- THE SECOND FORM. 'bulk': how many values and letters a reading holds, each counted each time it is reached (what is shared counts as often as it is met; a slice's spare places count too). A statement '..UptoSaid' is the law's where the arguments, and the package variables that the reading takes, are together of bulk at most 1048576: NARROWER than '..Said'. Prove '..Said' where nothing that the law and all that it calls make is longer than what came in: it says more and counts as full. Else prove '..UptoSaid'. A law counts once. -/
mutual
def uptoBulk {H : Type} : DataW H → Nat
  | .lit (.string bytes) => bytes.length + 1
  | .lit _ => 1
  | .nil => 1
  | .ptr d => uptoBulk d + 1
  | .slice elems spare => uptoBulkAll elems + uptoBulkAll spare + 1
  | .agg parts => uptoBulkAll parts + 1
  | .iface _ d => uptoBulk d + 1
  | .map entries => uptoBulkEntries entries + 1
  | .held _ => 1
def uptoBulkAll {H : Type} : List (DataW H) → Nat
  | [] => 0
  | d :: r => uptoBulk d + uptoBulkAll r
def uptoBulkEntries {H : Type} : List (Lit × DataW H) → Nat
  | [] => 0
  | x :: r => uptoBulkEntry x + uptoBulkEntries r
def uptoBulkEntry {H : Type} : Lit × DataW H → Nat
  | (.string bytes, d) => bytes.length + uptoBulk d + 1
  | (_, d) => uptoBulk d + 1
 end
def uptoSmall : (H : Type) → List (DataW H) → Bool := fun _ ds => decide (uptoBulkAll ds ≤ 1048576)
def OpenSpec.upto (s : _root_.Go.ChangeSpec) : _root_.Go.OpenSpec := { _root_.Go.OpenSpec.ofChange s with cond := some uptoSmall }

/-- 'silolaw34.BloomDoes', WHERE WHAT IT READS IS OF BULK AT MOST 1048576: true; the input reads as it did. -/
def bloomDoesUptoRow : OpenClaim := { program := "ytingloamfpibaaa", sum := "7380ae01e0b3dc5187efec9e6826181184a51b77ba44621f6043d0c04bee2200", func := "silo/silolaw34.BloomDoes", spec := "bloomDoes", unfollowed := true, recurses := true, apart := false, narrowed := true }
def BloomDoesUptoSaid : Prop := bloomDoesUptoRow.holds Try.pinned (OpenSpec.upto bloomDoesSpec)

/-- 'silolaw34.BloomNone', WHERE WHAT IT READS IS OF BULK AT MOST 1048576: true; the input reads as it did. -/
def bloomNoneUptoRow : OpenClaim := { program := "ytingloamfpibaaa", sum := "7380ae01e0b3dc5187efec9e6826181184a51b77ba44621f6043d0c04bee2200", func := "silo/silolaw34.BloomNone", spec := "bloomNone", unfollowed := true, recurses := true, apart := false, narrowed := true }
def BloomNoneUptoSaid : Prop := bloomNoneUptoRow.holds Try.pinned (OpenSpec.upto bloomNoneSpec)

/-- 'silolaw34.BloomBytes', WHERE WHAT IT READS IS OF BULK AT MOST 1048576: true; the input reads as it did. -/
def bloomBytesUptoRow : OpenClaim := { program := "ytingloamfpibaaa", sum := "7380ae01e0b3dc5187efec9e6826181184a51b77ba44621f6043d0c04bee2200", func := "silo/silolaw34.BloomBytes", spec := "bloomBytes", inPlace := ["internal/abi.NoEscape"], unfollowed := true, recurses := true, apart := false, narrowed := true }
def BloomBytesUptoSaid : Prop := bloomBytesUptoRow.holds Try.pinned (OpenSpec.upto bloomBytesSpec)

end Rows
end Go.Proofs.Ytingloamfpibaaa
