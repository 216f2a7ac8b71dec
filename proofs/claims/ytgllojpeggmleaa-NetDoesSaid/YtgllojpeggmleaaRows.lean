/-
  No cell of these rows narrows 'for every input' (looked for: loops, veiled, ifaces, maps, wideKeys, modest, calm, conditions, laid).
  DERIVED. THE GIVEN ROWS OF THIS SEAT. 4 by the template 'for every input the law returns true; each argument reads behind the call as it read before'; 0 by the template 'total and deterministic' (their statements: YtgllojpeggmleaaTotals.lean).
  GIVEN WITH THE SEED: the statements are not yours to turn. If you find one false, say at which input.
  Laid BY PROGRAM, IN A SANDBOX (cutbox-rows.mjs): the forced cells as the released guide's own fill.sh prints them over the translation e26b2eb62a333913… (all of the seat's roots in one cut). By AI agents, Wed Nov 11 2026. No macro, syntax, notation, axiom, sorry.
-/
import Derived.Test.YtgllojpeggmleaaChecked
import GoSem.Claim
import GoSem.ClaimJoined
import GoSem.ClaimMapViews
import Derived.JoinedTies
import Derived.KernelRfl
namespace Go.Proofs.Ytgllojpeggmleaa
/- THE CELL 'sum', in the pinned program and in every row, IS THE sha256 OF THE DUMP (.gsa) THAT YtgllojpeggmleaaProg.lean LOADS. Nothing in Lean hashes anything: it is a label: what it is worth is what the hold of that sum in a sandbox is worth. -/
noncomputable def Try.pinned : Pinned := { name := "ytgllojpeggmleaa", sum := "e26b2eb62a33391395c086a8dbd1abf15a97cdc8883b9ceae7f9687aa276b402", checked := Try.checked }
namespace Rows
def none {H : Type} : Left H := { results := [], args := [] }

/-- 'silolaw24.NetFair': WHATEVER THE INPUT: true; the input reads as it did. -/
def netFairSpec : ChangeSpec := { name := "netFair", fn := fun _ => fun
  | [d1, d2, d3, d4] => { results := [.lit (.bool true)], args := [d1, d2, d3, d4] }
  | _ => none }
def netFairRow : OpenClaim := { program := "ytgllojpeggmleaa", sum := "e26b2eb62a33391395c086a8dbd1abf15a97cdc8883b9ceae7f9687aa276b402", func := "silo/silolaw24.NetFair", spec := "netFair", apart := false }
def NetFairSaid : Prop := netFairRow.holds Try.pinned (OpenSpec.ofChange netFairSpec)

/-- ITS FALSE NEIGHBOUR: 'it returns false'. Refute it at one input. -/
def netFairWrong : ChangeSpec := { name := "netFair", fn := fun _ => fun
  | [d1, d2, d3, d4] => { results := [.lit (.bool false)], args := [d1, d2, d3, d4] }
  | _ => none }
def NetFairWrongFalsely : Prop := netFairRow.holds Try.pinned (OpenSpec.ofChange netFairWrong)

/-- 'silolaw24.NetPlain': WHATEVER THE INPUT: true; the input reads as it did. -/
def netPlainSpec : ChangeSpec := { name := "netPlain", fn := fun _ => fun
  | [d1, d2] => { results := [.lit (.bool true)], args := [d1, d2] }
  | _ => none }
def netPlainRow : OpenClaim := { program := "ytgllojpeggmleaa", sum := "e26b2eb62a33391395c086a8dbd1abf15a97cdc8883b9ceae7f9687aa276b402", func := "silo/silolaw24.NetPlain", spec := "netPlain", apart := false }
def NetPlainSaid : Prop := netPlainRow.holds Try.pinned (OpenSpec.ofChange netPlainSpec)

/-- ITS FALSE NEIGHBOUR: 'it returns false'. Refute it at one input. -/
def netPlainWrong : ChangeSpec := { name := "netPlain", fn := fun _ => fun
  | [d1, d2] => { results := [.lit (.bool false)], args := [d1, d2] }
  | _ => none }
def NetPlainWrongFalsely : Prop := netPlainRow.holds Try.pinned (OpenSpec.ofChange netPlainWrong)

/-- 'silolaw24.NetTwice': WHATEVER THE INPUT: true; the input reads as it did. -/
def netTwiceSpec : ChangeSpec := { name := "netTwice", fn := fun _ => fun
  | [d1, d2, d3] => { results := [.lit (.bool true)], args := [d1, d2, d3] }
  | _ => none }
def netTwiceRow : OpenClaim := { program := "ytgllojpeggmleaa", sum := "e26b2eb62a33391395c086a8dbd1abf15a97cdc8883b9ceae7f9687aa276b402", func := "silo/silolaw24.NetTwice", spec := "netTwice", apart := false }
def NetTwiceSaid : Prop := netTwiceRow.holds Try.pinned (OpenSpec.ofChange netTwiceSpec)

/-- ITS FALSE NEIGHBOUR: 'it returns false'. Refute it at one input. -/
def netTwiceWrong : ChangeSpec := { name := "netTwice", fn := fun _ => fun
  | [d1, d2, d3] => { results := [.lit (.bool false)], args := [d1, d2, d3] }
  | _ => none }
def NetTwiceWrongFalsely : Prop := netTwiceRow.holds Try.pinned (OpenSpec.ofChange netTwiceWrong)

/-- 'silolaw24.NetDoes': WHATEVER THE INPUT: true; the input reads as it did. -/
def netDoesSpec : ChangeSpec := { name := "netDoes", fn := fun _ => fun
  | [d1, d2, d3, d4, d5] => { results := [.lit (.bool true)], args := [d1, d2, d3, d4, d5] }
  | _ => none }
def netDoesRow : OpenClaim := { program := "ytgllojpeggmleaa", sum := "e26b2eb62a33391395c086a8dbd1abf15a97cdc8883b9ceae7f9687aa276b402", func := "silo/silolaw24.NetDoes", spec := "netDoes", unfollowed := true, recurses := true, apart := false }
def NetDoesSaid : Prop := netDoesRow.holds Try.pinned (OpenSpec.ofChange netDoesSpec)

/-- ITS FALSE NEIGHBOUR: 'it returns false'. Refute it at one input. -/
def netDoesWrong : ChangeSpec := { name := "netDoes", fn := fun _ => fun
  | [d1, d2, d3, d4, d5] => { results := [.lit (.bool false)], args := [d1, d2, d3, d4, d5] }
  | _ => none }
def NetDoesWrongFalsely : Prop := netDoesRow.holds Try.pinned (OpenSpec.ofChange netDoesWrong)

/- THE SECOND FORM. 'bulk': how many values and letters a reading holds, each counted each time it is reached (what is shared counts as often as it is met; a slice's spare places count too). A statement '..UptoSaid' is the law's where the arguments, and the package variables that the reading takes, are together of bulk at most 1048576: NARROWER than '..Said'. Prove '..Said' where nothing that the law and all that it calls make is longer than what came in: it says more and counts as full. Else prove '..UptoSaid'. A law counts once. -/
mutual
def uptoBulk {H : Type} : DataW H → Nat
  | .lit (.string bytes) => bytes.length + 1
  | .lit _ => 1
  | .nil => 1
  | .ptr d => uptoBulk d + 1
  | .slice elems spare => uptoBulkAll elems + uptoBulkAll spare + 1
  | .agg parts => uptoBulkAll parts + 1
  | .iface _ d => uptoBulk d + 1
  | .map entries => uptoBulkEntries entries + 1
  | .held _ => 1
def uptoBulkAll {H : Type} : List (DataW H) → Nat
  | [] => 0
  | d :: r => uptoBulk d + uptoBulkAll r
def uptoBulkEntries {H : Type} : List (Lit × DataW H) → Nat
  | [] => 0
  | x :: r => uptoBulkEntry x + uptoBulkEntries r
def uptoBulkEntry {H : Type} : Lit × DataW H → Nat
  | (.string bytes, d) => bytes.length + uptoBulk d + 1
  | (_, d) => uptoBulk d + 1
 end
def uptoSmall : (H : Type) → List (DataW H) → Bool := fun _ ds => decide (uptoBulkAll ds ≤ 1048576)
def OpenSpec.upto (s : _root_.Go.ChangeSpec) : _root_.Go.OpenSpec := { _root_.Go.OpenSpec.ofChange s with cond := some uptoSmall }

/-- 'silolaw24.NetFair', WHERE WHAT IT READS IS OF BULK AT MOST 1048576: true; the input reads as it did. -/
def netFairUptoRow : OpenClaim := { program := "ytgllojpeggmleaa", sum := "e26b2eb62a33391395c086a8dbd1abf15a97cdc8883b9ceae7f9687aa276b402", func := "silo/silolaw24.NetFair", spec := "netFair", apart := false, narrowed := true }
def NetFairUptoSaid : Prop := netFairUptoRow.holds Try.pinned (OpenSpec.upto netFairSpec)

/-- 'silolaw24.NetPlain', WHERE WHAT IT READS IS OF BULK AT MOST 1048576: true; the input reads as it did. -/
def netPlainUptoRow : OpenClaim := { program := "ytgllojpeggmleaa", sum := "e26b2eb62a33391395c086a8dbd1abf15a97cdc8883b9ceae7f9687aa276b402", func := "silo/silolaw24.NetPlain", spec := "netPlain", apart := false, narrowed := true }
def NetPlainUptoSaid : Prop := netPlainUptoRow.holds Try.pinned (OpenSpec.upto netPlainSpec)

/-- 'silolaw24.NetTwice', WHERE WHAT IT READS IS OF BULK AT MOST 1048576: true; the input reads as it did. -/
def netTwiceUptoRow : OpenClaim := { program := "ytgllojpeggmleaa", sum := "e26b2eb62a33391395c086a8dbd1abf15a97cdc8883b9ceae7f9687aa276b402", func := "silo/silolaw24.NetTwice", spec := "netTwice", apart := false, narrowed := true }
def NetTwiceUptoSaid : Prop := netTwiceUptoRow.holds Try.pinned (OpenSpec.upto netTwiceSpec)

/-- 'silolaw24.NetDoes', WHERE WHAT IT READS IS OF BULK AT MOST 1048576: true; the input reads as it did. -/
def netDoesUptoRow : OpenClaim := { program := "ytgllojpeggmleaa", sum := "e26b2eb62a33391395c086a8dbd1abf15a97cdc8883b9ceae7f9687aa276b402", func := "silo/silolaw24.NetDoes", spec := "netDoes", unfollowed := true, recurses := true, apart := false, narrowed := true }
def NetDoesUptoSaid : Prop := netDoesUptoRow.holds Try.pinned (OpenSpec.upto netDoesSpec)

end Rows
end Go.Proofs.Ytgllojpeggmleaa
