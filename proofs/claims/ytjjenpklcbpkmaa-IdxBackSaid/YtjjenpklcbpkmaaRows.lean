/-
  No cell of these rows narrows 'for every input' (looked for: loops, veiled, ifaces, maps, wideKeys, modest, calm, conditions, laid).
  DERIVED. THE GIVEN ROWS OF THIS SEAT. 3 by the template 'for every input the law returns true; each argument reads behind the call as it read before'; 0 by the template 'total and deterministic' (their statements: YtjjenpklcbpkmaaTotals.lean).
  GIVEN WITH THE SEED: the statements are not yours to turn. If you find one false, say at which input.
  Laid BY PROGRAM, IN A SANDBOX (cutbox-rows.mjs): the forced cells as the released guide's own fill.sh prints them over the translation 1cebb31ec3e61c9a… (all of the seat's roots in one cut). By AI agents, Wed Nov 11 2026. No macro, syntax, notation, axiom, sorry.
-/
import Derived.Test.YtjjenpklcbpkmaaChecked
import GoSem.Claim
import GoSem.ClaimJoined
import GoSem.ClaimMapViews
import Derived.JoinedTies
import Derived.KernelRfl
namespace Go.Proofs.Ytjjenpklcbpkmaa
/- THE CELL 'sum', in the pinned program and in every row, IS THE sha256 OF THE DUMP (.gsa) THAT YtjjenpklcbpkmaaProg.lean LOADS. Nothing in Lean hashes anything: it is a label: what it is worth is what the hold of that sum in a sandbox is worth. -/
noncomputable def Try.pinned : Pinned := { name := "ytjjenpklcbpkmaa", sum := "1cebb31ec3e61c9ab6c47f4c4a6351adfb64117bf20b3db6893bf52940606976", checked := Try.checked }
namespace Rows
def none {H : Type} : Left H := { results := [], args := [] }

/-- 'silolaw37.IdxBytes': WHATEVER THE INPUT: true; the input reads as it did. -/
def idxBytesSpec : ChangeSpec := { name := "idxBytes", fn := fun _ => fun
  | [d1, d2] => { results := [.lit (.bool true)], args := [d1, d2] }
  | _ => none }
def idxBytesRow : OpenClaim := { program := "ytjjenpklcbpkmaa", sum := "1cebb31ec3e61c9ab6c47f4c4a6351adfb64117bf20b3db6893bf52940606976", func := "silo/silolaw37.IdxBytes", spec := "idxBytes", inPlace := ["internal/abi.NoEscape"], unfollowed := true, recurses := true, apart := false }
def IdxBytesSaid : Prop := idxBytesRow.holds Try.pinned (OpenSpec.ofChange idxBytesSpec)

/-- ITS FALSE NEIGHBOUR: 'it returns false'. Refute it at one input. -/
def idxBytesWrong : ChangeSpec := { name := "idxBytes", fn := fun _ => fun
  | [d1, d2] => { results := [.lit (.bool false)], args := [d1, d2] }
  | _ => none }
def IdxBytesWrongFalsely : Prop := idxBytesRow.holds Try.pinned (OpenSpec.ofChange idxBytesWrong)

/-- 'silolaw37.IdxFinds': WHATEVER THE INPUT: true; the input reads as it did. -/
def idxFindsSpec : ChangeSpec := { name := "idxFinds", fn := fun _ => fun
  | [d1, d2, d3, d4] => { results := [.lit (.bool true)], args := [d1, d2, d3, d4] }
  | _ => none }
def idxFindsRow : OpenClaim := { program := "ytjjenpklcbpkmaa", sum := "1cebb31ec3e61c9ab6c47f4c4a6351adfb64117bf20b3db6893bf52940606976", func := "silo/silolaw37.IdxFinds", spec := "idxFinds", inPlace := ["internal/abi.NoEscape"], unfollowed := true, recurses := true, apart := false }
def IdxFindsSaid : Prop := idxFindsRow.holds Try.pinned (OpenSpec.ofChange idxFindsSpec)

/-- ITS FALSE NEIGHBOUR: 'it returns false'. Refute it at one input. -/
def idxFindsWrong : ChangeSpec := { name := "idxFinds", fn := fun _ => fun
  | [d1, d2, d3, d4] => { results := [.lit (.bool false)], args := [d1, d2, d3, d4] }
  | _ => none }
def IdxFindsWrongFalsely : Prop := idxFindsRow.holds Try.pinned (OpenSpec.ofChange idxFindsWrong)

/-- 'silolaw37.IdxBack': WHATEVER THE INPUT: true; the input reads as it did. -/
def idxBackSpec : ChangeSpec := { name := "idxBack", fn := fun _ => fun
  | [d1, d2, d3, d4] => { results := [.lit (.bool true)], args := [d1, d2, d3, d4] }
  | _ => none }
def idxBackRow : OpenClaim := { program := "ytjjenpklcbpkmaa", sum := "1cebb31ec3e61c9ab6c47f4c4a6351adfb64117bf20b3db6893bf52940606976", func := "silo/silolaw37.IdxBack", spec := "idxBack", inPlace := ["internal/abi.NoEscape"], unfollowed := true, recurses := true, apart := false }
def IdxBackSaid : Prop := idxBackRow.holds Try.pinned (OpenSpec.ofChange idxBackSpec)

/-- ITS FALSE NEIGHBOUR: 'it returns false'. Refute it at one input. -/
def idxBackWrong : ChangeSpec := { name := "idxBack", fn := fun _ => fun
  | [d1, d2, d3, d4] => { results := [.lit (.bool false)], args := [d1, d2, d3, d4] }
  | _ => none }
def IdxBackWrongFalsely : Prop := idxBackRow.holds Try.pinned (OpenSpec.ofChange idxBackWrong)

/- THE SECOND FORM. 'bulk': how many values and letters a reading holds, each counted each time it is reached (what is shared counts as often as it is met; a slice's spare places count too). A statement '..UptoSaid' is the law's where the arguments, and the package variables that the reading takes, are together of bulk at most 1048576: NARROWER than '..Said'. Prove '..Said' where nothing that the law and all that it calls make is longer than what came in: it says more and counts as full. Else prove '..UptoSaid'. A law counts once. -/
mutual
def uptoBulk {H : Type} : DataW H → Nat
  | .lit (.string bytes) => bytes.length + 1
  | .lit _ => 1
  | .nil => 1
  | .ptr d => uptoBulk d + 1
  | .slice elems spare => uptoBulkAll elems + uptoBulkAll spare + 1
  | .agg parts => uptoBulkAll parts + 1
  | .iface _ d => uptoBulk d + 1
  | .map entries => uptoBulkEntries entries + 1
  | .held _ => 1
def uptoBulkAll {H : Type} : List (DataW H) → Nat
  | [] => 0
  | d :: r => uptoBulk d + uptoBulkAll r
def uptoBulkEntries {H : Type} : List (Lit × DataW H) → Nat
  | [] => 0
  | x :: r => uptoBulkEntry x + uptoBulkEntries r
def uptoBulkEntry {H : Type} : Lit × DataW H → Nat
  | (.string bytes, d) => bytes.length + uptoBulk d + 1
  | (_, d) => uptoBulk d + 1
 end
def uptoSmall : (H : Type) → List (DataW H) → Bool := fun _ ds => decide (uptoBulkAll ds ≤ 1048576)
def OpenSpec.upto (s : _root_.Go.ChangeSpec) : _root_.Go.OpenSpec := { _root_.Go.OpenSpec.ofChange s with cond := some uptoSmall }

/-- 'silolaw37.IdxBytes', WHERE WHAT IT READS IS OF BULK AT MOST 1048576: true; the input reads as it did. -/
def idxBytesUptoRow : OpenClaim := { program := "ytjjenpklcbpkmaa", sum := "1cebb31ec3e61c9ab6c47f4c4a6351adfb64117bf20b3db6893bf52940606976", func := "silo/silolaw37.IdxBytes", spec := "idxBytes", inPlace := ["internal/abi.NoEscape"], unfollowed := true, recurses := true, apart := false, narrowed := true }
def IdxBytesUptoSaid : Prop := idxBytesUptoRow.holds Try.pinned (OpenSpec.upto idxBytesSpec)

/-- 'silolaw37.IdxFinds', WHERE WHAT IT READS IS OF BULK AT MOST 1048576: true; the input reads as it did. -/
def idxFindsUptoRow : OpenClaim := { program := "ytjjenpklcbpkmaa", sum := "1cebb31ec3e61c9ab6c47f4c4a6351adfb64117bf20b3db6893bf52940606976", func := "silo/silolaw37.IdxFinds", spec := "idxFinds", inPlace := ["internal/abi.NoEscape"], unfollowed := true, recurses := true, apart := false, narrowed := true }
def IdxFindsUptoSaid : Prop := idxFindsUptoRow.holds Try.pinned (OpenSpec.upto idxFindsSpec)

/-- 'silolaw37.IdxBack', WHERE WHAT IT READS IS OF BULK AT MOST 1048576: true; the input reads as it did. -/
def idxBackUptoRow : OpenClaim := { program := "ytjjenpklcbpkmaa", sum := "1cebb31ec3e61c9ab6c47f4c4a6351adfb64117bf20b3db6893bf52940606976", func := "silo/silolaw37.IdxBack", spec := "idxBack", inPlace := ["internal/abi.NoEscape"], unfollowed := true, recurses := true, apart := false, narrowed := true }
def IdxBackUptoSaid : Prop := idxBackUptoRow.holds Try.pinned (OpenSpec.upto idxBackSpec)

end Rows
end Go.Proofs.Ytjjenpklcbpkmaa
