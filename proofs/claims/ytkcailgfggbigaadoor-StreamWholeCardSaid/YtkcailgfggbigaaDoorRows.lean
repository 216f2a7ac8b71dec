/-
  NARROWER THAN 'FOR EVERY INPUT', by the rows' own cells (each row's printed sentence says how): CdcDoes: laid · CdcWhole: laid · CdcStep: laid · CdcAhead: laid · StreamDoes: laid · StreamWhole: laid · StreamParts: laid · StreamBytes: laid.
  DERIVED. THE GIVEN ROWS OF THIS SEAT. 8 by the template 'for every input the law returns true; each argument reads behind the call as it read before'; 0 by the template 'total and deterministic' (their statements: YtkcailgfggbigaaDoorTotals.lean).
  GIVEN WITH THE SEED: the statements are not yours to turn. If you find one false, say at which input.
  Laid BY PROGRAM, IN A SANDBOX (cutbox-rows.mjs): the forced cells as the released guide's own fill.sh prints them over the translation 6aa8a730c8fc2e9c… (all of the seat's roots in one cut). By AI agents, Wed Nov 11 2026. No macro, syntax, notation, axiom, sorry.
-/
import Derived.Test.YtkcailgfggbigaaDoorChecked
import GoSem.Claim
import GoSem.ClaimJoined
import GoSem.ClaimMapViews
import Derived.JoinedTies
import Derived.KernelRfl
namespace Go.Proofs.YtkcailgfggbigaaDoor
/- THE CELL 'sum', in the pinned program and in every row, IS THE sha256 OF THE DUMP (.gsa) THAT YtkcailgfggbigaaDoorProg.lean LOADS. Nothing in Lean hashes anything: it is a label: what it is worth is what the hold of that sum in a sandbox is worth. -/
noncomputable def Tryd.pinned : Pinned := { name := "ytkcailgfggbigaadoor", sum := "6aa8a730c8fc2e9c0d76c851cbc6311a8a66d7f9ba319594295604352aa59a83", checked := Tryd.checked }
namespace Rows
def none {H : Type} : Left H := { results := [], args := [] }

/- WHAT THE LISTED PACKAGE-LEVEL VARIABLES READ AS WHEN THE CALL BEGINS. Each datum BY PROGRAM (the guide's laid-datum.mjs) off the statement by which the dump's own 'gosem.cut.vars' lays the variable. In a bare row this is a premise. The card (YtkcailgfggbigaaDoorCards.lean) ties it to the program's text. -/
def laid_math_bits_deBruijn32tab {H : Type} : DataW H := .agg [.lit (.int .u8 0), .lit (.int .u8 1), .lit (.int .u8 28), .lit (.int .u8 2), .lit (.int .u8 29), .lit (.int .u8 14), .lit (.int .u8 24), .lit (.int .u8 3), .lit (.int .u8 30), .lit (.int .u8 22), .lit (.int .u8 20), .lit (.int .u8 15), .lit (.int .u8 25), .lit (.int .u8 17), .lit (.int .u8 4), .lit (.int .u8 8), .lit (.int .u8 31), .lit (.int .u8 27), .lit (.int .u8 13), .lit (.int .u8 23), .lit (.int .u8 21), .lit (.int .u8 19), .lit (.int .u8 16), .lit (.int .u8 7), .lit (.int .u8 26), .lit (.int .u8 12), .lit (.int .u8 18), .lit (.int .u8 6), .lit (.int .u8 11), .lit (.int .u8 5), .lit (.int .u8 10), .lit (.int .u8 9)]
def laid_math_bits_deBruijn64tab {H : Type} : DataW H := .agg [.lit (.int .u8 0), .lit (.int .u8 1), .lit (.int .u8 56), .lit (.int .u8 2), .lit (.int .u8 57), .lit (.int .u8 49), .lit (.int .u8 28), .lit (.int .u8 3), .lit (.int .u8 61), .lit (.int .u8 58), .lit (.int .u8 42), .lit (.int .u8 50), .lit (.int .u8 38), .lit (.int .u8 29), .lit (.int .u8 17), .lit (.int .u8 4), .lit (.int .u8 62), .lit (.int .u8 47), .lit (.int .u8 59), .lit (.int .u8 36), .lit (.int .u8 45), .lit (.int .u8 43), .lit (.int .u8 51), .lit (.int .u8 22), .lit (.int .u8 53), .lit (.int .u8 39), .lit (.int .u8 33), .lit (.int .u8 30), .lit (.int .u8 24), .lit (.int .u8 18), .lit (.int .u8 12), .lit (.int .u8 5), .lit (.int .u8 63), .lit (.int .u8 55), .lit (.int .u8 48), .lit (.int .u8 27), .lit (.int .u8 60), .lit (.int .u8 41), .lit (.int .u8 37), .lit (.int .u8 16), .lit (.int .u8 46), .lit (.int .u8 35), .lit (.int .u8 44), .lit (.int .u8 21), .lit (.int .u8 52), .lit (.int .u8 32), .lit (.int .u8 23), .lit (.int .u8 11), .lit (.int .u8 54), .lit (.int .u8 26), .lit (.int .u8 40), .lit (.int .u8 15), .lit (.int .u8 34), .lit (.int .u8 20), .lit (.int .u8 31), .lit (.int .u8 10), .lit (.int .u8 25), .lit (.int .u8 14), .lit (.int .u8 19), .lit (.int .u8 9), .lit (.int .u8 13), .lit (.int .u8 8), .lit (.int .u8 7), .lit (.int .u8 6)]

/-- 'silolaw07.CdcDoes': WHATEVER THE INPUT: true; the input reads as it did. -/
def cdcDoesSpec : ChangeSpec := { name := "cdcDoes", fn := fun _ => fun
  | [d1, d2] => { results := [.lit (.bool true)], args := [d1, d2] }
  | _ => none }
def cdcDoesRow : OpenClaim := { program := "ytkcailgfggbigaadoor", sum := "6aa8a730c8fc2e9c0d76c851cbc6311a8a66d7f9ba319594295604352aa59a83", func := "silo/silolaw07.CdcDoes", spec := "cdcDoes", unfollowed := true, recurses := true, named := ["math/bits.deBruijn32tab", "math/bits.deBruijn64tab"], apart := false, laid := [("math/bits.deBruijn32tab", laid_math_bits_deBruijn32tab), ("math/bits.deBruijn64tab", laid_math_bits_deBruijn64tab)] }
def CdcDoesSaid : Prop := cdcDoesRow.holds Tryd.pinned (OpenSpec.ofChange cdcDoesSpec)

/-- ITS FALSE NEIGHBOUR: 'it returns false'. Refute it at one input. -/
def cdcDoesWrong : ChangeSpec := { name := "cdcDoes", fn := fun _ => fun
  | [d1, d2] => { results := [.lit (.bool false)], args := [d1, d2] }
  | _ => none }
def CdcDoesWrongFalsely : Prop := cdcDoesRow.holds Tryd.pinned (OpenSpec.ofChange cdcDoesWrong)

/-- 'silolaw07.CdcWhole': WHATEVER THE INPUT: true; the input reads as it did. -/
def cdcWholeSpec : ChangeSpec := { name := "cdcWhole", fn := fun _ => fun
  | [d1, d2] => { results := [.lit (.bool true)], args := [d1, d2] }
  | _ => none }
def cdcWholeRow : OpenClaim := { program := "ytkcailgfggbigaadoor", sum := "6aa8a730c8fc2e9c0d76c851cbc6311a8a66d7f9ba319594295604352aa59a83", func := "silo/silolaw07.CdcWhole", spec := "cdcWhole", unfollowed := true, recurses := true, named := ["math/bits.deBruijn32tab", "math/bits.deBruijn64tab"], apart := false, laid := [("math/bits.deBruijn32tab", laid_math_bits_deBruijn32tab), ("math/bits.deBruijn64tab", laid_math_bits_deBruijn64tab)] }
def CdcWholeSaid : Prop := cdcWholeRow.holds Tryd.pinned (OpenSpec.ofChange cdcWholeSpec)

/-- ITS FALSE NEIGHBOUR: 'it returns false'. Refute it at one input. -/
def cdcWholeWrong : ChangeSpec := { name := "cdcWhole", fn := fun _ => fun
  | [d1, d2] => { results := [.lit (.bool false)], args := [d1, d2] }
  | _ => none }
def CdcWholeWrongFalsely : Prop := cdcWholeRow.holds Tryd.pinned (OpenSpec.ofChange cdcWholeWrong)

/-- 'silolaw07.CdcStep': WHATEVER THE INPUT: true; the input reads as it did. -/
def cdcStepSpec : ChangeSpec := { name := "cdcStep", fn := fun _ => fun
  | [d1, d2, d3] => { results := [.lit (.bool true)], args := [d1, d2, d3] }
  | _ => none }
def cdcStepRow : OpenClaim := { program := "ytkcailgfggbigaadoor", sum := "6aa8a730c8fc2e9c0d76c851cbc6311a8a66d7f9ba319594295604352aa59a83", func := "silo/silolaw07.CdcStep", spec := "cdcStep", unfollowed := true, recurses := true, named := ["math/bits.deBruijn32tab", "math/bits.deBruijn64tab"], apart := false, laid := [("math/bits.deBruijn32tab", laid_math_bits_deBruijn32tab), ("math/bits.deBruijn64tab", laid_math_bits_deBruijn64tab)] }
def CdcStepSaid : Prop := cdcStepRow.holds Tryd.pinned (OpenSpec.ofChange cdcStepSpec)

/-- ITS FALSE NEIGHBOUR: 'it returns false'. Refute it at one input. -/
def cdcStepWrong : ChangeSpec := { name := "cdcStep", fn := fun _ => fun
  | [d1, d2, d3] => { results := [.lit (.bool false)], args := [d1, d2, d3] }
  | _ => none }
def CdcStepWrongFalsely : Prop := cdcStepRow.holds Tryd.pinned (OpenSpec.ofChange cdcStepWrong)

/-- 'silolaw07.CdcAhead': WHATEVER THE INPUT: true; the input reads as it did. -/
def cdcAheadSpec : ChangeSpec := { name := "cdcAhead", fn := fun _ => fun
  | [d1, d2, d3] => { results := [.lit (.bool true)], args := [d1, d2, d3] }
  | _ => none }
def cdcAheadRow : OpenClaim := { program := "ytkcailgfggbigaadoor", sum := "6aa8a730c8fc2e9c0d76c851cbc6311a8a66d7f9ba319594295604352aa59a83", func := "silo/silolaw07.CdcAhead", spec := "cdcAhead", unfollowed := true, recurses := true, named := ["math/bits.deBruijn32tab", "math/bits.deBruijn64tab"], apart := false, laid := [("math/bits.deBruijn32tab", laid_math_bits_deBruijn32tab), ("math/bits.deBruijn64tab", laid_math_bits_deBruijn64tab)] }
def CdcAheadSaid : Prop := cdcAheadRow.holds Tryd.pinned (OpenSpec.ofChange cdcAheadSpec)

/-- ITS FALSE NEIGHBOUR: 'it returns false'. Refute it at one input. -/
def cdcAheadWrong : ChangeSpec := { name := "cdcAhead", fn := fun _ => fun
  | [d1, d2, d3] => { results := [.lit (.bool false)], args := [d1, d2, d3] }
  | _ => none }
def CdcAheadWrongFalsely : Prop := cdcAheadRow.holds Tryd.pinned (OpenSpec.ofChange cdcAheadWrong)

/-- 'silolaw08.StreamDoes': WHATEVER THE INPUT: true; the input reads as it did. -/
def streamDoesSpec : ChangeSpec := { name := "streamDoes", fn := fun _ => fun
  | [d1, d2, d3] => { results := [.lit (.bool true)], args := [d1, d2, d3] }
  | _ => none }
def streamDoesRow : OpenClaim := { program := "ytkcailgfggbigaadoor", sum := "6aa8a730c8fc2e9c0d76c851cbc6311a8a66d7f9ba319594295604352aa59a83", func := "silo/silolaw08.StreamDoes", spec := "streamDoes", unfollowed := true, recurses := true, named := ["math/bits.deBruijn32tab", "math/bits.deBruijn64tab"], apart := false, laid := [("math/bits.deBruijn32tab", laid_math_bits_deBruijn32tab), ("math/bits.deBruijn64tab", laid_math_bits_deBruijn64tab)] }
def StreamDoesSaid : Prop := streamDoesRow.holds Tryd.pinned (OpenSpec.ofChange streamDoesSpec)

/-- ITS FALSE NEIGHBOUR: 'it returns false'. Refute it at one input. -/
def streamDoesWrong : ChangeSpec := { name := "streamDoes", fn := fun _ => fun
  | [d1, d2, d3] => { results := [.lit (.bool false)], args := [d1, d2, d3] }
  | _ => none }
def StreamDoesWrongFalsely : Prop := streamDoesRow.holds Tryd.pinned (OpenSpec.ofChange streamDoesWrong)

/-- 'silolaw08.StreamWhole': WHATEVER THE INPUT: true; the input reads as it did. -/
def streamWholeSpec : ChangeSpec := { name := "streamWhole", fn := fun _ => fun
  | [d1, d2] => { results := [.lit (.bool true)], args := [d1, d2] }
  | _ => none }
def streamWholeRow : OpenClaim := { program := "ytkcailgfggbigaadoor", sum := "6aa8a730c8fc2e9c0d76c851cbc6311a8a66d7f9ba319594295604352aa59a83", func := "silo/silolaw08.StreamWhole", spec := "streamWhole", unfollowed := true, recurses := true, named := ["math/bits.deBruijn32tab", "math/bits.deBruijn64tab"], apart := false, laid := [("math/bits.deBruijn32tab", laid_math_bits_deBruijn32tab), ("math/bits.deBruijn64tab", laid_math_bits_deBruijn64tab)] }
def StreamWholeSaid : Prop := streamWholeRow.holds Tryd.pinned (OpenSpec.ofChange streamWholeSpec)

/-- ITS FALSE NEIGHBOUR: 'it returns false'. Refute it at one input. -/
def streamWholeWrong : ChangeSpec := { name := "streamWhole", fn := fun _ => fun
  | [d1, d2] => { results := [.lit (.bool false)], args := [d1, d2] }
  | _ => none }
def StreamWholeWrongFalsely : Prop := streamWholeRow.holds Tryd.pinned (OpenSpec.ofChange streamWholeWrong)

/-- 'silolaw08.StreamParts': WHATEVER THE INPUT: true; the input reads as it did. -/
def streamPartsSpec : ChangeSpec := { name := "streamParts", fn := fun _ => fun
  | [d1, d2, d3, d4] => { results := [.lit (.bool true)], args := [d1, d2, d3, d4] }
  | _ => none }
def streamPartsRow : OpenClaim := { program := "ytkcailgfggbigaadoor", sum := "6aa8a730c8fc2e9c0d76c851cbc6311a8a66d7f9ba319594295604352aa59a83", func := "silo/silolaw08.StreamParts", spec := "streamParts", unfollowed := true, recurses := true, named := ["math/bits.deBruijn32tab", "math/bits.deBruijn64tab"], apart := false, laid := [("math/bits.deBruijn32tab", laid_math_bits_deBruijn32tab), ("math/bits.deBruijn64tab", laid_math_bits_deBruijn64tab)] }
def StreamPartsSaid : Prop := streamPartsRow.holds Tryd.pinned (OpenSpec.ofChange streamPartsSpec)

/-- ITS FALSE NEIGHBOUR: 'it returns false'. Refute it at one input. -/
def streamPartsWrong : ChangeSpec := { name := "streamParts", fn := fun _ => fun
  | [d1, d2, d3, d4] => { results := [.lit (.bool false)], args := [d1, d2, d3, d4] }
  | _ => none }
def StreamPartsWrongFalsely : Prop := streamPartsRow.holds Tryd.pinned (OpenSpec.ofChange streamPartsWrong)

/-- 'silolaw08.StreamBytes': WHATEVER THE INPUT: true; the input reads as it did. -/
def streamBytesSpec : ChangeSpec := { name := "streamBytes", fn := fun _ => fun
  | [d1, d2] => { results := [.lit (.bool true)], args := [d1, d2] }
  | _ => none }
def streamBytesRow : OpenClaim := { program := "ytkcailgfggbigaadoor", sum := "6aa8a730c8fc2e9c0d76c851cbc6311a8a66d7f9ba319594295604352aa59a83", func := "silo/silolaw08.StreamBytes", spec := "streamBytes", unfollowed := true, recurses := true, named := ["math/bits.deBruijn32tab", "math/bits.deBruijn64tab"], apart := false, laid := [("math/bits.deBruijn32tab", laid_math_bits_deBruijn32tab), ("math/bits.deBruijn64tab", laid_math_bits_deBruijn64tab)] }
def StreamBytesSaid : Prop := streamBytesRow.holds Tryd.pinned (OpenSpec.ofChange streamBytesSpec)

/-- ITS FALSE NEIGHBOUR: 'it returns false'. Refute it at one input. -/
def streamBytesWrong : ChangeSpec := { name := "streamBytes", fn := fun _ => fun
  | [d1, d2] => { results := [.lit (.bool false)], args := [d1, d2] }
  | _ => none }
def StreamBytesWrongFalsely : Prop := streamBytesRow.holds Tryd.pinned (OpenSpec.ofChange streamBytesWrong)

/- THE SECOND FORM. 'bulk': how many values and letters a reading holds, each counted each time it is reached (what is shared counts as often as it is met; a slice's spare places count too). A statement '..UptoSaid' is the law's where the arguments, and the package variables that the reading takes, are together of bulk at most 1048576: NARROWER than '..Said'. Prove '..Said' where nothing that the law and all that it calls make is longer than what came in: it says more and counts as full. Else prove '..UptoSaid'. A law counts once. -/
mutual
def uptoBulk {H : Type} : DataW H → Nat
  | .lit (.string bytes) => bytes.length + 1
  | .lit _ => 1
  | .nil => 1
  | .ptr d => uptoBulk d + 1
  | .slice elems spare => uptoBulkAll elems + uptoBulkAll spare + 1
  | .agg parts => uptoBulkAll parts + 1
  | .iface _ d => uptoBulk d + 1
  | .map entries => uptoBulkEntries entries + 1
  | .held _ => 1
def uptoBulkAll {H : Type} : List (DataW H) → Nat
  | [] => 0
  | d :: r => uptoBulk d + uptoBulkAll r
def uptoBulkEntries {H : Type} : List (Lit × DataW H) → Nat
  | [] => 0
  | x :: r => uptoBulkEntry x + uptoBulkEntries r
def uptoBulkEntry {H : Type} : Lit × DataW H → Nat
  | (.string bytes, d) => bytes.length + uptoBulk d + 1
  | (_, d) => uptoBulk d + 1
 end
def uptoSmall : (H : Type) → List (DataW H) → Bool := fun _ ds => decide (uptoBulkAll ds ≤ 1048576)
def OpenSpec.upto (s : _root_.Go.ChangeSpec) : _root_.Go.OpenSpec := { _root_.Go.OpenSpec.ofChange s with cond := some uptoSmall }

/-- 'silolaw07.CdcDoes', WHERE WHAT IT READS IS OF BULK AT MOST 1048576: true; the input reads as it did. -/
def cdcDoesUptoRow : OpenClaim := { program := "ytkcailgfggbigaadoor", sum := "6aa8a730c8fc2e9c0d76c851cbc6311a8a66d7f9ba319594295604352aa59a83", func := "silo/silolaw07.CdcDoes", spec := "cdcDoes", unfollowed := true, recurses := true, named := ["math/bits.deBruijn32tab", "math/bits.deBruijn64tab"], apart := false, laid := [("math/bits.deBruijn32tab", laid_math_bits_deBruijn32tab), ("math/bits.deBruijn64tab", laid_math_bits_deBruijn64tab)], narrowed := true }
def CdcDoesUptoSaid : Prop := cdcDoesUptoRow.holds Tryd.pinned (OpenSpec.upto cdcDoesSpec)

/-- 'silolaw07.CdcWhole', WHERE WHAT IT READS IS OF BULK AT MOST 1048576: true; the input reads as it did. -/
def cdcWholeUptoRow : OpenClaim := { program := "ytkcailgfggbigaadoor", sum := "6aa8a730c8fc2e9c0d76c851cbc6311a8a66d7f9ba319594295604352aa59a83", func := "silo/silolaw07.CdcWhole", spec := "cdcWhole", unfollowed := true, recurses := true, named := ["math/bits.deBruijn32tab", "math/bits.deBruijn64tab"], apart := false, laid := [("math/bits.deBruijn32tab", laid_math_bits_deBruijn32tab), ("math/bits.deBruijn64tab", laid_math_bits_deBruijn64tab)], narrowed := true }
def CdcWholeUptoSaid : Prop := cdcWholeUptoRow.holds Tryd.pinned (OpenSpec.upto cdcWholeSpec)

/-- 'silolaw07.CdcStep', WHERE WHAT IT READS IS OF BULK AT MOST 1048576: true; the input reads as it did. -/
def cdcStepUptoRow : OpenClaim := { program := "ytkcailgfggbigaadoor", sum := "6aa8a730c8fc2e9c0d76c851cbc6311a8a66d7f9ba319594295604352aa59a83", func := "silo/silolaw07.CdcStep", spec := "cdcStep", unfollowed := true, recurses := true, named := ["math/bits.deBruijn32tab", "math/bits.deBruijn64tab"], apart := false, laid := [("math/bits.deBruijn32tab", laid_math_bits_deBruijn32tab), ("math/bits.deBruijn64tab", laid_math_bits_deBruijn64tab)], narrowed := true }
def CdcStepUptoSaid : Prop := cdcStepUptoRow.holds Tryd.pinned (OpenSpec.upto cdcStepSpec)

/-- 'silolaw07.CdcAhead', WHERE WHAT IT READS IS OF BULK AT MOST 1048576: true; the input reads as it did. -/
def cdcAheadUptoRow : OpenClaim := { program := "ytkcailgfggbigaadoor", sum := "6aa8a730c8fc2e9c0d76c851cbc6311a8a66d7f9ba319594295604352aa59a83", func := "silo/silolaw07.CdcAhead", spec := "cdcAhead", unfollowed := true, recurses := true, named := ["math/bits.deBruijn32tab", "math/bits.deBruijn64tab"], apart := false, laid := [("math/bits.deBruijn32tab", laid_math_bits_deBruijn32tab), ("math/bits.deBruijn64tab", laid_math_bits_deBruijn64tab)], narrowed := true }
def CdcAheadUptoSaid : Prop := cdcAheadUptoRow.holds Tryd.pinned (OpenSpec.upto cdcAheadSpec)

/-- 'silolaw08.StreamDoes', WHERE WHAT IT READS IS OF BULK AT MOST 1048576: true; the input reads as it did. -/
def streamDoesUptoRow : OpenClaim := { program := "ytkcailgfggbigaadoor", sum := "6aa8a730c8fc2e9c0d76c851cbc6311a8a66d7f9ba319594295604352aa59a83", func := "silo/silolaw08.StreamDoes", spec := "streamDoes", unfollowed := true, recurses := true, named := ["math/bits.deBruijn32tab", "math/bits.deBruijn64tab"], apart := false, laid := [("math/bits.deBruijn32tab", laid_math_bits_deBruijn32tab), ("math/bits.deBruijn64tab", laid_math_bits_deBruijn64tab)], narrowed := true }
def StreamDoesUptoSaid : Prop := streamDoesUptoRow.holds Tryd.pinned (OpenSpec.upto streamDoesSpec)

/-- 'silolaw08.StreamWhole', WHERE WHAT IT READS IS OF BULK AT MOST 1048576: true; the input reads as it did. -/
def streamWholeUptoRow : OpenClaim := { program := "ytkcailgfggbigaadoor", sum := "6aa8a730c8fc2e9c0d76c851cbc6311a8a66d7f9ba319594295604352aa59a83", func := "silo/silolaw08.StreamWhole", spec := "streamWhole", unfollowed := true, recurses := true, named := ["math/bits.deBruijn32tab", "math/bits.deBruijn64tab"], apart := false, laid := [("math/bits.deBruijn32tab", laid_math_bits_deBruijn32tab), ("math/bits.deBruijn64tab", laid_math_bits_deBruijn64tab)], narrowed := true }
def StreamWholeUptoSaid : Prop := streamWholeUptoRow.holds Tryd.pinned (OpenSpec.upto streamWholeSpec)

/-- 'silolaw08.StreamParts', WHERE WHAT IT READS IS OF BULK AT MOST 1048576: true; the input reads as it did. -/
def streamPartsUptoRow : OpenClaim := { program := "ytkcailgfggbigaadoor", sum := "6aa8a730c8fc2e9c0d76c851cbc6311a8a66d7f9ba319594295604352aa59a83", func := "silo/silolaw08.StreamParts", spec := "streamParts", unfollowed := true, recurses := true, named := ["math/bits.deBruijn32tab", "math/bits.deBruijn64tab"], apart := false, laid := [("math/bits.deBruijn32tab", laid_math_bits_deBruijn32tab), ("math/bits.deBruijn64tab", laid_math_bits_deBruijn64tab)], narrowed := true }
def StreamPartsUptoSaid : Prop := streamPartsUptoRow.holds Tryd.pinned (OpenSpec.upto streamPartsSpec)

/-- 'silolaw08.StreamBytes', WHERE WHAT IT READS IS OF BULK AT MOST 1048576: true; the input reads as it did. -/
def streamBytesUptoRow : OpenClaim := { program := "ytkcailgfggbigaadoor", sum := "6aa8a730c8fc2e9c0d76c851cbc6311a8a66d7f9ba319594295604352aa59a83", func := "silo/silolaw08.StreamBytes", spec := "streamBytes", unfollowed := true, recurses := true, named := ["math/bits.deBruijn32tab", "math/bits.deBruijn64tab"], apart := false, laid := [("math/bits.deBruijn32tab", laid_math_bits_deBruijn32tab), ("math/bits.deBruijn64tab", laid_math_bits_deBruijn64tab)], narrowed := true }
def StreamBytesUptoSaid : Prop := streamBytesUptoRow.holds Tryd.pinned (OpenSpec.upto streamBytesSpec)

end Rows
end Go.Proofs.YtkcailgfggbigaaDoor
