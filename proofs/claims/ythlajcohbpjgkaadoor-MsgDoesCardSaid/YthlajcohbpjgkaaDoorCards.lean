/-
  DERIVED. GIVEN WITH THE SEED: THE CARDS: each row of YthlajcohbpjgkaaDoorRows.lean that lists a variable, with what it lists TIED to the program's text (the seventh form; the later family's looks); each row that meets fmt, with fmt's text TOLD by the authors' own Lean function (tested against real Go, not proved from fmt's source: count such statements apart). THE CARD IS WHAT COUNTS. Prove the row's statement (the work); the ties are given (YthlajcohbpjgkaaDoorTie.lean); close each card by the builder's one call (the guide's Derived/Test/ToyasCard.lean, 'card_holds'). Laid BY PROGRAM, IN A SANDBOX (cutbox-door.mjs). By AI agents, Wed Nov 11 2026. No macro, syntax, notation, axiom, sorry.
-/
import Derived.Test.YthlajcohbpjgkaaDoorRows
import GoSem.ClaimSeven
namespace Go.Proofs.YthlajcohbpjgkaaDoor
namespace Rows

/-- THE TIED CARD OF 'silolaw22.MsgCuts'. -/
def msgCutsCard : Claim7 := { stood := { row := msgCutsRow, standIns := [], harness := (true, "02cd74806874b26b25824b0354dd72e83a382cdc4ff890c475bf91b8c959e1c9"), looks := true }, kinds := [], alts := [], laidByText := true, laidKinds := [.handle], laidTests := true, laidLooks := .later }
def MsgCutsCardSaid : Prop := Claim7.holds Tryd.pinned (.plain (OpenSpec.ofChange msgCutsSpec)) msgCutsCard

/-- THE TIED CARD OF 'silolaw22.MsgUnlike'. -/
def msgUnlikeCard : Claim7 := { stood := { row := msgUnlikeRow, standIns := [], harness := (true, "02cd74806874b26b25824b0354dd72e83a382cdc4ff890c475bf91b8c959e1c9"), looks := true }, kinds := [], alts := [], laidByText := true, laidKinds := [.handle], laidTests := true, laidLooks := .later }
def MsgUnlikeCardSaid : Prop := Claim7.holds Tryd.pinned (.plain (OpenSpec.ofChange msgUnlikeSpec)) msgUnlikeCard

/-- THE TIED CARD OF 'silolaw22.MsgDoes'. -/
def msgDoesCard : Claim7 := { stood := { row := msgDoesRow, standIns := [], harness := (true, "02cd74806874b26b25824b0354dd72e83a382cdc4ff890c475bf91b8c959e1c9"), looks := true }, kinds := [], alts := [], laidByText := true, laidKinds := [.handle], laidTests := true, laidLooks := .later }
def MsgDoesCardSaid : Prop := Claim7.holds Tryd.pinned (.plain (OpenSpec.ofChange msgDoesSpec)) msgDoesCard

/-- THE TIED CARD OF 'silolaw22.MsgBack'. -/
def msgBackCard : Claim7 := { stood := { row := msgBackRow, standIns := [], harness := (true, "02cd74806874b26b25824b0354dd72e83a382cdc4ff890c475bf91b8c959e1c9"), looks := true }, kinds := [], alts := [], laidByText := true, laidKinds := [.handle], laidTests := true, laidLooks := .later }
def MsgBackCardSaid : Prop := Claim7.holds Tryd.pinned (.plain (OpenSpec.ofChange msgBackSpec)) msgBackCard

/-- THE SECOND FORM's CARD OF 'silolaw22.MsgCuts'. -/
def msgCutsUptoCard : Claim7 := { stood := { row := msgCutsUptoRow, standIns := [], harness := (true, "02cd74806874b26b25824b0354dd72e83a382cdc4ff890c475bf91b8c959e1c9"), looks := true }, kinds := [], alts := [], laidByText := true, laidKinds := [.handle], laidTests := true, laidLooks := .later }
def MsgCutsUptoCardSaid : Prop := Claim7.holds Tryd.pinned (.plain (OpenSpec.upto msgCutsSpec)) msgCutsUptoCard

/-- THE SECOND FORM's CARD OF 'silolaw22.MsgUnlike'. -/
def msgUnlikeUptoCard : Claim7 := { stood := { row := msgUnlikeUptoRow, standIns := [], harness := (true, "02cd74806874b26b25824b0354dd72e83a382cdc4ff890c475bf91b8c959e1c9"), looks := true }, kinds := [], alts := [], laidByText := true, laidKinds := [.handle], laidTests := true, laidLooks := .later }
def MsgUnlikeUptoCardSaid : Prop := Claim7.holds Tryd.pinned (.plain (OpenSpec.upto msgUnlikeSpec)) msgUnlikeUptoCard

/-- THE SECOND FORM's CARD OF 'silolaw22.MsgDoes'. -/
def msgDoesUptoCard : Claim7 := { stood := { row := msgDoesUptoRow, standIns := [], harness := (true, "02cd74806874b26b25824b0354dd72e83a382cdc4ff890c475bf91b8c959e1c9"), looks := true }, kinds := [], alts := [], laidByText := true, laidKinds := [.handle], laidTests := true, laidLooks := .later }
def MsgDoesUptoCardSaid : Prop := Claim7.holds Tryd.pinned (.plain (OpenSpec.upto msgDoesSpec)) msgDoesUptoCard

/-- THE SECOND FORM's CARD OF 'silolaw22.MsgBack'. -/
def msgBackUptoCard : Claim7 := { stood := { row := msgBackUptoRow, standIns := [], harness := (true, "02cd74806874b26b25824b0354dd72e83a382cdc4ff890c475bf91b8c959e1c9"), looks := true }, kinds := [], alts := [], laidByText := true, laidKinds := [.handle], laidTests := true, laidLooks := .later }
def MsgBackUptoCardSaid : Prop := Claim7.holds Tryd.pinned (.plain (OpenSpec.upto msgBackSpec)) msgBackUptoCard
end Rows
end Go.Proofs.YthlajcohbpjgkaaDoor
