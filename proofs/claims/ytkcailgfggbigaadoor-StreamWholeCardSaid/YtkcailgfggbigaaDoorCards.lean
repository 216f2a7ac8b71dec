/-
  DERIVED. GIVEN WITH THE SEED: THE CARDS: each row of YtkcailgfggbigaaDoorRows.lean that lists a variable, with what it lists TIED to the program's text (the seventh form; the later family's looks); each row that meets fmt, with fmt's text TOLD by the authors' own Lean function (tested against real Go, not proved from fmt's source: count such statements apart). THE CARD IS WHAT COUNTS. Prove the row's statement (the work); the ties are given (YtkcailgfggbigaaDoorTie.lean); close each card by the builder's one call (the guide's Derived/Test/ToyasCard.lean, 'card_holds'). Laid BY PROGRAM, IN A SANDBOX (cutbox-door.mjs). By AI agents, Wed Nov 11 2026. No macro, syntax, notation, axiom, sorry.
-/
import Derived.Test.YtkcailgfggbigaaDoorRows
import GoSem.ClaimSeven
namespace Go.Proofs.YtkcailgfggbigaaDoor
namespace Rows

/-- THE TIED CARD OF 'silolaw07.CdcDoes'. -/
def cdcDoesCard : Claim7 := { stood := { row := cdcDoesRow, standIns := [], harness := (true, "80abbd3cdc15223565a923e2def52ebc98bf64e812bf4108ad6810812b323382"), looks := false }, kinds := [], alts := [], laidByText := true, laidKinds := [.data, .data], laidTests := true, laidLooks := .later }
def CdcDoesCardSaid : Prop := Claim7.holds Tryd.pinned (.plain (OpenSpec.ofChange cdcDoesSpec)) cdcDoesCard

/-- THE TIED CARD OF 'silolaw07.CdcWhole'. -/
def cdcWholeCard : Claim7 := { stood := { row := cdcWholeRow, standIns := [], harness := (true, "80abbd3cdc15223565a923e2def52ebc98bf64e812bf4108ad6810812b323382"), looks := false }, kinds := [], alts := [], laidByText := true, laidKinds := [.data, .data], laidTests := true, laidLooks := .later }
def CdcWholeCardSaid : Prop := Claim7.holds Tryd.pinned (.plain (OpenSpec.ofChange cdcWholeSpec)) cdcWholeCard

/-- THE TIED CARD OF 'silolaw07.CdcStep'. -/
def cdcStepCard : Claim7 := { stood := { row := cdcStepRow, standIns := [], harness := (true, "80abbd3cdc15223565a923e2def52ebc98bf64e812bf4108ad6810812b323382"), looks := false }, kinds := [], alts := [], laidByText := true, laidKinds := [.data, .data], laidTests := true, laidLooks := .later }
def CdcStepCardSaid : Prop := Claim7.holds Tryd.pinned (.plain (OpenSpec.ofChange cdcStepSpec)) cdcStepCard

/-- THE TIED CARD OF 'silolaw07.CdcAhead'. -/
def cdcAheadCard : Claim7 := { stood := { row := cdcAheadRow, standIns := [], harness := (true, "80abbd3cdc15223565a923e2def52ebc98bf64e812bf4108ad6810812b323382"), looks := false }, kinds := [], alts := [], laidByText := true, laidKinds := [.data, .data], laidTests := true, laidLooks := .later }
def CdcAheadCardSaid : Prop := Claim7.holds Tryd.pinned (.plain (OpenSpec.ofChange cdcAheadSpec)) cdcAheadCard

/-- THE TIED CARD OF 'silolaw08.StreamDoes'. -/
def streamDoesCard : Claim7 := { stood := { row := streamDoesRow, standIns := [], harness := (true, "80abbd3cdc15223565a923e2def52ebc98bf64e812bf4108ad6810812b323382"), looks := false }, kinds := [], alts := [], laidByText := true, laidKinds := [.data, .data], laidTests := true, laidLooks := .later }
def StreamDoesCardSaid : Prop := Claim7.holds Tryd.pinned (.plain (OpenSpec.ofChange streamDoesSpec)) streamDoesCard

/-- THE TIED CARD OF 'silolaw08.StreamWhole'. -/
def streamWholeCard : Claim7 := { stood := { row := streamWholeRow, standIns := [], harness := (true, "80abbd3cdc15223565a923e2def52ebc98bf64e812bf4108ad6810812b323382"), looks := false }, kinds := [], alts := [], laidByText := true, laidKinds := [.data, .data], laidTests := true, laidLooks := .later }
def StreamWholeCardSaid : Prop := Claim7.holds Tryd.pinned (.plain (OpenSpec.ofChange streamWholeSpec)) streamWholeCard

/-- THE TIED CARD OF 'silolaw08.StreamParts'. -/
def streamPartsCard : Claim7 := { stood := { row := streamPartsRow, standIns := [], harness := (true, "80abbd3cdc15223565a923e2def52ebc98bf64e812bf4108ad6810812b323382"), looks := false }, kinds := [], alts := [], laidByText := true, laidKinds := [.data, .data], laidTests := true, laidLooks := .later }
def StreamPartsCardSaid : Prop := Claim7.holds Tryd.pinned (.plain (OpenSpec.ofChange streamPartsSpec)) streamPartsCard

/-- THE TIED CARD OF 'silolaw08.StreamBytes'. -/
def streamBytesCard : Claim7 := { stood := { row := streamBytesRow, standIns := [], harness := (true, "80abbd3cdc15223565a923e2def52ebc98bf64e812bf4108ad6810812b323382"), looks := false }, kinds := [], alts := [], laidByText := true, laidKinds := [.data, .data], laidTests := true, laidLooks := .later }
def StreamBytesCardSaid : Prop := Claim7.holds Tryd.pinned (.plain (OpenSpec.ofChange streamBytesSpec)) streamBytesCard

/-- THE SECOND FORM's CARD OF 'silolaw07.CdcDoes'. -/
def cdcDoesUptoCard : Claim7 := { stood := { row := cdcDoesUptoRow, standIns := [], harness := (true, "80abbd3cdc15223565a923e2def52ebc98bf64e812bf4108ad6810812b323382"), looks := false }, kinds := [], alts := [], laidByText := true, laidKinds := [.data, .data], laidTests := true, laidLooks := .later }
def CdcDoesUptoCardSaid : Prop := Claim7.holds Tryd.pinned (.plain (OpenSpec.upto cdcDoesSpec)) cdcDoesUptoCard

/-- THE SECOND FORM's CARD OF 'silolaw07.CdcWhole'. -/
def cdcWholeUptoCard : Claim7 := { stood := { row := cdcWholeUptoRow, standIns := [], harness := (true, "80abbd3cdc15223565a923e2def52ebc98bf64e812bf4108ad6810812b323382"), looks := false }, kinds := [], alts := [], laidByText := true, laidKinds := [.data, .data], laidTests := true, laidLooks := .later }
def CdcWholeUptoCardSaid : Prop := Claim7.holds Tryd.pinned (.plain (OpenSpec.upto cdcWholeSpec)) cdcWholeUptoCard

/-- THE SECOND FORM's CARD OF 'silolaw07.CdcStep'. -/
def cdcStepUptoCard : Claim7 := { stood := { row := cdcStepUptoRow, standIns := [], harness := (true, "80abbd3cdc15223565a923e2def52ebc98bf64e812bf4108ad6810812b323382"), looks := false }, kinds := [], alts := [], laidByText := true, laidKinds := [.data, .data], laidTests := true, laidLooks := .later }
def CdcStepUptoCardSaid : Prop := Claim7.holds Tryd.pinned (.plain (OpenSpec.upto cdcStepSpec)) cdcStepUptoCard

/-- THE SECOND FORM's CARD OF 'silolaw07.CdcAhead'. -/
def cdcAheadUptoCard : Claim7 := { stood := { row := cdcAheadUptoRow, standIns := [], harness := (true, "80abbd3cdc15223565a923e2def52ebc98bf64e812bf4108ad6810812b323382"), looks := false }, kinds := [], alts := [], laidByText := true, laidKinds := [.data, .data], laidTests := true, laidLooks := .later }
def CdcAheadUptoCardSaid : Prop := Claim7.holds Tryd.pinned (.plain (OpenSpec.upto cdcAheadSpec)) cdcAheadUptoCard

/-- THE SECOND FORM's CARD OF 'silolaw08.StreamDoes'. -/
def streamDoesUptoCard : Claim7 := { stood := { row := streamDoesUptoRow, standIns := [], harness := (true, "80abbd3cdc15223565a923e2def52ebc98bf64e812bf4108ad6810812b323382"), looks := false }, kinds := [], alts := [], laidByText := true, laidKinds := [.data, .data], laidTests := true, laidLooks := .later }
def StreamDoesUptoCardSaid : Prop := Claim7.holds Tryd.pinned (.plain (OpenSpec.upto streamDoesSpec)) streamDoesUptoCard

/-- THE SECOND FORM's CARD OF 'silolaw08.StreamWhole'. -/
def streamWholeUptoCard : Claim7 := { stood := { row := streamWholeUptoRow, standIns := [], harness := (true, "80abbd3cdc15223565a923e2def52ebc98bf64e812bf4108ad6810812b323382"), looks := false }, kinds := [], alts := [], laidByText := true, laidKinds := [.data, .data], laidTests := true, laidLooks := .later }
def StreamWholeUptoCardSaid : Prop := Claim7.holds Tryd.pinned (.plain (OpenSpec.upto streamWholeSpec)) streamWholeUptoCard

/-- THE SECOND FORM's CARD OF 'silolaw08.StreamParts'. -/
def streamPartsUptoCard : Claim7 := { stood := { row := streamPartsUptoRow, standIns := [], harness := (true, "80abbd3cdc15223565a923e2def52ebc98bf64e812bf4108ad6810812b323382"), looks := false }, kinds := [], alts := [], laidByText := true, laidKinds := [.data, .data], laidTests := true, laidLooks := .later }
def StreamPartsUptoCardSaid : Prop := Claim7.holds Tryd.pinned (.plain (OpenSpec.upto streamPartsSpec)) streamPartsUptoCard

/-- THE SECOND FORM's CARD OF 'silolaw08.StreamBytes'. -/
def streamBytesUptoCard : Claim7 := { stood := { row := streamBytesUptoRow, standIns := [], harness := (true, "80abbd3cdc15223565a923e2def52ebc98bf64e812bf4108ad6810812b323382"), looks := false }, kinds := [], alts := [], laidByText := true, laidKinds := [.data, .data], laidTests := true, laidLooks := .later }
def StreamBytesUptoCardSaid : Prop := Claim7.holds Tryd.pinned (.plain (OpenSpec.upto streamBytesSpec)) streamBytesUptoCard
end Rows
end Go.Proofs.YtkcailgfggbigaaDoor
