/-
  DERIVED. GIVEN WITH THE SEED: THE CARDS: each row of YthdnepjajhjmlaaDoorRows.lean that lists a variable, with what it lists TIED to the program's text (the seventh form; the later family's looks); each row that meets fmt, with fmt's text TOLD by the authors' own Lean function (tested against real Go, not proved from fmt's source: count such statements apart). THE CARD IS WHAT COUNTS. Prove the row's statement (the work); the ties are given (YthdnepjajhjmlaaDoorTie.lean); close each card by the builder's one call (the guide's Derived/Test/ToyasCard.lean, 'card_holds'). Laid BY PROGRAM, IN A SANDBOX (cutbox-door.mjs). By AI agents, Wed Nov 11 2026. No macro, syntax, notation, axiom, sorry.
-/
import Derived.Test.YthdnepjajhjmlaaDoorRows
import GoSem.ClaimSeven
namespace Go.Proofs.YthdnepjajhjmlaaDoor
namespace Rows

/-- THE TIED CARD OF 'laws.FnExactCountOutputs'. -/
def fnExactCountOutputsCard : Claim7 := { stood := { row := fnExactCountOutputsRow, standIns := [], harness := (true, "6e74d8555c0c7cb4ac5283df32c45a951e3039c8dbd3b123ce12c7d37fb19941"), looks := true }, kinds := [], alts := [], laidByText := true, laidKinds := [.data, .pinned], laidTests := true, laidLooks := .later }
def FnExactCountOutputsCardSaid : Prop := Claim7.holds Tryd.pinned (.plain (OpenSpec.ofChange fnExactCountOutputsSpec)) fnExactCountOutputsCard

/-- THE TIED CARD OF 'laws.FnExactJournalOf'. -/
def fnExactJournalOfCard : Claim7 := { stood := { row := fnExactJournalOfRow, standIns := [], harness := (true, "6e74d8555c0c7cb4ac5283df32c45a951e3039c8dbd3b123ce12c7d37fb19941"), looks := true }, kinds := [], alts := [], laidByText := true, laidKinds := [.data, .data, .data], laidTests := true, laidLooks := .later }
def FnExactJournalOfCardSaid : Prop := Claim7.holds Tryd.pinned (.plain (OpenSpec.ofChange fnExactJournalOfSpec)) fnExactJournalOfCard

/-- THE TIED CARD OF 'laws.FnExactRecoverJournal'. -/
def fnExactRecoverJournalCard : Claim7 := { stood := { row := fnExactRecoverJournalRow, standIns := [], harness := (true, "6e74d8555c0c7cb4ac5283df32c45a951e3039c8dbd3b123ce12c7d37fb19941"), looks := true }, kinds := [], alts := [], laidByText := true, laidKinds := [.data, .data, .data], laidTests := true, laidLooks := .later }
def FnExactRecoverJournalCardSaid : Prop := Claim7.holds Tryd.pinned (.plain (OpenSpec.ofChange fnExactRecoverJournalSpec)) fnExactRecoverJournalCard

/-- THE TIED CARD OF 'laws.FnExactRiverText'. -/
def fnExactRiverTextCard : Claim7 := { stood := { row := fnExactRiverTextRow, standIns := [], harness := (true, "6e74d8555c0c7cb4ac5283df32c45a951e3039c8dbd3b123ce12c7d37fb19941"), looks := true }, kinds := [], alts := [], laidByText := true, laidKinds := [.data, .data, .data], laidTests := true, laidLooks := .later }
def FnExactRiverTextCardSaid : Prop := Claim7.holds Tryd.pinned (.plain (OpenSpec.ofChange fnExactRiverTextSpec)) fnExactRiverTextCard

/-- THE TIED CARD OF 'laws.FnExactReadRiver'. -/
def fnExactReadRiverCard : Claim7 := { stood := { row := fnExactReadRiverRow, standIns := [], harness := (true, "6e74d8555c0c7cb4ac5283df32c45a951e3039c8dbd3b123ce12c7d37fb19941"), looks := true }, kinds := [], alts := [], laidByText := true, laidKinds := [.data, .data, .data, .data, .sentinel, .sentinel, .pinned], laidTests := true, laidLooks := .later }
def FnExactReadRiverCardSaid : Prop := Claim7.holds Tryd.pinned (.plain (OpenSpec.ofChange fnExactReadRiverSpec)) fnExactReadRiverCard

/-- THE TIED CARD OF 'laws.FnExactSoilText'. -/
def fnExactSoilTextCard : Claim7 := { stood := { row := fnExactSoilTextRow, standIns := [], harness := (true, "6e74d8555c0c7cb4ac5283df32c45a951e3039c8dbd3b123ce12c7d37fb19941"), looks := true }, kinds := [], alts := [], laidByText := true, laidKinds := [.data, .data, .data], laidTests := true, laidLooks := .later }
def FnExactSoilTextCardSaid : Prop := Claim7.holds Tryd.pinned (.plain (OpenSpec.ofChange fnExactSoilTextSpec)) fnExactSoilTextCard

/-- THE TIED CARD OF 'laws.FnExactSectionText'. -/
def fnExactSectionTextCard : Claim7 := { stood := { row := fnExactSectionTextRow, standIns := [], harness := (true, "6e74d8555c0c7cb4ac5283df32c45a951e3039c8dbd3b123ce12c7d37fb19941"), looks := true }, kinds := [], alts := [], laidByText := true, laidKinds := [.data, .data, .data], laidTests := true, laidLooks := .later }
def FnExactSectionTextCardSaid : Prop := Claim7.holds Tryd.pinned (.plain (OpenSpec.ofChange fnExactSectionTextSpec)) fnExactSectionTextCard

/-- THE TIED CARD OF 'laws.FnExactHillText'. -/
def fnExactHillTextCard : Claim7 := { stood := { row := fnExactHillTextRow, standIns := [], harness := (true, "6e74d8555c0c7cb4ac5283df32c45a951e3039c8dbd3b123ce12c7d37fb19941"), looks := true }, kinds := [], alts := [], laidByText := true, laidKinds := [.data, .data, .data], laidTests := true, laidLooks := .later }
def FnExactHillTextCardSaid : Prop := Claim7.holds Tryd.pinned (.plain (OpenSpec.ofChange fnExactHillTextSpec)) fnExactHillTextCard

/-- THE TIED CARD OF 'laws.FnExactReadSoil'. -/
def fnExactReadSoilCard : Claim7 := { stood := { row := fnExactReadSoilRow, standIns := [], harness := (true, "6e74d8555c0c7cb4ac5283df32c45a951e3039c8dbd3b123ce12c7d37fb19941"), looks := true }, kinds := [], alts := [], laidByText := true, laidKinds := [.data, .data, .data, .data, .sentinel, .sentinel, .pinned], laidTests := true, laidLooks := .later }
def FnExactReadSoilCardSaid : Prop := Claim7.holds Tryd.pinned (.plain (OpenSpec.ofChange fnExactReadSoilSpec)) fnExactReadSoilCard

/-- THE TIED CARD OF 'laws.FnExactReadSection'. -/
def fnExactReadSectionCard : Claim7 := { stood := { row := fnExactReadSectionRow, standIns := [], harness := (true, "6e74d8555c0c7cb4ac5283df32c45a951e3039c8dbd3b123ce12c7d37fb19941"), looks := true }, kinds := [], alts := [], laidByText := true, laidKinds := [.data, .data, .data, .data, .sentinel, .sentinel, .pinned], laidTests := true, laidLooks := .later }
def FnExactReadSectionCardSaid : Prop := Claim7.holds Tryd.pinned (.plain (OpenSpec.ofChange fnExactReadSectionSpec)) fnExactReadSectionCard

/-- THE SECOND FORM's CARD OF 'laws.FnExactCountOutputs'. -/
def fnExactCountOutputsUptoCard : Claim7 := { stood := { row := fnExactCountOutputsUptoRow, standIns := [], harness := (true, "6e74d8555c0c7cb4ac5283df32c45a951e3039c8dbd3b123ce12c7d37fb19941"), looks := true }, kinds := [], alts := [], laidByText := true, laidKinds := [.data, .pinned], laidTests := true, laidLooks := .later }
def FnExactCountOutputsUptoCardSaid : Prop := Claim7.holds Tryd.pinned (.plain (OpenSpec.upto fnExactCountOutputsSpec)) fnExactCountOutputsUptoCard

/-- THE SECOND FORM's CARD OF 'laws.FnExactJournalOf'. -/
def fnExactJournalOfUptoCard : Claim7 := { stood := { row := fnExactJournalOfUptoRow, standIns := [], harness := (true, "6e74d8555c0c7cb4ac5283df32c45a951e3039c8dbd3b123ce12c7d37fb19941"), looks := true }, kinds := [], alts := [], laidByText := true, laidKinds := [.data, .data, .data], laidTests := true, laidLooks := .later }
def FnExactJournalOfUptoCardSaid : Prop := Claim7.holds Tryd.pinned (.plain (OpenSpec.upto fnExactJournalOfSpec)) fnExactJournalOfUptoCard

/-- THE SECOND FORM's CARD OF 'laws.FnExactRecoverJournal'. -/
def fnExactRecoverJournalUptoCard : Claim7 := { stood := { row := fnExactRecoverJournalUptoRow, standIns := [], harness := (true, "6e74d8555c0c7cb4ac5283df32c45a951e3039c8dbd3b123ce12c7d37fb19941"), looks := true }, kinds := [], alts := [], laidByText := true, laidKinds := [.data, .data, .data], laidTests := true, laidLooks := .later }
def FnExactRecoverJournalUptoCardSaid : Prop := Claim7.holds Tryd.pinned (.plain (OpenSpec.upto fnExactRecoverJournalSpec)) fnExactRecoverJournalUptoCard

/-- THE SECOND FORM's CARD OF 'laws.FnExactRiverText'. -/
def fnExactRiverTextUptoCard : Claim7 := { stood := { row := fnExactRiverTextUptoRow, standIns := [], harness := (true, "6e74d8555c0c7cb4ac5283df32c45a951e3039c8dbd3b123ce12c7d37fb19941"), looks := true }, kinds := [], alts := [], laidByText := true, laidKinds := [.data, .data, .data], laidTests := true, laidLooks := .later }
def FnExactRiverTextUptoCardSaid : Prop := Claim7.holds Tryd.pinned (.plain (OpenSpec.upto fnExactRiverTextSpec)) fnExactRiverTextUptoCard

/-- THE SECOND FORM's CARD OF 'laws.FnExactReadRiver'. -/
def fnExactReadRiverUptoCard : Claim7 := { stood := { row := fnExactReadRiverUptoRow, standIns := [], harness := (true, "6e74d8555c0c7cb4ac5283df32c45a951e3039c8dbd3b123ce12c7d37fb19941"), looks := true }, kinds := [], alts := [], laidByText := true, laidKinds := [.data, .data, .data, .data, .sentinel, .sentinel, .pinned], laidTests := true, laidLooks := .later }
def FnExactReadRiverUptoCardSaid : Prop := Claim7.holds Tryd.pinned (.plain (OpenSpec.upto fnExactReadRiverSpec)) fnExactReadRiverUptoCard

/-- THE SECOND FORM's CARD OF 'laws.FnExactSoilText'. -/
def fnExactSoilTextUptoCard : Claim7 := { stood := { row := fnExactSoilTextUptoRow, standIns := [], harness := (true, "6e74d8555c0c7cb4ac5283df32c45a951e3039c8dbd3b123ce12c7d37fb19941"), looks := true }, kinds := [], alts := [], laidByText := true, laidKinds := [.data, .data, .data], laidTests := true, laidLooks := .later }
def FnExactSoilTextUptoCardSaid : Prop := Claim7.holds Tryd.pinned (.plain (OpenSpec.upto fnExactSoilTextSpec)) fnExactSoilTextUptoCard

/-- THE SECOND FORM's CARD OF 'laws.FnExactSectionText'. -/
def fnExactSectionTextUptoCard : Claim7 := { stood := { row := fnExactSectionTextUptoRow, standIns := [], harness := (true, "6e74d8555c0c7cb4ac5283df32c45a951e3039c8dbd3b123ce12c7d37fb19941"), looks := true }, kinds := [], alts := [], laidByText := true, laidKinds := [.data, .data, .data], laidTests := true, laidLooks := .later }
def FnExactSectionTextUptoCardSaid : Prop := Claim7.holds Tryd.pinned (.plain (OpenSpec.upto fnExactSectionTextSpec)) fnExactSectionTextUptoCard

/-- THE SECOND FORM's CARD OF 'laws.FnExactHillText'. -/
def fnExactHillTextUptoCard : Claim7 := { stood := { row := fnExactHillTextUptoRow, standIns := [], harness := (true, "6e74d8555c0c7cb4ac5283df32c45a951e3039c8dbd3b123ce12c7d37fb19941"), looks := true }, kinds := [], alts := [], laidByText := true, laidKinds := [.data, .data, .data], laidTests := true, laidLooks := .later }
def FnExactHillTextUptoCardSaid : Prop := Claim7.holds Tryd.pinned (.plain (OpenSpec.upto fnExactHillTextSpec)) fnExactHillTextUptoCard

/-- THE SECOND FORM's CARD OF 'laws.FnExactReadSoil'. -/
def fnExactReadSoilUptoCard : Claim7 := { stood := { row := fnExactReadSoilUptoRow, standIns := [], harness := (true, "6e74d8555c0c7cb4ac5283df32c45a951e3039c8dbd3b123ce12c7d37fb19941"), looks := true }, kinds := [], alts := [], laidByText := true, laidKinds := [.data, .data, .data, .data, .sentinel, .sentinel, .pinned], laidTests := true, laidLooks := .later }
def FnExactReadSoilUptoCardSaid : Prop := Claim7.holds Tryd.pinned (.plain (OpenSpec.upto fnExactReadSoilSpec)) fnExactReadSoilUptoCard

/-- THE SECOND FORM's CARD OF 'laws.FnExactReadSection'. -/
def fnExactReadSectionUptoCard : Claim7 := { stood := { row := fnExactReadSectionUptoRow, standIns := [], harness := (true, "6e74d8555c0c7cb4ac5283df32c45a951e3039c8dbd3b123ce12c7d37fb19941"), looks := true }, kinds := [], alts := [], laidByText := true, laidKinds := [.data, .data, .data, .data, .sentinel, .sentinel, .pinned], laidTests := true, laidLooks := .later }
def FnExactReadSectionUptoCardSaid : Prop := Claim7.holds Tryd.pinned (.plain (OpenSpec.upto fnExactReadSectionSpec)) fnExactReadSectionUptoCard
end Rows
end Go.Proofs.YthdnepjajhjmlaaDoor
