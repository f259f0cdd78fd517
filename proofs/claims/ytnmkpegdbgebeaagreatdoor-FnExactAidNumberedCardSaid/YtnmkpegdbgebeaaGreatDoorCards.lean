/-
  DERIVED. GIVEN WITH THE SEED: THE CARDS: each row of YtnmkpegdbgebeaaGreatDoorRows.lean that lists a variable, with what it lists TIED to the program's text (the seventh form; the later family's looks); each row that meets fmt, with fmt's text TOLD by the authors' own Lean function (tested against real Go, not proved from fmt's source: count such statements apart). THE CARD IS WHAT COUNTS. Prove the row's statement (the work); the ties are given (YtnmkpegdbgebeaaGreatDoorTie.lean); close each card by the builder's one call (the guide's Derived/Test/ToyasCard.lean, 'card_holds'). Laid BY PROGRAM, IN A SANDBOX (cutbox-door.mjs). By AI agents, Wed Nov 11 2026. No macro, syntax, notation, axiom, sorry.
-/
import Derived.Test.YtnmkpegdbgebeaaGreatDoorRows
import GoSem.ClaimSeven
namespace Go.Proofs.YtnmkpegdbgebeaaGreatDoor
namespace Rows

/-- THE TIED CARD OF 'laws.FnExactAidNumbered'. -/
def fnExactAidNumberedCard : Claim7 := { stood := { row := fnExactAidNumberedRow, standIns := [], harness := (true, "7ec5adbcf28e9634f6e2d3fab9563bc3e92851598d5265934ff95f7950abd3a6"), looks := false }, kinds := [], alts := [], laidByText := true, laidKinds := [.listed, .data], laidTests := true, laidLooks := .later }
def FnExactAidNumberedCardSaid : Prop := Claim7.holds Tryz.pinned (.plain (OpenSpec.ofChange fnExactAidNumberedSpec)) fnExactAidNumberedCard

/-- THE TIED CARD OF 'laws.FnExactDropAid'. -/
def fnExactDropAidCard : Claim7 := { stood := { row := fnExactDropAidRow, standIns := [], harness := (true, "7ec5adbcf28e9634f6e2d3fab9563bc3e92851598d5265934ff95f7950abd3a6"), looks := false }, kinds := [], alts := [], laidByText := true, laidKinds := [.listed, .data], laidTests := true, laidLooks := .later }
def FnExactDropAidCardSaid : Prop := Claim7.holds Tryz.pinned (.plain (OpenSpec.ofChange fnExactDropAidSpec)) fnExactDropAidCard

/-- THE TIED CARD OF 'laws.FnExactReplaceAid'. -/
def fnExactReplaceAidCard : Claim7 := { stood := { row := fnExactReplaceAidRow, standIns := [], harness := (true, "7ec5adbcf28e9634f6e2d3fab9563bc3e92851598d5265934ff95f7950abd3a6"), looks := false }, kinds := [], alts := [], laidByText := true, laidKinds := [.listed, .data], laidTests := true, laidLooks := .later }
def FnExactReplaceAidCardSaid : Prop := Claim7.holds Tryz.pinned (.plain (OpenSpec.ofChange fnExactReplaceAidSpec)) fnExactReplaceAidCard

/-- THE TIED CARD OF 'laws.FnExactIsMarked'. -/
def fnExactIsMarkedCard : Claim7 := { stood := { row := fnExactIsMarkedRow, standIns := [], harness := (true, "7ec5adbcf28e9634f6e2d3fab9563bc3e92851598d5265934ff95f7950abd3a6"), looks := false }, kinds := [], alts := [], laidByText := true, laidKinds := [.listed, .data], laidTests := true, laidLooks := .later }
def FnExactIsMarkedCardSaid : Prop := Claim7.holds Tryz.pinned (.plain (OpenSpec.ofChange fnExactIsMarkedSpec)) fnExactIsMarkedCard

/-- THE SECOND FORM's CARD OF 'laws.FnExactAidNumbered'. -/
def fnExactAidNumberedUptoCard : Claim7 := { stood := { row := fnExactAidNumberedUptoRow, standIns := [], harness := (true, "7ec5adbcf28e9634f6e2d3fab9563bc3e92851598d5265934ff95f7950abd3a6"), looks := false }, kinds := [], alts := [], laidByText := true, laidKinds := [.listed, .data], laidTests := true, laidLooks := .later }
def FnExactAidNumberedUptoCardSaid : Prop := Claim7.holds Tryz.pinned (.plain (OpenSpec.upto fnExactAidNumberedSpec)) fnExactAidNumberedUptoCard

/-- THE SECOND FORM's CARD OF 'laws.FnExactDropAid'. -/
def fnExactDropAidUptoCard : Claim7 := { stood := { row := fnExactDropAidUptoRow, standIns := [], harness := (true, "7ec5adbcf28e9634f6e2d3fab9563bc3e92851598d5265934ff95f7950abd3a6"), looks := false }, kinds := [], alts := [], laidByText := true, laidKinds := [.listed, .data], laidTests := true, laidLooks := .later }
def FnExactDropAidUptoCardSaid : Prop := Claim7.holds Tryz.pinned (.plain (OpenSpec.upto fnExactDropAidSpec)) fnExactDropAidUptoCard

/-- THE SECOND FORM's CARD OF 'laws.FnExactReplaceAid'. -/
def fnExactReplaceAidUptoCard : Claim7 := { stood := { row := fnExactReplaceAidUptoRow, standIns := [], harness := (true, "7ec5adbcf28e9634f6e2d3fab9563bc3e92851598d5265934ff95f7950abd3a6"), looks := false }, kinds := [], alts := [], laidByText := true, laidKinds := [.listed, .data], laidTests := true, laidLooks := .later }
def FnExactReplaceAidUptoCardSaid : Prop := Claim7.holds Tryz.pinned (.plain (OpenSpec.upto fnExactReplaceAidSpec)) fnExactReplaceAidUptoCard

/-- THE SECOND FORM's CARD OF 'laws.FnExactIsMarked'. -/
def fnExactIsMarkedUptoCard : Claim7 := { stood := { row := fnExactIsMarkedUptoRow, standIns := [], harness := (true, "7ec5adbcf28e9634f6e2d3fab9563bc3e92851598d5265934ff95f7950abd3a6"), looks := false }, kinds := [], alts := [], laidByText := true, laidKinds := [.listed, .data], laidTests := true, laidLooks := .later }
def FnExactIsMarkedUptoCardSaid : Prop := Claim7.holds Tryz.pinned (.plain (OpenSpec.upto fnExactIsMarkedSpec)) fnExactIsMarkedUptoCard
end Rows
end Go.Proofs.YtnmkpegdbgebeaaGreatDoor
