/-
  DERIVED. GIVEN WITH THE SEED: THE CARDS: each row of YtjkjmpmefapnoaaGreatDoorRows.lean that lists a variable, with what it lists TIED to the program's text (the seventh form; the later family's looks); each row that meets fmt, with fmt's text TOLD by the authors' own Lean function (tested against real Go, not proved from fmt's source: count such statements apart). THE CARD IS WHAT COUNTS. Prove the row's statement (the work); the ties are given (YtjkjmpmefapnoaaGreatDoorTie.lean); close each card by the builder's one call (the guide's Derived/Test/ToyasCard.lean, 'card_holds'). Laid BY PROGRAM, IN A SANDBOX (cutbox-door.mjs). By AI agents, Wed Nov 11 2026. No macro, syntax, notation, axiom, sorry.
-/
import Derived.Test.YtjkjmpmefapnoaaGreatDoorRows
import GoSem.ClaimSeven
namespace Go.Proofs.YtjkjmpmefapnoaaGreatDoor
namespace Rows

/-- THE TIED CARD OF 'laws.FnPower'. -/
def fnPowerCard : Claim7 := { stood := { row := fnPowerRow, standIns := [], harness := (true, "f57dc2195bebdf3bb9980048ba45be19a8ac30d5dd79c4ca75e1266830cf59dc"), looks := true }, kinds := [], alts := [], laidByText := true, laidKinds := [.data, .data, .data, .data, .sentinel, .sentinel, .pinned], laidTests := true, laidLooks := .later }
def FnPowerCardSaid : Prop := Claim7.holds Tryz.pinned (.plain (OpenSpec.ofChange fnPowerSpec)) fnPowerCard

/-- THE TIED CARD OF 'laws.FnCharacters'. -/
def fnCharactersCard : Claim7 := { stood := { row := fnCharactersRow, standIns := [], harness := (true, "f57dc2195bebdf3bb9980048ba45be19a8ac30d5dd79c4ca75e1266830cf59dc"), looks := true }, kinds := [], alts := [], laidByText := true, laidKinds := [.data, .data, .data, .data, .sentinel, .sentinel, .pinned], laidTests := true, laidLooks := .later }
def FnCharactersCardSaid : Prop := Claim7.holds Tryz.pinned (.plain (OpenSpec.ofChange fnCharactersSpec)) fnCharactersCard

/-- THE SECOND FORM's CARD OF 'laws.FnPower'. -/
def fnPowerUptoCard : Claim7 := { stood := { row := fnPowerUptoRow, standIns := [], harness := (true, "f57dc2195bebdf3bb9980048ba45be19a8ac30d5dd79c4ca75e1266830cf59dc"), looks := true }, kinds := [], alts := [], laidByText := true, laidKinds := [.data, .data, .data, .data, .sentinel, .sentinel, .pinned], laidTests := true, laidLooks := .later }
def FnPowerUptoCardSaid : Prop := Claim7.holds Tryz.pinned (.plain (OpenSpec.upto fnPowerSpec)) fnPowerUptoCard

/-- THE SECOND FORM's CARD OF 'laws.FnCharacters'. -/
def fnCharactersUptoCard : Claim7 := { stood := { row := fnCharactersUptoRow, standIns := [], harness := (true, "f57dc2195bebdf3bb9980048ba45be19a8ac30d5dd79c4ca75e1266830cf59dc"), looks := true }, kinds := [], alts := [], laidByText := true, laidKinds := [.data, .data, .data, .data, .sentinel, .sentinel, .pinned], laidTests := true, laidLooks := .later }
def FnCharactersUptoCardSaid : Prop := Claim7.holds Tryz.pinned (.plain (OpenSpec.upto fnCharactersSpec)) fnCharactersUptoCard
end Rows
end Go.Proofs.YtjkjmpmefapnoaaGreatDoor
