/-
  DERIVED. GIVEN WITH THE SEED: THE CARDS: each row of YtomjdkjkdmieaaaDoorRows.lean that lists a variable, with what it lists TIED to the program's text (the seventh form; the later family's looks); each row that meets fmt, with fmt's text TOLD by the authors' own Lean function (tested against real Go, not proved from fmt's source: count such statements apart). THE CARD IS WHAT COUNTS. Prove the row's statement (the work); the ties are given (YtomjdkjkdmieaaaDoorTie.lean); close each card by the builder's one call (the guide's Derived/Test/ToyasCard.lean, 'card_holds'). Laid BY PROGRAM, IN A SANDBOX (cutbox-door.mjs). By AI agents, Wed Nov 11 2026. No macro, syntax, notation, axiom, sorry.
-/
import Derived.Test.YtomjdkjkdmieaaaDoorRows
import GoSem.ClaimSeven
namespace Go.Proofs.YtomjdkjkdmieaaaDoor
namespace Rows

/-- THE TIED CARD OF 'laws.FnExactCharacterText'. -/
def fnExactCharacterTextCard : Claim7 := { stood := { row := fnExactCharacterTextRow, standIns := [], harness := (true, "8eea51b10a839451106372317c4d9ede41c289d2ad8fabfc50294de9af895f13"), looks := false }, kinds := [], alts := [], laidByText := true, laidKinds := [.data, .data, .data], laidTests := true, laidLooks := .later }
def FnExactCharacterTextCardSaid : Prop := Claim7.holds Tryd.pinned (.plain (OpenSpec.ofChange fnExactCharacterTextSpec)) fnExactCharacterTextCard

/-- THE TIED CARD OF 'laws.FnExactRhythmFits'. -/
def fnExactRhythmFitsCard : Claim7 := { stood := { row := fnExactRhythmFitsRow, standIns := [], harness := (true, "8eea51b10a839451106372317c4d9ede41c289d2ad8fabfc50294de9af895f13"), looks := false }, kinds := [], alts := [], laidByText := true, laidKinds := [.data, .data, .data], laidTests := true, laidLooks := .later }
def FnExactRhythmFitsCardSaid : Prop := Claim7.holds Tryd.pinned (.plain (OpenSpec.ofChange fnExactRhythmFitsSpec)) fnExactRhythmFitsCard

/-- THE SECOND FORM's CARD OF 'laws.FnExactCharacterText'. -/
def fnExactCharacterTextUptoCard : Claim7 := { stood := { row := fnExactCharacterTextUptoRow, standIns := [], harness := (true, "8eea51b10a839451106372317c4d9ede41c289d2ad8fabfc50294de9af895f13"), looks := false }, kinds := [], alts := [], laidByText := true, laidKinds := [.data, .data, .data], laidTests := true, laidLooks := .later }
def FnExactCharacterTextUptoCardSaid : Prop := Claim7.holds Tryd.pinned (.plain (OpenSpec.upto fnExactCharacterTextSpec)) fnExactCharacterTextUptoCard

/-- THE SECOND FORM's CARD OF 'laws.FnExactRhythmFits'. -/
def fnExactRhythmFitsUptoCard : Claim7 := { stood := { row := fnExactRhythmFitsUptoRow, standIns := [], harness := (true, "8eea51b10a839451106372317c4d9ede41c289d2ad8fabfc50294de9af895f13"), looks := false }, kinds := [], alts := [], laidByText := true, laidKinds := [.data, .data, .data], laidTests := true, laidLooks := .later }
def FnExactRhythmFitsUptoCardSaid : Prop := Claim7.holds Tryd.pinned (.plain (OpenSpec.upto fnExactRhythmFitsSpec)) fnExactRhythmFitsUptoCard
end Rows
end Go.Proofs.YtomjdkjkdmieaaaDoor
