/-
  DERIVED. GIVEN WITH THE SEED: THE CARDS: each row of YtpgcgmbjlecnpaaDoorRows.lean that lists a variable, with what it lists TIED to the program's text (the seventh form; the later family's looks); each row that meets fmt, with fmt's text TOLD by the authors' own Lean function (tested against real Go, not proved from fmt's source: count such statements apart). THE CARD IS WHAT COUNTS. Prove the row's statement (the work); the ties are given (YtpgcgmbjlecnpaaDoorTie.lean); close each card by the builder's one call (the guide's Derived/Test/ToyasCard.lean, 'card_holds'). Laid BY PROGRAM, IN A SANDBOX (cutbox-door.mjs). By AI agents, Wed Nov 11 2026. No macro, syntax, notation, axiom, sorry.
-/
import Derived.Test.YtpgcgmbjlecnpaaDoorRows
import GoSem.ClaimSeven
namespace Go.Proofs.YtpgcgmbjlecnpaaDoor
namespace Rows

/-- THE TIED CARD OF 'laws.FnExactDutyText'. -/
def fnExactDutyTextCard : Claim7 := { stood := { row := fnExactDutyTextRow, standIns := [], harness := (true, "eb4880d550586abe39cc4d061508100ec200336f4e6384b79fdd5c659e41d9f3"), looks := false }, kinds := [], alts := [], laidByText := true, laidKinds := [.data, .data, .data], laidTests := true, laidLooks := .later }
def FnExactDutyTextCardSaid : Prop := Claim7.holds Tryd.pinned (.plain (OpenSpec.ofChange fnExactDutyTextSpec)) fnExactDutyTextCard

/-- THE SECOND FORM's CARD OF 'laws.FnExactDutyText'. -/
def fnExactDutyTextUptoCard : Claim7 := { stood := { row := fnExactDutyTextUptoRow, standIns := [], harness := (true, "eb4880d550586abe39cc4d061508100ec200336f4e6384b79fdd5c659e41d9f3"), looks := false }, kinds := [], alts := [], laidByText := true, laidKinds := [.data, .data, .data], laidTests := true, laidLooks := .later }
def FnExactDutyTextUptoCardSaid : Prop := Claim7.holds Tryd.pinned (.plain (OpenSpec.upto fnExactDutyTextSpec)) fnExactDutyTextUptoCard
end Rows
end Go.Proofs.YtpgcgmbjlecnpaaDoor
