/-
  DERIVED. GIVEN WITH THE SEED: THE CARDS: each row of YtgcfmmcdecabpaaDoorRows.lean that lists a variable, with what it lists TIED to the program's text (the seventh form; the later family's looks); each row that meets fmt, with fmt's text TOLD by the authors' own Lean function (tested against real Go, not proved from fmt's source: count such statements apart). THE CARD IS WHAT COUNTS. Prove the row's statement (the work); the ties are given (YtgcfmmcdecabpaaDoorTie.lean); close each card by the builder's one call (the guide's Derived/Test/ToyasCard.lean, 'card_holds'). Laid BY PROGRAM, IN A SANDBOX (cutbox-door.mjs). By AI agents, Wed Nov 11 2026. No macro, syntax, notation, axiom, sorry.
-/
import Derived.Test.YtgcfmmcdecabpaaDoorRows
import GoSem.ClaimSeven
namespace Go.Proofs.YtgcfmmcdecabpaaDoor
namespace Rows

/-- THE TIED CARD OF 'laws.FnExactReadDuty'. -/
def fnExactReadDutyCard : Claim7 := { stood := { row := fnExactReadDutyRow, standIns := [], harness := (true, "84708b84859c4d18a7f7da995d9b8e87b6e1d0f505a5c19844d19ef0830f248e"), looks := true }, kinds := [], alts := [], laidByText := true, laidKinds := [.data, .data, .data, .data, .sentinel, .sentinel, .pinned], laidTests := true, laidLooks := .later }
def FnExactReadDutyCardSaid : Prop := Claim7.holds Tryd.pinned (.plain (OpenSpec.ofChange fnExactReadDutySpec)) fnExactReadDutyCard

/-- THE SECOND FORM's CARD OF 'laws.FnExactReadDuty'. -/
def fnExactReadDutyUptoCard : Claim7 := { stood := { row := fnExactReadDutyUptoRow, standIns := [], harness := (true, "84708b84859c4d18a7f7da995d9b8e87b6e1d0f505a5c19844d19ef0830f248e"), looks := true }, kinds := [], alts := [], laidByText := true, laidKinds := [.data, .data, .data, .data, .sentinel, .sentinel, .pinned], laidTests := true, laidLooks := .later }
def FnExactReadDutyUptoCardSaid : Prop := Claim7.holds Tryd.pinned (.plain (OpenSpec.upto fnExactReadDutySpec)) fnExactReadDutyUptoCard
end Rows
end Go.Proofs.YtgcfmmcdecabpaaDoor
