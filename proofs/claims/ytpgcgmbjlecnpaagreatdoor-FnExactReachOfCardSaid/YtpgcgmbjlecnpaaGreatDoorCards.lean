/-
  DERIVED. GIVEN WITH THE SEED: THE CARDS: each row of YtpgcgmbjlecnpaaGreatDoorRows.lean that lists a variable, with what it lists TIED to the program's text (the seventh form; the later family's looks); each row that meets fmt, with fmt's text TOLD by the authors' own Lean function (tested against real Go, not proved from fmt's source: count such statements apart). THE CARD IS WHAT COUNTS. Prove the row's statement (the work); the ties are given (YtpgcgmbjlecnpaaGreatDoorTie.lean); close each card by the builder's one call (the guide's Derived/Test/ToyasCard.lean, 'card_holds'). Laid BY PROGRAM, IN A SANDBOX (cutbox-door.mjs). By AI agents, Wed Nov 11 2026. No macro, syntax, notation, axiom, sorry.
-/
import Derived.Test.YtpgcgmbjlecnpaaGreatDoorRows
import GoSem.ClaimSeven
namespace Go.Proofs.YtpgcgmbjlecnpaaGreatDoor
namespace Rows

/-- THE TIED CARD OF 'laws.FnExactMarksDanger'. -/
def fnExactMarksDangerCard : Claim7 := { stood := { row := fnExactMarksDangerRow, standIns := [], harness := (true, "36abb948414896bab4537a8d344f893de7aea9d0120700ec0e667002b3eec475"), looks := false }, kinds := [], alts := [], laidByText := true, laidKinds := [.listed, .data], laidTests := true, laidLooks := .later }
def FnExactMarksDangerCardSaid : Prop := Claim7.holds Tryz.pinned (.plain (OpenSpec.ofChange fnExactMarksDangerSpec)) fnExactMarksDangerCard

/-- THE TIED CARD OF 'laws.FnExactReachOf'. -/
def fnExactReachOfCard : Claim7 := { stood := { row := fnExactReachOfRow, standIns := [], harness := (true, "36abb948414896bab4537a8d344f893de7aea9d0120700ec0e667002b3eec475"), looks := false }, kinds := [], alts := [], laidByText := true, laidKinds := [.listed, .data], laidTests := true, laidLooks := .later }
def FnExactReachOfCardSaid : Prop := Claim7.holds Tryz.pinned (.plain (OpenSpec.ofChange fnExactReachOfSpec)) fnExactReachOfCard

/-- THE TIED CARD OF 'laws.FnExactIsMarked'. -/
def fnExactIsMarkedCard : Claim7 := { stood := { row := fnExactIsMarkedRow, standIns := [], harness := (true, "36abb948414896bab4537a8d344f893de7aea9d0120700ec0e667002b3eec475"), looks := false }, kinds := [], alts := [], laidByText := true, laidKinds := [.listed, .data], laidTests := true, laidLooks := .later }
def FnExactIsMarkedCardSaid : Prop := Claim7.holds Tryz.pinned (.plain (OpenSpec.ofChange fnExactIsMarkedSpec)) fnExactIsMarkedCard

/-- THE SECOND FORM's CARD OF 'laws.FnExactMarksDanger'. -/
def fnExactMarksDangerUptoCard : Claim7 := { stood := { row := fnExactMarksDangerUptoRow, standIns := [], harness := (true, "36abb948414896bab4537a8d344f893de7aea9d0120700ec0e667002b3eec475"), looks := false }, kinds := [], alts := [], laidByText := true, laidKinds := [.listed, .data], laidTests := true, laidLooks := .later }
def FnExactMarksDangerUptoCardSaid : Prop := Claim7.holds Tryz.pinned (.plain (OpenSpec.upto fnExactMarksDangerSpec)) fnExactMarksDangerUptoCard

/-- THE SECOND FORM's CARD OF 'laws.FnExactReachOf'. -/
def fnExactReachOfUptoCard : Claim7 := { stood := { row := fnExactReachOfUptoRow, standIns := [], harness := (true, "36abb948414896bab4537a8d344f893de7aea9d0120700ec0e667002b3eec475"), looks := false }, kinds := [], alts := [], laidByText := true, laidKinds := [.listed, .data], laidTests := true, laidLooks := .later }
def FnExactReachOfUptoCardSaid : Prop := Claim7.holds Tryz.pinned (.plain (OpenSpec.upto fnExactReachOfSpec)) fnExactReachOfUptoCard

/-- THE SECOND FORM's CARD OF 'laws.FnExactIsMarked'. -/
def fnExactIsMarkedUptoCard : Claim7 := { stood := { row := fnExactIsMarkedUptoRow, standIns := [], harness := (true, "36abb948414896bab4537a8d344f893de7aea9d0120700ec0e667002b3eec475"), looks := false }, kinds := [], alts := [], laidByText := true, laidKinds := [.listed, .data], laidTests := true, laidLooks := .later }
def FnExactIsMarkedUptoCardSaid : Prop := Claim7.holds Tryz.pinned (.plain (OpenSpec.upto fnExactIsMarkedSpec)) fnExactIsMarkedUptoCard
end Rows
end Go.Proofs.YtpgcgmbjlecnpaaGreatDoor
