/-
  DERIVED. GIVEN WITH THE SEED: THE CARDS: each row of YtpfnnjcochhklaaGreatDoorRows.lean that lists a variable, with what it lists TIED to the program's text (the seventh form; the later family's looks); each row that meets fmt, with fmt's text TOLD by the authors' own Lean function (tested against real Go, not proved from fmt's source: count such statements apart). THE CARD IS WHAT COUNTS. Prove the row's statement (the work); the ties are given (YtpfnnjcochhklaaGreatDoorTie.lean); close each card by the builder's one call (the guide's Derived/Test/ToyasCard.lean, 'card_holds'). Laid BY PROGRAM, IN A SANDBOX (cutbox-door.mjs). By AI agents, Wed Nov 11 2026. No macro, syntax, notation, axiom, sorry.
-/
import Derived.Test.YtpfnnjcochhklaaGreatDoorRows
import GoSem.ClaimSeven
namespace Go.Proofs.YtpfnnjcochhklaaGreatDoor
namespace Rows

/-- THE TIED CARD OF 'laws.FnMerge'. -/
def fnMergeCard : Claim7 := { stood := { row := fnMergeRow, standIns := [], harness := (true, "24e6f3489b733f057910fe20ab311b88863139f7f7249460783a2bd6d3af1c7a"), looks := false }, kinds := [], alts := [], laidByText := true, laidKinds := [.listed, .data], laidTests := true, laidLooks := .later }
def FnMergeCardSaid : Prop := Claim7.holds Tryz.pinned (.plain (OpenSpec.ofChange fnMergeSpec)) fnMergeCard

/-- THE TIED CARD OF 'laws.FnExactConflictsOf'. -/
def fnExactConflictsOfCard : Claim7 := { stood := { row := fnExactConflictsOfRow, standIns := [], harness := (true, "24e6f3489b733f057910fe20ab311b88863139f7f7249460783a2bd6d3af1c7a"), looks := false }, kinds := [], alts := [], laidByText := true, laidKinds := [.listed, .data], laidTests := true, laidLooks := .later }
def FnExactConflictsOfCardSaid : Prop := Claim7.holds Tryz.pinned (.plain (OpenSpec.ofChange fnExactConflictsOfSpec)) fnExactConflictsOfCard

/-- THE SECOND FORM's CARD OF 'laws.FnMerge'. -/
def fnMergeUptoCard : Claim7 := { stood := { row := fnMergeUptoRow, standIns := [], harness := (true, "24e6f3489b733f057910fe20ab311b88863139f7f7249460783a2bd6d3af1c7a"), looks := false }, kinds := [], alts := [], laidByText := true, laidKinds := [.listed, .data], laidTests := true, laidLooks := .later }
def FnMergeUptoCardSaid : Prop := Claim7.holds Tryz.pinned (.plain (OpenSpec.upto fnMergeSpec)) fnMergeUptoCard

/-- THE SECOND FORM's CARD OF 'laws.FnExactConflictsOf'. -/
def fnExactConflictsOfUptoCard : Claim7 := { stood := { row := fnExactConflictsOfUptoRow, standIns := [], harness := (true, "24e6f3489b733f057910fe20ab311b88863139f7f7249460783a2bd6d3af1c7a"), looks := false }, kinds := [], alts := [], laidByText := true, laidKinds := [.listed, .data], laidTests := true, laidLooks := .later }
def FnExactConflictsOfUptoCardSaid : Prop := Claim7.holds Tryz.pinned (.plain (OpenSpec.upto fnExactConflictsOfSpec)) fnExactConflictsOfUptoCard
end Rows
end Go.Proofs.YtpfnnjcochhklaaGreatDoor
