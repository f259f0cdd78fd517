/-
  DERIVED. GIVEN WITH THE SEED: THE CARDS: each row of YtafojijhfbnehaaGreatDoorRows.lean that lists a variable, with what it lists TIED to the program's text (the seventh form; the later family's looks); each row that meets fmt, with fmt's text TOLD by the authors' own Lean function (tested against real Go, not proved from fmt's source: count such statements apart). THE CARD IS WHAT COUNTS. Prove the row's statement (the work); the ties are given (YtafojijhfbnehaaGreatDoorTie.lean); close each card by the builder's one call (the guide's Derived/Test/ToyasCard.lean, 'card_holds'). Laid BY PROGRAM, IN A SANDBOX (cutbox-door.mjs). By AI agents, Wed Nov 11 2026. No macro, syntax, notation, axiom, sorry.
-/
import Derived.Test.YtafojijhfbnehaaGreatDoorRows
import GoSem.ClaimSeven
namespace Go.Proofs.YtafojijhfbnehaaGreatDoor
namespace Rows

/-- THE TIED CARD OF 'laws.FnMerge'. -/
def fnMergeCard : Claim7 := { stood := { row := fnMergeRow, standIns := [], harness := (true, "43d3dd8db84890b15078a485d377ac5a4d2462d288caa4913ae91d24fd0ffaed"), looks := false }, kinds := [], alts := [], laidByText := true, laidKinds := [.listed, .data], laidTests := true, laidLooks := .later }
def FnMergeCardSaid : Prop := Claim7.holds Tryz.pinned (.plain (OpenSpec.ofChange fnMergeSpec)) fnMergeCard

/-- THE TIED CARD OF 'laws.FnExactValidNotice'. -/
def fnExactValidNoticeCard : Claim7 := { stood := { row := fnExactValidNoticeRow, standIns := [], harness := (true, "43d3dd8db84890b15078a485d377ac5a4d2462d288caa4913ae91d24fd0ffaed"), looks := false }, kinds := [], alts := [], laidByText := true, laidKinds := [.listed, .data], laidTests := true, laidLooks := .later }
def FnExactValidNoticeCardSaid : Prop := Claim7.holds Tryz.pinned (.plain (OpenSpec.ofChange fnExactValidNoticeSpec)) fnExactValidNoticeCard

/-- THE TIED CARD OF 'laws.FnExactValidNotices'. -/
def fnExactValidNoticesCard : Claim7 := { stood := { row := fnExactValidNoticesRow, standIns := [], harness := (true, "43d3dd8db84890b15078a485d377ac5a4d2462d288caa4913ae91d24fd0ffaed"), looks := false }, kinds := [], alts := [], laidByText := true, laidKinds := [.listed, .data], laidTests := true, laidLooks := .later }
def FnExactValidNoticesCardSaid : Prop := Claim7.holds Tryz.pinned (.plain (OpenSpec.ofChange fnExactValidNoticesSpec)) fnExactValidNoticesCard

/-- THE TIED CARD OF 'laws.FnExactNextNumber'. -/
def fnExactNextNumberCard : Claim7 := { stood := { row := fnExactNextNumberRow, standIns := [], harness := (true, "43d3dd8db84890b15078a485d377ac5a4d2462d288caa4913ae91d24fd0ffaed"), looks := false }, kinds := [], alts := [], laidByText := true, laidKinds := [.listed, .data], laidTests := true, laidLooks := .later }
def FnExactNextNumberCardSaid : Prop := Claim7.holds Tryz.pinned (.plain (OpenSpec.ofChange fnExactNextNumberSpec)) fnExactNextNumberCard

/-- THE TIED CARD OF 'laws.FnExactConflictsOf'. -/
def fnExactConflictsOfCard : Claim7 := { stood := { row := fnExactConflictsOfRow, standIns := [], harness := (true, "43d3dd8db84890b15078a485d377ac5a4d2462d288caa4913ae91d24fd0ffaed"), looks := false }, kinds := [], alts := [], laidByText := true, laidKinds := [.listed, .data], laidTests := true, laidLooks := .later }
def FnExactConflictsOfCardSaid : Prop := Claim7.holds Tryz.pinned (.plain (OpenSpec.ofChange fnExactConflictsOfSpec)) fnExactConflictsOfCard

/-- THE TIED CARD OF 'laws.FnExactNoticesFor'. -/
def fnExactNoticesForCard : Claim7 := { stood := { row := fnExactNoticesForRow, standIns := [], harness := (true, "43d3dd8db84890b15078a485d377ac5a4d2462d288caa4913ae91d24fd0ffaed"), looks := false }, kinds := [], alts := [], laidByText := true, laidKinds := [.listed, .data], laidTests := true, laidLooks := .later }
def FnExactNoticesForCardSaid : Prop := Claim7.holds Tryz.pinned (.plain (OpenSpec.ofChange fnExactNoticesForSpec)) fnExactNoticesForCard

/-- THE TIED CARD OF 'laws.FnExactDropAid'. -/
def fnExactDropAidCard : Claim7 := { stood := { row := fnExactDropAidRow, standIns := [], harness := (true, "43d3dd8db84890b15078a485d377ac5a4d2462d288caa4913ae91d24fd0ffaed"), looks := false }, kinds := [], alts := [], laidByText := true, laidKinds := [.listed, .data], laidTests := true, laidLooks := .later }
def FnExactDropAidCardSaid : Prop := Claim7.holds Tryz.pinned (.plain (OpenSpec.ofChange fnExactDropAidSpec)) fnExactDropAidCard

/-- THE TIED CARD OF 'laws.FnExactReplaceAid'. -/
def fnExactReplaceAidCard : Claim7 := { stood := { row := fnExactReplaceAidRow, standIns := [], harness := (true, "43d3dd8db84890b15078a485d377ac5a4d2462d288caa4913ae91d24fd0ffaed"), looks := false }, kinds := [], alts := [], laidByText := true, laidKinds := [.listed, .data], laidTests := true, laidLooks := .later }
def FnExactReplaceAidCardSaid : Prop := Claim7.holds Tryz.pinned (.plain (OpenSpec.ofChange fnExactReplaceAidSpec)) fnExactReplaceAidCard

/-- THE SECOND FORM's CARD OF 'laws.FnMerge'. -/
def fnMergeUptoCard : Claim7 := { stood := { row := fnMergeUptoRow, standIns := [], harness := (true, "43d3dd8db84890b15078a485d377ac5a4d2462d288caa4913ae91d24fd0ffaed"), looks := false }, kinds := [], alts := [], laidByText := true, laidKinds := [.listed, .data], laidTests := true, laidLooks := .later }
def FnMergeUptoCardSaid : Prop := Claim7.holds Tryz.pinned (.plain (OpenSpec.upto fnMergeSpec)) fnMergeUptoCard

/-- THE SECOND FORM's CARD OF 'laws.FnExactValidNotice'. -/
def fnExactValidNoticeUptoCard : Claim7 := { stood := { row := fnExactValidNoticeUptoRow, standIns := [], harness := (true, "43d3dd8db84890b15078a485d377ac5a4d2462d288caa4913ae91d24fd0ffaed"), looks := false }, kinds := [], alts := [], laidByText := true, laidKinds := [.listed, .data], laidTests := true, laidLooks := .later }
def FnExactValidNoticeUptoCardSaid : Prop := Claim7.holds Tryz.pinned (.plain (OpenSpec.upto fnExactValidNoticeSpec)) fnExactValidNoticeUptoCard

/-- THE SECOND FORM's CARD OF 'laws.FnExactValidNotices'. -/
def fnExactValidNoticesUptoCard : Claim7 := { stood := { row := fnExactValidNoticesUptoRow, standIns := [], harness := (true, "43d3dd8db84890b15078a485d377ac5a4d2462d288caa4913ae91d24fd0ffaed"), looks := false }, kinds := [], alts := [], laidByText := true, laidKinds := [.listed, .data], laidTests := true, laidLooks := .later }
def FnExactValidNoticesUptoCardSaid : Prop := Claim7.holds Tryz.pinned (.plain (OpenSpec.upto fnExactValidNoticesSpec)) fnExactValidNoticesUptoCard

/-- THE SECOND FORM's CARD OF 'laws.FnExactNextNumber'. -/
def fnExactNextNumberUptoCard : Claim7 := { stood := { row := fnExactNextNumberUptoRow, standIns := [], harness := (true, "43d3dd8db84890b15078a485d377ac5a4d2462d288caa4913ae91d24fd0ffaed"), looks := false }, kinds := [], alts := [], laidByText := true, laidKinds := [.listed, .data], laidTests := true, laidLooks := .later }
def FnExactNextNumberUptoCardSaid : Prop := Claim7.holds Tryz.pinned (.plain (OpenSpec.upto fnExactNextNumberSpec)) fnExactNextNumberUptoCard

/-- THE SECOND FORM's CARD OF 'laws.FnExactConflictsOf'. -/
def fnExactConflictsOfUptoCard : Claim7 := { stood := { row := fnExactConflictsOfUptoRow, standIns := [], harness := (true, "43d3dd8db84890b15078a485d377ac5a4d2462d288caa4913ae91d24fd0ffaed"), looks := false }, kinds := [], alts := [], laidByText := true, laidKinds := [.listed, .data], laidTests := true, laidLooks := .later }
def FnExactConflictsOfUptoCardSaid : Prop := Claim7.holds Tryz.pinned (.plain (OpenSpec.upto fnExactConflictsOfSpec)) fnExactConflictsOfUptoCard

/-- THE SECOND FORM's CARD OF 'laws.FnExactNoticesFor'. -/
def fnExactNoticesForUptoCard : Claim7 := { stood := { row := fnExactNoticesForUptoRow, standIns := [], harness := (true, "43d3dd8db84890b15078a485d377ac5a4d2462d288caa4913ae91d24fd0ffaed"), looks := false }, kinds := [], alts := [], laidByText := true, laidKinds := [.listed, .data], laidTests := true, laidLooks := .later }
def FnExactNoticesForUptoCardSaid : Prop := Claim7.holds Tryz.pinned (.plain (OpenSpec.upto fnExactNoticesForSpec)) fnExactNoticesForUptoCard

/-- THE SECOND FORM's CARD OF 'laws.FnExactDropAid'. -/
def fnExactDropAidUptoCard : Claim7 := { stood := { row := fnExactDropAidUptoRow, standIns := [], harness := (true, "43d3dd8db84890b15078a485d377ac5a4d2462d288caa4913ae91d24fd0ffaed"), looks := false }, kinds := [], alts := [], laidByText := true, laidKinds := [.listed, .data], laidTests := true, laidLooks := .later }
def FnExactDropAidUptoCardSaid : Prop := Claim7.holds Tryz.pinned (.plain (OpenSpec.upto fnExactDropAidSpec)) fnExactDropAidUptoCard

/-- THE SECOND FORM's CARD OF 'laws.FnExactReplaceAid'. -/
def fnExactReplaceAidUptoCard : Claim7 := { stood := { row := fnExactReplaceAidUptoRow, standIns := [], harness := (true, "43d3dd8db84890b15078a485d377ac5a4d2462d288caa4913ae91d24fd0ffaed"), looks := false }, kinds := [], alts := [], laidByText := true, laidKinds := [.listed, .data], laidTests := true, laidLooks := .later }
def FnExactReplaceAidUptoCardSaid : Prop := Claim7.holds Tryz.pinned (.plain (OpenSpec.upto fnExactReplaceAidSpec)) fnExactReplaceAidUptoCard
end Rows
end Go.Proofs.YtafojijhfbnehaaGreatDoor
