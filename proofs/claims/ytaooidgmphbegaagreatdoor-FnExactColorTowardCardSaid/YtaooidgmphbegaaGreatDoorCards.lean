/-
  DERIVED. GIVEN WITH THE SEED: THE CARDS: each row of YtaooidgmphbegaaGreatDoorRows.lean that lists a variable, with what it lists TIED to the program's text (the seventh form; the later family's looks); each row that meets fmt, with fmt's text TOLD by the authors' own Lean function (tested against real Go, not proved from fmt's source: count such statements apart). THE CARD IS WHAT COUNTS. Prove the row's statement (the work); the ties are given (YtaooidgmphbegaaGreatDoorTie.lean); close each card by the builder's one call (the guide's Derived/Test/ToyasCard.lean, 'card_holds'). Laid BY PROGRAM, IN A SANDBOX (cutbox-door.mjs). By AI agents, Wed Nov 11 2026. No macro, syntax, notation, axiom, sorry.
-/
import Derived.Test.YtaooidgmphbegaaGreatDoorRows
import GoSem.ClaimSeven
namespace Go.Proofs.YtaooidgmphbegaaGreatDoor
namespace Rows

/-- THE TIED CARD OF 'laws.FnExactValidAid'. -/
def fnExactValidAidCard : Claim7 := { stood := { row := fnExactValidAidRow, standIns := [], harness := (true, "9bd1fa8fdbb6f299640a7f95bc7cf3cc8d1aaca9146a8dae188280a7461b131c"), looks := false }, kinds := [], alts := [], laidByText := true, laidKinds := [.listed, .data], laidTests := true, laidLooks := .later }
def FnExactValidAidCardSaid : Prop := Claim7.holds Tryz.pinned (.plain (OpenSpec.ofChange fnExactValidAidSpec)) fnExactValidAidCard

/-- THE TIED CARD OF 'laws.FnExactHasLight'. -/
def fnExactHasLightCard : Claim7 := { stood := { row := fnExactHasLightRow, standIns := [], harness := (true, "9bd1fa8fdbb6f299640a7f95bc7cf3cc8d1aaca9146a8dae188280a7461b131c"), looks := false }, kinds := [], alts := [], laidByText := true, laidKinds := [.listed, .data], laidTests := true, laidLooks := .later }
def FnExactHasLightCardSaid : Prop := Claim7.holds Tryz.pinned (.plain (OpenSpec.ofChange fnExactHasLightSpec)) fnExactHasLightCard

/-- THE TIED CARD OF 'laws.FnExactValidCorrection'. -/
def fnExactValidCorrectionCard : Claim7 := { stood := { row := fnExactValidCorrectionRow, standIns := [], harness := (true, "9bd1fa8fdbb6f299640a7f95bc7cf3cc8d1aaca9146a8dae188280a7461b131c"), looks := false }, kinds := [], alts := [], laidByText := true, laidKinds := [.listed, .data], laidTests := true, laidLooks := .later }
def FnExactValidCorrectionCardSaid : Prop := Claim7.holds Tryz.pinned (.plain (OpenSpec.ofChange fnExactValidCorrectionSpec)) fnExactValidCorrectionCard

/-- THE TIED CARD OF 'laws.FnExactValidAids'. -/
def fnExactValidAidsCard : Claim7 := { stood := { row := fnExactValidAidsRow, standIns := [], harness := (true, "9bd1fa8fdbb6f299640a7f95bc7cf3cc8d1aaca9146a8dae188280a7461b131c"), looks := false }, kinds := [], alts := [], laidByText := true, laidKinds := [.listed, .data], laidTests := true, laidLooks := .later }
def FnExactValidAidsCardSaid : Prop := Claim7.holds Tryz.pinned (.plain (OpenSpec.ofChange fnExactValidAidsSpec)) fnExactValidAidsCard

/-- THE TIED CARD OF 'laws.FnExactNearestAid'. -/
def fnExactNearestAidCard : Claim7 := { stood := { row := fnExactNearestAidRow, standIns := [], harness := (true, "9bd1fa8fdbb6f299640a7f95bc7cf3cc8d1aaca9146a8dae188280a7461b131c"), looks := false }, kinds := [], alts := [], laidByText := true, laidKinds := [.listed, .data], laidTests := true, laidLooks := .later }
def FnExactNearestAidCardSaid : Prop := Claim7.holds Tryz.pinned (.plain (OpenSpec.ofChange fnExactNearestAidSpec)) fnExactNearestAidCard

/-- THE TIED CARD OF 'laws.FnExactValidEdition'. -/
def fnExactValidEditionCard : Claim7 := { stood := { row := fnExactValidEditionRow, standIns := [], harness := (true, "9bd1fa8fdbb6f299640a7f95bc7cf3cc8d1aaca9146a8dae188280a7461b131c"), looks := false }, kinds := [], alts := [], laidByText := true, laidKinds := [.listed, .data], laidTests := true, laidLooks := .later }
def FnExactValidEditionCardSaid : Prop := Claim7.holds Tryz.pinned (.plain (OpenSpec.ofChange fnExactValidEditionSpec)) fnExactValidEditionCard

/-- THE TIED CARD OF 'laws.FnExactValidNotice'. -/
def fnExactValidNoticeCard : Claim7 := { stood := { row := fnExactValidNoticeRow, standIns := [], harness := (true, "9bd1fa8fdbb6f299640a7f95bc7cf3cc8d1aaca9146a8dae188280a7461b131c"), looks := false }, kinds := [], alts := [], laidByText := true, laidKinds := [.listed, .data], laidTests := true, laidLooks := .later }
def FnExactValidNoticeCardSaid : Prop := Claim7.holds Tryz.pinned (.plain (OpenSpec.ofChange fnExactValidNoticeSpec)) fnExactValidNoticeCard

/-- THE TIED CARD OF 'laws.FnExactColorToward'. -/
def fnExactColorTowardCard : Claim7 := { stood := { row := fnExactColorTowardRow, standIns := [], harness := (true, "9bd1fa8fdbb6f299640a7f95bc7cf3cc8d1aaca9146a8dae188280a7461b131c"), looks := false }, kinds := [], alts := [], laidByText := true, laidKinds := [.listed, .data], laidTests := true, laidLooks := .later }
def FnExactColorTowardCardSaid : Prop := Claim7.holds Tryz.pinned (.plain (OpenSpec.ofChange fnExactColorTowardSpec)) fnExactColorTowardCard

/-- THE TIED CARD OF 'laws.FnExactValidNotices'. -/
def fnExactValidNoticesCard : Claim7 := { stood := { row := fnExactValidNoticesRow, standIns := [], harness := (true, "9bd1fa8fdbb6f299640a7f95bc7cf3cc8d1aaca9146a8dae188280a7461b131c"), looks := false }, kinds := [], alts := [], laidByText := true, laidKinds := [.listed, .data], laidTests := true, laidLooks := .later }
def FnExactValidNoticesCardSaid : Prop := Claim7.holds Tryz.pinned (.plain (OpenSpec.ofChange fnExactValidNoticesSpec)) fnExactValidNoticesCard

/-- THE TIED CARD OF 'laws.FnExactReachOf'. -/
def fnExactReachOfCard : Claim7 := { stood := { row := fnExactReachOfRow, standIns := [], harness := (true, "9bd1fa8fdbb6f299640a7f95bc7cf3cc8d1aaca9146a8dae188280a7461b131c"), looks := false }, kinds := [], alts := [], laidByText := true, laidKinds := [.listed, .data], laidTests := true, laidLooks := .later }
def FnExactReachOfCardSaid : Prop := Claim7.holds Tryz.pinned (.plain (OpenSpec.ofChange fnExactReachOfSpec)) fnExactReachOfCard

/-- THE TIED CARD OF 'laws.FnExactMarksDanger'. -/
def fnExactMarksDangerCard : Claim7 := { stood := { row := fnExactMarksDangerRow, standIns := [], harness := (true, "9bd1fa8fdbb6f299640a7f95bc7cf3cc8d1aaca9146a8dae188280a7461b131c"), looks := false }, kinds := [], alts := [], laidByText := true, laidKinds := [.listed, .data], laidTests := true, laidLooks := .later }
def FnExactMarksDangerCardSaid : Prop := Claim7.holds Tryz.pinned (.plain (OpenSpec.ofChange fnExactMarksDangerSpec)) fnExactMarksDangerCard

/-- THE TIED CARD OF 'laws.FnExactNextNumber'. -/
def fnExactNextNumberCard : Claim7 := { stood := { row := fnExactNextNumberRow, standIns := [], harness := (true, "9bd1fa8fdbb6f299640a7f95bc7cf3cc8d1aaca9146a8dae188280a7461b131c"), looks := false }, kinds := [], alts := [], laidByText := true, laidKinds := [.listed, .data], laidTests := true, laidLooks := .later }
def FnExactNextNumberCardSaid : Prop := Claim7.holds Tryz.pinned (.plain (OpenSpec.ofChange fnExactNextNumberSpec)) fnExactNextNumberCard

/-- THE SECOND FORM's CARD OF 'laws.FnExactValidAid'. -/
def fnExactValidAidUptoCard : Claim7 := { stood := { row := fnExactValidAidUptoRow, standIns := [], harness := (true, "9bd1fa8fdbb6f299640a7f95bc7cf3cc8d1aaca9146a8dae188280a7461b131c"), looks := false }, kinds := [], alts := [], laidByText := true, laidKinds := [.listed, .data], laidTests := true, laidLooks := .later }
def FnExactValidAidUptoCardSaid : Prop := Claim7.holds Tryz.pinned (.plain (OpenSpec.upto fnExactValidAidSpec)) fnExactValidAidUptoCard

/-- THE SECOND FORM's CARD OF 'laws.FnExactHasLight'. -/
def fnExactHasLightUptoCard : Claim7 := { stood := { row := fnExactHasLightUptoRow, standIns := [], harness := (true, "9bd1fa8fdbb6f299640a7f95bc7cf3cc8d1aaca9146a8dae188280a7461b131c"), looks := false }, kinds := [], alts := [], laidByText := true, laidKinds := [.listed, .data], laidTests := true, laidLooks := .later }
def FnExactHasLightUptoCardSaid : Prop := Claim7.holds Tryz.pinned (.plain (OpenSpec.upto fnExactHasLightSpec)) fnExactHasLightUptoCard

/-- THE SECOND FORM's CARD OF 'laws.FnExactValidCorrection'. -/
def fnExactValidCorrectionUptoCard : Claim7 := { stood := { row := fnExactValidCorrectionUptoRow, standIns := [], harness := (true, "9bd1fa8fdbb6f299640a7f95bc7cf3cc8d1aaca9146a8dae188280a7461b131c"), looks := false }, kinds := [], alts := [], laidByText := true, laidKinds := [.listed, .data], laidTests := true, laidLooks := .later }
def FnExactValidCorrectionUptoCardSaid : Prop := Claim7.holds Tryz.pinned (.plain (OpenSpec.upto fnExactValidCorrectionSpec)) fnExactValidCorrectionUptoCard

/-- THE SECOND FORM's CARD OF 'laws.FnExactValidAids'. -/
def fnExactValidAidsUptoCard : Claim7 := { stood := { row := fnExactValidAidsUptoRow, standIns := [], harness := (true, "9bd1fa8fdbb6f299640a7f95bc7cf3cc8d1aaca9146a8dae188280a7461b131c"), looks := false }, kinds := [], alts := [], laidByText := true, laidKinds := [.listed, .data], laidTests := true, laidLooks := .later }
def FnExactValidAidsUptoCardSaid : Prop := Claim7.holds Tryz.pinned (.plain (OpenSpec.upto fnExactValidAidsSpec)) fnExactValidAidsUptoCard

/-- THE SECOND FORM's CARD OF 'laws.FnExactNearestAid'. -/
def fnExactNearestAidUptoCard : Claim7 := { stood := { row := fnExactNearestAidUptoRow, standIns := [], harness := (true, "9bd1fa8fdbb6f299640a7f95bc7cf3cc8d1aaca9146a8dae188280a7461b131c"), looks := false }, kinds := [], alts := [], laidByText := true, laidKinds := [.listed, .data], laidTests := true, laidLooks := .later }
def FnExactNearestAidUptoCardSaid : Prop := Claim7.holds Tryz.pinned (.plain (OpenSpec.upto fnExactNearestAidSpec)) fnExactNearestAidUptoCard

/-- THE SECOND FORM's CARD OF 'laws.FnExactValidEdition'. -/
def fnExactValidEditionUptoCard : Claim7 := { stood := { row := fnExactValidEditionUptoRow, standIns := [], harness := (true, "9bd1fa8fdbb6f299640a7f95bc7cf3cc8d1aaca9146a8dae188280a7461b131c"), looks := false }, kinds := [], alts := [], laidByText := true, laidKinds := [.listed, .data], laidTests := true, laidLooks := .later }
def FnExactValidEditionUptoCardSaid : Prop := Claim7.holds Tryz.pinned (.plain (OpenSpec.upto fnExactValidEditionSpec)) fnExactValidEditionUptoCard

/-- THE SECOND FORM's CARD OF 'laws.FnExactValidNotice'. -/
def fnExactValidNoticeUptoCard : Claim7 := { stood := { row := fnExactValidNoticeUptoRow, standIns := [], harness := (true, "9bd1fa8fdbb6f299640a7f95bc7cf3cc8d1aaca9146a8dae188280a7461b131c"), looks := false }, kinds := [], alts := [], laidByText := true, laidKinds := [.listed, .data], laidTests := true, laidLooks := .later }
def FnExactValidNoticeUptoCardSaid : Prop := Claim7.holds Tryz.pinned (.plain (OpenSpec.upto fnExactValidNoticeSpec)) fnExactValidNoticeUptoCard

/-- THE SECOND FORM's CARD OF 'laws.FnExactColorToward'. -/
def fnExactColorTowardUptoCard : Claim7 := { stood := { row := fnExactColorTowardUptoRow, standIns := [], harness := (true, "9bd1fa8fdbb6f299640a7f95bc7cf3cc8d1aaca9146a8dae188280a7461b131c"), looks := false }, kinds := [], alts := [], laidByText := true, laidKinds := [.listed, .data], laidTests := true, laidLooks := .later }
def FnExactColorTowardUptoCardSaid : Prop := Claim7.holds Tryz.pinned (.plain (OpenSpec.upto fnExactColorTowardSpec)) fnExactColorTowardUptoCard

/-- THE SECOND FORM's CARD OF 'laws.FnExactValidNotices'. -/
def fnExactValidNoticesUptoCard : Claim7 := { stood := { row := fnExactValidNoticesUptoRow, standIns := [], harness := (true, "9bd1fa8fdbb6f299640a7f95bc7cf3cc8d1aaca9146a8dae188280a7461b131c"), looks := false }, kinds := [], alts := [], laidByText := true, laidKinds := [.listed, .data], laidTests := true, laidLooks := .later }
def FnExactValidNoticesUptoCardSaid : Prop := Claim7.holds Tryz.pinned (.plain (OpenSpec.upto fnExactValidNoticesSpec)) fnExactValidNoticesUptoCard

/-- THE SECOND FORM's CARD OF 'laws.FnExactReachOf'. -/
def fnExactReachOfUptoCard : Claim7 := { stood := { row := fnExactReachOfUptoRow, standIns := [], harness := (true, "9bd1fa8fdbb6f299640a7f95bc7cf3cc8d1aaca9146a8dae188280a7461b131c"), looks := false }, kinds := [], alts := [], laidByText := true, laidKinds := [.listed, .data], laidTests := true, laidLooks := .later }
def FnExactReachOfUptoCardSaid : Prop := Claim7.holds Tryz.pinned (.plain (OpenSpec.upto fnExactReachOfSpec)) fnExactReachOfUptoCard

/-- THE SECOND FORM's CARD OF 'laws.FnExactMarksDanger'. -/
def fnExactMarksDangerUptoCard : Claim7 := { stood := { row := fnExactMarksDangerUptoRow, standIns := [], harness := (true, "9bd1fa8fdbb6f299640a7f95bc7cf3cc8d1aaca9146a8dae188280a7461b131c"), looks := false }, kinds := [], alts := [], laidByText := true, laidKinds := [.listed, .data], laidTests := true, laidLooks := .later }
def FnExactMarksDangerUptoCardSaid : Prop := Claim7.holds Tryz.pinned (.plain (OpenSpec.upto fnExactMarksDangerSpec)) fnExactMarksDangerUptoCard

/-- THE SECOND FORM's CARD OF 'laws.FnExactNextNumber'. -/
def fnExactNextNumberUptoCard : Claim7 := { stood := { row := fnExactNextNumberUptoRow, standIns := [], harness := (true, "9bd1fa8fdbb6f299640a7f95bc7cf3cc8d1aaca9146a8dae188280a7461b131c"), looks := false }, kinds := [], alts := [], laidByText := true, laidKinds := [.listed, .data], laidTests := true, laidLooks := .later }
def FnExactNextNumberUptoCardSaid : Prop := Claim7.holds Tryz.pinned (.plain (OpenSpec.upto fnExactNextNumberSpec)) fnExactNextNumberUptoCard
end Rows
end Go.Proofs.YtaooidgmphbegaaGreatDoor
