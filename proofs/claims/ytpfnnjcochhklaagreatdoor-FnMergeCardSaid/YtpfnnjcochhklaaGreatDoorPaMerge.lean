
/- The tied card of FnMerge: the closed facts. -/
import Derived.Test.YtpfnnjcochhklaaGreatDoorRows
import Derived.Test.YtpfnnjcochhklaaGreatDoorTie
import Derived.Test.YtpfnnjcochhklaaGreatDoorCards
import Derived.Test.YtpfnnjcochhklaaGreatDoorAidOpen
import Derived.SevenTiedAt
namespace Go.Proofs.YtpfnnjcochhklaaGreatDoor.prMerge
open Go.ChangeShapes Go.WideShapes Go.ChangeAt Go.RowKit Go.Deep
theorem own : ownKnob Tryz.prog.godebug = none := by kernel_rfl
theorem laidOut : laidOutB Tryz.prog = true := by kernel_rfl
theorem door_met (os : Os) (args : Array Value) : laidMetH Tryz.prog [("unicode.White_Space", Rows.laid_unicode_White_Space), ("strings.asciiSpace", Rows.laid_strings_asciiSpace)] ((World.doorLaid Tryz.prog 33 os).forCall (fun _ _ => 0) ⟨#[], args, []⟩).memory :=
  laidMetH_of_parts3 (fuel := 8) (laidMet_of_run' 8 (by kernel_rfl) (by kernel_rfl)) (by kernel_rfl) (by kernel_rfl)
set_option maxHeartbeats 20000000 in
theorem closed : joinedFacts Tryz.pinned.checked.prog 3 Tryz.f3 Rows.fnMergeSpec Rows.fnMergeRow = true := by
  unfold joinedFacts
  repeat' (with_reducible refine andT ?_ ?_)
  all_goals (as_aux_lemma => kernel_rfl)
end Go.Proofs.YtpfnnjcochhklaaGreatDoor.prMerge
