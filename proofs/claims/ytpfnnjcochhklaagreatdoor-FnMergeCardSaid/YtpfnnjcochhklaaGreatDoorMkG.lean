/- MkG: several of my texts in one. -/
import Derived.Test.YtpfnnjcochhklaaGreatDoorChecked
import Derived.Test.YtpfnnjcochhklaaGreatDoorBsG

/- The laws' marks: markText. -/
namespace Go.Proofs.YtpfnnjcochhklaaGreatDoor
open Go.RowKit
end Go.Proofs.YtpfnnjcochhklaaGreatDoor

/- The laws' own functions over []string. -/
namespace Go.Proofs.YtpfnnjcochhklaaGreatDoor
open Go.RowKit
theorem strInfo : (Tryz.prog.info? 9).map (fun i => (i.zero, i.size, i.bytes)) = some (some (.string ByteArray.empty), 1, 16) := by kernel_rfl
end Go.Proofs.YtpfnnjcochhklaaGreatDoor
