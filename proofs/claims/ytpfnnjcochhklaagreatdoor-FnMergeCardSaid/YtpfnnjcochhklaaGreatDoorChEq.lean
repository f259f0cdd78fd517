
/- The laws' eqCharacter, at equal values. -/
import Derived.Test.YtpfnnjcochhklaaGreatDoorApG
namespace Go.Proofs.YtpfnnjcochhklaaGreatDoor
open Go.RowKit
end Go.Proofs.YtpfnnjcochhklaaGreatDoor
