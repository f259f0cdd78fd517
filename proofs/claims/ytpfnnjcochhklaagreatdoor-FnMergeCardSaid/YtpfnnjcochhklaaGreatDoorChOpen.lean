
/- What the reader gives of a Character argument. -/
import Derived.Test.YtpfnnjcochhklaaGreatDoorApG
import Derived.Test.YtpfnnjcochhklaaGreatDoorOpG
namespace Go.Proofs.YtpfnnjcochhklaaGreatDoor
open Go.ChangeShapes Go.WideShapes Go.ChangeAt Go.RowKit Go.Deep
end Go.Proofs.YtpfnnjcochhklaaGreatDoor
