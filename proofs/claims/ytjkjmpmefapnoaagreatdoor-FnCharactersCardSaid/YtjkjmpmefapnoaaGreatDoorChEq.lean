
/- The laws' eqCharacter, at equal values. -/
import Derived.Test.YtjkjmpmefapnoaaGreatDoorChLaw
namespace Go.Proofs.YtjkjmpmefapnoaaGreatDoor
open Go.RowKit
end Go.Proofs.YtjkjmpmefapnoaaGreatDoor
