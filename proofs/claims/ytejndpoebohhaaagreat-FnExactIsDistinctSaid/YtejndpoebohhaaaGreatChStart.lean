/- MatchStart and ErrorFrom, both sides. -/
import Derived.Test.YtejndpoebohhaaaGreatChTight
import Derived.Test.YtejndpoebohhaaaGreatChMat3
namespace Go.Proofs.YtejndpoebohhaaaGreat
open Go.RowKit
def okCO (x : Ch) (o : List Ph) : Bool := validB x && obsB o
def startV (x : Ch) (o : List Ph) (tol : Int) : Int := bif okCO x o && (inB tol 0 100 && decide (0 ≤ firstI (startsL x o tol))) then firstI (startsL x o tol) else 0
def startK (x : Ch) (o : List Ph) (tol : Int) : Int := bif okCO x o then (bif inB tol 0 100 then (bif decide (0 ≤ firstI (startsL x o tol)) then 0 else 3) else 2) else 1
def errV (x : Ch) (o : List Ph) (start : Int) : Int := bif okCO x o && fromB x o start 2400 then errI x o start else 0
def errK (x : Ch) (o : List Ph) (start : Int) : Int := bif okCO x o then (bif fromB x o start 2400 then 0 else 3) else 1
theorem firstI_bd (xs : List Nat) : -1 ≤ firstI xs := by unfold firstI; split <;> omega
end Go.Proofs.YtejndpoebohhaaaGreat
