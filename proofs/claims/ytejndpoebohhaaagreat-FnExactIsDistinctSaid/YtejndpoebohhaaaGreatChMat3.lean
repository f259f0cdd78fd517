/- MatchFrom, both sides. -/
import Derived.Test.YtejndpoebohhaaaGreatChMat2
namespace Go.Proofs.YtejndpoebohhaaaGreat
open Go.RowKit
def matchV (x : Ch) (o : List Ph) (start tol : Int) : Bool := validB x && (obsB o && (inB tol 0 100 && fromB x o start tol))
end Go.Proofs.YtejndpoebohhaaaGreat
