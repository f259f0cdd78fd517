/- MatchFrom, both sides. -/
import Derived.Test.YtejndpoebohhaaaChMat2
namespace Go.Proofs.Ytejndpoebohhaaa
open Go.RowKit
def matchV (x : Ch) (o : List Ph) (start tol : Int) : Bool := validB x && (obsB o && (inB tol 0 100 && fromB x o start tol))
end Go.Proofs.Ytejndpoebohhaaa
