
/- Characters: how many flashes. -/
import Derived.Test.YtgibbhipjpbdfaaChPh
namespace Go.Proofs.Ytgibbhipjpbdfaa
open Go.RowKit
def cntI (x : Ch) : Int := if x.k = 1 then 0 else if x.k = 3 then 1 else ((timesL x).length + 1) / 2
end Go.Proofs.Ytgibbhipjpbdfaa
