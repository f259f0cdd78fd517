
/- The laws' own functions over []int64. -/
import Derived.Test.YtgibbhipjpbdfaaGreatChecked
import Derived.Test.YtgibbhipjpbdfaaGreatApp
namespace Go.Proofs.YtgibbhipjpbdfaaGreat
open Go.RowKit
theorem intInfo : (Tryz.prog.info? 2).map (fun i => (i.zero, i.size, i.bytes)) = some (some (.int .i64 0), 1, 8) := by kernel_rfl
end Go.Proofs.YtgibbhipjpbdfaaGreat
