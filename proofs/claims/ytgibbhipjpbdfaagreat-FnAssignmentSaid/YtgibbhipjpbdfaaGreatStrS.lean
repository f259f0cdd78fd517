
/- The laws' own functions over []string. -/
import Derived.Test.YtgibbhipjpbdfaaGreatMark
namespace Go.Proofs.YtgibbhipjpbdfaaGreat
open Go.RowKit
theorem strInfo : (Tryz.prog.info? 9).map (fun i => (i.zero, i.size, i.bytes)) = some (some (.string ByteArray.empty), 1, 16) := by kernel_rfl
def markStrs (k n : Nat) : List ByteArray := (List.range n).map fun i => markT (k + i)
theorem markStrs_next (k n : Nat) : markStrs k (n + 1) = markStrs k n ++ [markT (k + n)] := by simp [markStrs, List.range_succ]
end Go.Proofs.YtgibbhipjpbdfaaGreat
