
/- The reference's least and greatest of two numbers. -/
import Derived.Test.YtgibbhipjpbdfaaChecked
import Derived.Test.YtgibbhipjpbdfaaBase
namespace Go.Proofs.Ytgibbhipjpbdfaa
open Go.RowKit
set_option maxHeartbeats 400000 in
theorem l00Min_c (a b : Int) (w : World) : Calls Try.prog 103 #[.int .i64 a, .int .i64 b] w fun e w' => e = .returned (.int .i64 (min a b)) ∧ w = w' := by
  go_enter Try.func103, Try.ntmps103
  go_wp2
  all_goals
    go_ret
    exact ⟨ret_eq (int_eq (by omega)), rfl⟩
end Go.Proofs.Ytgibbhipjpbdfaa
