/- The reference's least and greatest of two numbers. -/
import Derived.Test.YtgfplmfdgbklkaaChecked
import Derived.Test.YtgfplmfdgbklkaaBase
namespace Go.Proofs.Ytgfplmfdgbklkaa
open Go.RowKit
set_option maxHeartbeats 400000 in
theorem l00Min_c (a b : Int) (w : World) : Calls Try.prog 125 #[.int .i64 a, .int .i64 b] w fun e w' => e = .returned (.int .i64 (min a b)) ∧ w = w' := by
  go_enter Try.func125, Try.ntmps125
  go_wp2
  all_goals
    go_ret
    exact ⟨ret_eq (int_eq (by omega)), rfl⟩
set_option maxHeartbeats 400000 in
theorem l00Max_c (a b : Int) (w : World) : Calls Try.prog 109 #[.int .i64 a, .int .i64 b] w fun e w' => e = .returned (.int .i64 (max a b)) ∧ w = w' := by
  go_enter Try.func109, Try.ntmps109
  go_wp2
  all_goals
    go_ret
    exact ⟨ret_eq (int_eq (by omega)), rfl⟩
end Go.Proofs.Ytgfplmfdgbklkaa
