/- The reference's least and greatest of two numbers. -/
import Derived.Test.YtgkdjohiclhcoaaChecked
import Derived.Test.YtgkdjohiclhcoaaBase
namespace Go.Proofs.Ytgkdjohiclhcoaa
open Go.RowKit
set_option maxHeartbeats 400000 in
theorem l00Max_c (a b : Int) (w : World) : Calls Try.prog 67 #[.int .i64 a, .int .i64 b] w fun e w' => e = .returned (.int .i64 (max a b)) ∧ w = w' := by
  go_enter Try.func67, Try.ntmps67
  go_wp2
  all_goals
    go_ret
    exact ⟨ret_eq (int_eq (by omega)), rfl⟩
end Go.Proofs.Ytgkdjohiclhcoaa
