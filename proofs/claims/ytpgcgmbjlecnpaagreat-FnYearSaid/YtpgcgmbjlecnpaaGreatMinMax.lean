/- The reference's least and greatest of two numbers. -/
import Derived.Test.YtpgcgmbjlecnpaaGreatChecked
import Derived.Test.YtpgcgmbjlecnpaaGreatBase
namespace Go.Proofs.YtpgcgmbjlecnpaaGreat
open Go.RowKit
set_option maxHeartbeats 400000 in
theorem l00Min_c (a b : Int) (w : World) : Calls Tryz.prog 71 #[.int .i64 a, .int .i64 b] w fun e w' => e = .returned (.int .i64 (min a b)) ∧ w = w' := by
  go_enter Tryz.func71, Tryz.ntmps71
  go_wp2
  all_goals
    go_ret
    exact ⟨ret_eq (int_eq (by omega)), rfl⟩
set_option maxHeartbeats 400000 in
theorem l00Max_c (a b : Int) (w : World) : Calls Tryz.prog 42 #[.int .i64 a, .int .i64 b] w fun e w' => e = .returned (.int .i64 (max a b)) ∧ w = w' := by
  go_enter Tryz.func42, Tryz.ntmps42
  go_wp2
  all_goals
    go_ret
    exact ⟨ret_eq (int_eq (by omega)), rfl⟩
end Go.Proofs.YtpgcgmbjlecnpaaGreat
