
/- Small functions that only compute. -/
import Derived.Test.YtgibbhipjpbdfaaChecked
import Derived.Test.YtgibbhipjpbdfaaBase
namespace Go.Proofs.Ytgibbhipjpbdfaa
open Go.RowKit
def inB (n lo hi : Int) : Bool := decide (lo ≤ n) && decide (n ≤ hi)
theorem inB_iff {n lo hi : Int} : inB n lo hi = true ↔ lo ≤ n ∧ n ≤ hi := by simp [inB]
theorem inB_no {n lo hi : Int} : inB n lo hi = false ↔ ¬(lo ≤ n ∧ n ≤ hi) := by rw [← inB_iff]; simp
set_option maxHeartbeats 400000 in
theorem l00In_c (n lo hi : Int) (w : World) : Calls Try.prog 61 #[.int .i64 n, .int .i64 lo, .int .i64 hi] w fun e w' => e = .returned (.bool (inB n lo hi)) ∧ w = w' := by
  go_enter Try.func61, Try.ntmps61
  go_wp2
  all_goals
    go_ret
    exact ⟨ret_eq (bool_eq (by simp_all [inB] <;> omega)), rfl⟩
set_option maxHeartbeats 400000 in
theorem within_c (n lo hi : Int) (w : World) : Calls Try.prog 67 #[.int .i64 n, .int .i64 lo, .int .i64 hi] w fun e w' => e = .returned (.bool (inB n lo hi)) ∧ w = w' := by
  go_enter Try.func67, Try.ntmps67
  go_wp2
  all_goals
    go_ret
    exact ⟨ret_eq (bool_eq (by simp_all [inB] <;> omega)), rfl⟩
set_option maxHeartbeats 400000 in
theorem few_c (n m : Int) (w : World) : Calls Try.prog 58 #[.int .i64 n, .int .i64 m] w fun e w' => e = .returned (.bool (decide (n ≤ m))) ∧ w = w' := by
  go_enter Try.func58, Try.ntmps58
  go_wp2
  go_ret
  exact ⟨rfl, rfl⟩
end Go.Proofs.Ytgibbhipjpbdfaa
