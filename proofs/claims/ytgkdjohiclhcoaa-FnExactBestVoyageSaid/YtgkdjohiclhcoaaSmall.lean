/- Small functions that only compute. -/
import Derived.Test.YtgkdjohiclhcoaaChecked
import Derived.Test.YtgkdjohiclhcoaaBase
namespace Go.Proofs.Ytgkdjohiclhcoaa
open Go.RowKit
def inB (n lo hi : Int) : Bool := decide (lo ≤ n) && decide (n ≤ hi)
theorem inB_iff {n lo hi : Int} : inB n lo hi = true ↔ lo ≤ n ∧ n ≤ hi := by simp [inB]
theorem inB_no {n lo hi : Int} : inB n lo hi = false ↔ ¬(lo ≤ n ∧ n ≤ hi) := by rw [← inB_iff]; simp
set_option maxHeartbeats 400000 in
theorem l00In_c (n lo hi : Int) (w : World) : Calls Try.prog 42 #[.int .i64 n, .int .i64 lo, .int .i64 hi] w fun e w' => e = .returned (.bool (inB n lo hi)) ∧ w = w' := by
  go_enter Try.func42, Try.ntmps42
  go_wp2
  all_goals
    go_ret
    exact ⟨ret_eq (bool_eq (by simp_all [inB] <;> omega)), rfl⟩
set_option maxHeartbeats 400000 in
theorem within_c (n lo hi : Int) (w : World) : Calls Try.prog 55 #[.int .i64 n, .int .i64 lo, .int .i64 hi] w fun e w' => e = .returned (.bool (inB n lo hi)) ∧ w = w' := by
  go_enter Try.func55, Try.ntmps55
  go_wp2
  all_goals
    go_ret
    exact ⟨ret_eq (bool_eq (by simp_all [inB] <;> omega)), rfl⟩
set_option maxHeartbeats 400000 in
theorem few_c (n m : Int) (w : World) : Calls Try.prog 92 #[.int .i64 n, .int .i64 m] w fun e w' => e = .returned (.bool (decide (n ≤ m))) ∧ w = w' := by
  go_enter Try.func92, Try.ntmps92
  go_wp2
  go_ret
  exact ⟨rfl, rfl⟩
set_option maxHeartbeats 400000 in
theorem l01Small_c (n : Int) (w : World) : Calls Try.prog 84 #[.int .u8 n] w fun e w' => e = .returned (.bool (inB n 97 122)) ∧ w = w' := by
  go_enter Try.func84, Try.ntmps84
  go_wp2
  all_goals
    go_ret
    exact ⟨ret_eq (bool_eq (by simp_all [inB] <;> omega)), rfl⟩
set_option maxHeartbeats 400000 in
theorem l01Digit_c (n : Int) (w : World) : Calls Try.prog 85 #[.int .u8 n] w fun e w' => e = .returned (.bool (inB n 48 57)) ∧ w = w' := by
  go_enter Try.func85, Try.ntmps85
  go_wp2
  all_goals
    go_ret
    exact ⟨ret_eq (bool_eq (by simp_all [inB] <;> omega)), rfl⟩
set_option maxHeartbeats 400000 in
theorem isDigit_c (n : Int) (w : World) : Calls Try.prog 101 #[.int .u8 n] w fun e w' => e = .returned (.bool (inB n 48 57)) ∧ w = w' := by
  go_enter Try.func101, Try.ntmps101
  go_wp2
  all_goals
    go_ret
    exact ⟨ret_eq (bool_eq (by simp_all [inB] <;> omega)), rfl⟩
end Go.Proofs.Ytgkdjohiclhcoaa
