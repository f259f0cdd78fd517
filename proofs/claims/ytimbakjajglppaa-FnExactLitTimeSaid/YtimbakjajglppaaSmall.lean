/- Small functions that only compute. -/
import Derived.Test.YtimbakjajglppaaChecked
import Derived.Test.YtimbakjajglppaaBase
namespace Go.Proofs.Ytimbakjajglppaa
open Go.RowKit
def inB (n lo hi : Int) : Bool := decide (lo ≤ n) && decide (n ≤ hi)
theorem inB_iff {n lo hi : Int} : inB n lo hi = true ↔ lo ≤ n ∧ n ≤ hi := by simp [inB]
theorem inB_no {n lo hi : Int} : inB n lo hi = false ↔ ¬(lo ≤ n ∧ n ≤ hi) := by rw [← inB_iff]; simp
set_option maxHeartbeats 400000 in
theorem l00In_c (n lo hi : Int) (w : World) : Calls Try.prog 38 #[.int .i64 n, .int .i64 lo, .int .i64 hi] w fun e w' => e = .returned (.bool (inB n lo hi)) ∧ w = w' := by
  go_enter Try.func38, Try.ntmps38
  go_wp2
  all_goals
    go_ret
    exact ⟨ret_eq (bool_eq (by simp_all [inB] <;> omega)), rfl⟩
set_option maxHeartbeats 400000 in
theorem within_c (n lo hi : Int) (w : World) : Calls Try.prog 41 #[.int .i64 n, .int .i64 lo, .int .i64 hi] w fun e w' => e = .returned (.bool (inB n lo hi)) ∧ w = w' := by
  go_enter Try.func41, Try.ntmps41
  go_wp2
  all_goals
    go_ret
    exact ⟨ret_eq (bool_eq (by simp_all [inB] <;> omega)), rfl⟩
set_option maxHeartbeats 400000 in
theorem l20Time_c (n : Int) (w : World) : Calls Try.prog 39 #[.int .i64 n] w fun e w' => e = .returned (.bool (inB n 0 143999999)) ∧ w = w' := by
  go_enter Try.func39, Try.ntmps39
  go_wp2_with (go_at_call 38; refine (l00In_c _ _ _ _).mono ?_; rintro e w1 ⟨rfl, rfl⟩)
  go_ret
  exact ⟨rfl, rfl⟩
set_option maxHeartbeats 400000 in
theorem isTime_c (n : Int) (w : World) : Calls Try.prog 42 #[.int .i64 n] w fun e w' => e = .returned (.bool (inB n 0 143999999)) ∧ w = w' := by
  go_enter Try.func42, Try.ntmps42
  go_wp2_with (go_at_call 41; refine (within_c _ _ _ _).mono ?_; rintro e w1 ⟨rfl, rfl⟩)
  go_ret
  exact ⟨rfl, rfl⟩
set_option maxHeartbeats 400000 in
theorem few_c (n m : Int) (w : World) : Calls Try.prog 84 #[.int .i64 n, .int .i64 m] w fun e w' => e = .returned (.bool (decide (n ≤ m))) ∧ w = w' := by
  go_enter Try.func84, Try.ntmps84
  go_wp2
  go_ret
  exact ⟨rfl, rfl⟩
set_option maxHeartbeats 400000 in
theorem l01Small_c (n : Int) (w : World) : Calls Try.prog 81 #[.int .u8 n] w fun e w' => e = .returned (.bool (inB n 97 122)) ∧ w = w' := by
  go_enter Try.func81, Try.ntmps81
  go_wp2
  all_goals
    go_ret
    exact ⟨ret_eq (bool_eq (by simp_all [inB] <;> omega)), rfl⟩
set_option maxHeartbeats 400000 in
theorem l01Digit_c (n : Int) (w : World) : Calls Try.prog 82 #[.int .u8 n] w fun e w' => e = .returned (.bool (inB n 48 57)) ∧ w = w' := by
  go_enter Try.func82, Try.ntmps82
  go_wp2
  all_goals
    go_ret
    exact ⟨ret_eq (bool_eq (by simp_all [inB] <;> omega)), rfl⟩
set_option maxHeartbeats 400000 in
theorem isDigit_c (n : Int) (w : World) : Calls Try.prog 83 #[.int .u8 n] w fun e w' => e = .returned (.bool (inB n 48 57)) ∧ w = w' := by
  go_enter Try.func83, Try.ntmps83
  go_wp2
  all_goals
    go_ret
    exact ⟨ret_eq (bool_eq (by simp_all [inB] <;> omega)), rfl⟩
end Go.Proofs.Ytimbakjajglppaa
