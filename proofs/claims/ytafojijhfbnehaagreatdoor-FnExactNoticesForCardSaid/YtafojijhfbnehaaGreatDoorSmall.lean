/- Small functions that only compute. -/
import Derived.Test.YtafojijhfbnehaaGreatDoorChecked
import Derived.Test.YtafojijhfbnehaaGreatDoorBase
namespace Go.Proofs.YtafojijhfbnehaaGreatDoor
open Go.RowKit
def inB (n lo hi : Int) : Bool := decide (lo ≤ n) && decide (n ≤ hi)
theorem inB_iff {n lo hi : Int} : inB n lo hi = true ↔ lo ≤ n ∧ n ≤ hi := by simp [inB]
theorem inB_no {n lo hi : Int} : inB n lo hi = false ↔ ¬(lo ≤ n ∧ n ≤ hi) := by rw [← inB_iff]; simp
set_option maxHeartbeats 400000 in
theorem l00In_c (n lo hi : Int) (w : World) : Calls Tryz.prog 106 #[.int .i64 n, .int .i64 lo, .int .i64 hi] w fun e w' => e = .returned (.bool (inB n lo hi)) ∧ w = w' := by
  go_enter Tryz.func106, Tryz.ntmps106
  go_wp2
  all_goals
    go_ret
    exact ⟨ret_eq (bool_eq (by simp_all [inB] <;> omega)), rfl⟩
set_option maxHeartbeats 400000 in
theorem within_c (n lo hi : Int) (w : World) : Calls Tryz.prog 66 #[.int .i64 n, .int .i64 lo, .int .i64 hi] w fun e w' => e = .returned (.bool (inB n lo hi)) ∧ w = w' := by
  go_enter Tryz.func66, Tryz.ntmps66
  go_wp2
  all_goals
    go_ret
    exact ⟨ret_eq (bool_eq (by simp_all [inB] <;> omega)), rfl⟩
set_option maxHeartbeats 400000 in
theorem few_c (n m : Int) (w : World) : Calls Tryz.prog 60 #[.int .i64 n, .int .i64 m] w fun e w' => e = .returned (.bool (decide (n ≤ m))) ∧ w = w' := by
  go_enter Tryz.func60, Tryz.ntmps60
  go_wp2
  go_ret
  exact ⟨rfl, rfl⟩
set_option maxHeartbeats 400000 in
theorem l01Small_c (n : Int) (w : World) : Calls Tryz.prog 158 #[.int .u8 n] w fun e w' => e = .returned (.bool (inB n 97 122)) ∧ w = w' := by
  go_enter Tryz.func158, Tryz.ntmps158
  go_wp2
  all_goals
    go_ret
    exact ⟨ret_eq (bool_eq (by simp_all [inB] <;> omega)), rfl⟩
set_option maxHeartbeats 400000 in
theorem l01Digit_c (n : Int) (w : World) : Calls Tryz.prog 159 #[.int .u8 n] w fun e w' => e = .returned (.bool (inB n 48 57)) ∧ w = w' := by
  go_enter Tryz.func159, Tryz.ntmps159
  go_wp2
  all_goals
    go_ret
    exact ⟨ret_eq (bool_eq (by simp_all [inB] <;> omega)), rfl⟩
set_option maxHeartbeats 400000 in
theorem isDigit_c (n : Int) (w : World) : Calls Tryz.prog 145 #[.int .u8 n] w fun e w' => e = .returned (.bool (inB n 48 57)) ∧ w = w' := by
  go_enter Tryz.func145, Tryz.ntmps145
  go_wp2
  all_goals
    go_ret
    exact ⟨ret_eq (bool_eq (by simp_all [inB] <;> omega)), rfl⟩
end Go.Proofs.YtafojijhfbnehaaGreatDoor
