/- Whether an observation can begin at a phase: the program's; MatchFrom, both sides. -/
import Derived.Test.YtejndpoebohhaaaGreatChMat
namespace Go.Proofs.YtejndpoebohhaaaGreat
open Go.RowKit
set_option maxHeartbeats 400000 in
theorem distance_c (a b : Int) (w : World) (h1 : -1000000000000 ≤ a) (h2 : a ≤ 1000000000000) (h3 : -1000000000000 ≤ b) (h4 : b ≤ 1000000000000) :
    Calls Tryz.prog 143 #[.int .i64 a, .int .i64 b] w fun e w' => e = .returned (.int .i64 (max (a - b) (b - a))) ∧ w = w' := by
  go_enter Tryz.func143, Tryz.ntmps143
  go_wp2
  all_goals
    go_ret
    exact ⟨ret_eq (int_eq (by omega)), rfl⟩
theorem allB_congr {n : Nat} {p q : Nat → Bool} (h : ∀ i, i < n → p i = q i) : allB n p = allB n q := by
  rw [Bool.eq_iff_iff, allB_iff, allB_iff]
  exact ⟨fun h1 i hi => by rw [← h i hi]; exact h1 i hi, fun h1 i hi => by rw [h i hi]; exact h1 i hi⟩
end Go.Proofs.YtejndpoebohhaaaGreat
