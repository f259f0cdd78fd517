/- Small functions of the laws that choose numbers from bytes. -/
import Derived.Test.YtgkdjohiclhcoaaSrc
namespace Go.Proofs.Ytgkdjohiclhcoaa
open Go.RowKit
set_option maxRecDepth 100000 in
set_option maxHeartbeats 400000 in
theorem r8Long_c (A A' : Option Addr) (n c n' c' : Nat) (w : World) : Calls Try.prog 18 #[.slice A n c, .slice A' n' c'] w fun e w' => e = .returned (.bool (decide (1048576 < n) || decide (1048576 < n'))) ∧ w = w' := by
  by_cases h1 : 1048576 < n
  · have h1' : (1048576 : Int) < (n : Int) := by omega
    go_enter Try.func18, Try.ntmps18
    go_wp2
    go_ret
    exact ⟨ret_eq (bool_eq (by rw [decide_eq_true h1]; rfl)), rfl⟩
  · have h1' : ¬ (1048576 : Int) < (n : Int) := by omega
    by_cases h2 : 1048576 < n'
    · have h2' : (1048576 : Int) < (n' : Int) := by omega
      go_enter Try.func18, Try.ntmps18
      go_wp2
      go_ret
      exact ⟨ret_eq (bool_eq (by first | (rw [decide_eq_true h2, decide_eq_false h1]; rfl) | rfl | (simp; omega))), rfl⟩
    · have h2' : ¬ (1048576 : Int) < (n' : Int) := by omega
      go_enter Try.func18, Try.ntmps18
      go_wp2
      go_ret
      exact ⟨ret_eq (bool_eq (by first | (rw [decide_eq_false h2, decide_eq_false h1]; rfl) | rfl | (simp; omega))), rfl⟩
theorem mod_le {x m : Int} (hx : 0 ≤ x) (hm : 0 < m) : x % m ≤ x := by
  have h1 := Int.emod_add_mul_ediv x m
  have h2 := Int.ediv_nonneg hx (Int.le_of_lt hm)
  have h3 := Int.mul_nonneg (Int.le_of_lt hm) h2
  omega
def AtAns (m : Int) (w : World) (e : Ending) (w' : World) : Prop := ∃ r : Int, e = .returned (.int .i64 r) ∧ 0 ≤ r ∧ (r < m ∨ r = 0) ∧ r ≤ 255 ∧ w = w'
end Go.Proofs.Ytgkdjohiclhcoaa
