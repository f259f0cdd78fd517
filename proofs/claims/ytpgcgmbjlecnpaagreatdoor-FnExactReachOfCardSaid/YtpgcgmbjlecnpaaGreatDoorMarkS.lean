/- Marks: the reference. -/
import Derived.Test.YtpgcgmbjlecnpaaGreatDoorAid
import Derived.Test.YtpgcgmbjlecnpaaGreatDoorStrS
namespace Go.Proofs.YtpgcgmbjlecnpaaGreatDoor
open Go.RowKit
theorem markHeld : Tryz.prog.stoodInHeld 41 = false := by kernel_rfl
theorem markGuard : Tryz.prog.eqGuardType Tryz.prog.depth 41 = false := by kernel_rfl
theorem eql_mark0 (m : Mk) (w : World) : (binOp .eql 41 m.val (.agg #[.int .i64 0, .string ⟨#[]⟩, .string ⟨#[]⟩, .string ⟨#[]⟩])).run Tryz.prog w = .ok (.bool (mkZeroB m)) w := by
  obtain ⟨k, a, b, c⟩ := m
  rw [run_eql_struct]
  have := markHeld
  simp only [mkZeroB, isE]
  go_simp
  by_cases h1 : k = 0 <;> cases a.toList <;> cases b.toList <;> cases c.toList <;> simp [h1]
theorem kind9 {k : Int} (h : inB k 1 9 = true) : k = 1 ∨ k = 2 ∨ k = 3 ∨ k = 4 ∨ k = 5 ∨ k = 6 ∨ k = 7 ∨ k = 8 ∨ k = 9 := by have := inB_iff.1 h; omega
theorem mkShp_len {k : Int} (h : inB k 1 9 = true) : (mkShp k).length ≤ 5 := by rcases kind9 h with rfl | rfl | rfl | rfl | rfl | rfl | rfl | rfl | rfl <;> decide
set_option maxHeartbeats 400000 in
theorem l11Kind_c (n : Int) (w : World) : Calls Tryz.prog 126 #[.int .i64 n] w fun e w' => e = .returned (.bool (inB n 1 9)) ∧ w = w' := by
  go_enter Tryz.func126, Tryz.ntmps126
  go_wp2_with (go_at_call 26; refine (l00In_c _ _ _ _).mono ?_; rintro e w1 ⟨rfl, rfl⟩)
  go_ret
  exact ⟨rfl, rfl⟩
set_option maxRecDepth 100000 in
set_option maxHeartbeats 1000000 in
theorem l11Colors_c (k : Int) (w : World) (h : inB k 1 9 = true) : Calls Tryz.prog 127 #[.int .i64 k] w fun e w' => e = .returned (.string (mkCol k)) ∧ Below w.heap.size w w' := by
  rcases kind9 h with rfl | rfl | rfl | rfl | rfl | rfl | rfl | rfl | rfl
  all_goals
    clear h
    go_enter Tryz.func127, Tryz.ntmps127
    go_wp2
    go_ret
    exact ⟨rfl, by (repeat (first | (with_reducible assumption) | (with_reducible exact Below.refl _ _) | exact Nat.le_refl _ | exact Below.size (by with_reducible assumption) | (with_reducible refine Below.drew ?_) | (with_reducible refine below_drewN ?_ _) | (with_reducible refine Below.alloc ?_ ?_ _) | (with_reducible refine Below.setCell ?_ ?_ _) | (with_reducible refine le_alloc ?_ _) | (with_reducible refine le_set ?_ _ _) | (with_reducible refine le_drew ?_) | (with_reducible refine le_drewN ?_ _) | omega | (dsimp only; omega)))⟩
set_option maxRecDepth 100000 in
set_option maxHeartbeats 1000000 in
theorem l11Topmark_c (k : Int) (w : World) (h : inB k 1 9 = true) : Calls Tryz.prog 128 #[.int .i64 k] w fun e w' => e = .returned (.string (mkTop k)) ∧ Below w.heap.size w w' := by
  rcases kind9 h with rfl | rfl | rfl | rfl | rfl | rfl | rfl | rfl | rfl
  all_goals
    clear h
    go_enter Tryz.func128, Tryz.ntmps128
    go_wp2
    go_ret
    exact ⟨rfl, by (repeat (first | (with_reducible assumption) | (with_reducible exact Below.refl _ _) | exact Nat.le_refl _ | exact Below.size (by with_reducible assumption) | (with_reducible refine Below.drew ?_) | (with_reducible refine below_drewN ?_ _) | (with_reducible refine Below.alloc ?_ ?_ _) | (with_reducible refine Below.setCell ?_ ?_ _) | (with_reducible refine le_alloc ?_ _) | (with_reducible refine le_set ?_ _ _) | (with_reducible refine le_drew ?_) | (with_reducible refine le_drewN ?_ _) | omega | (dsimp only; omega)))⟩
set_option maxRecDepth 100000 in
set_option maxHeartbeats 1000000 in
theorem l11Shapes_c (k : Int) (w : World) (h : inB k 1 9 = true) : Calls Tryz.prog 129 #[.int .i64 k] w fun e w' => ∃ A n c, e = .returned (.slice A n c) ∧ n = (mkShp k).length ∧ Sl w' w'.heap.size 1 A n ((mkShp k).flatMap strC) ∧ Below w.heap.size w w' := by
  rcases kind9 h with rfl | rfl | rfl | rfl | rfl | rfl | rfl | rfl | rfl
  all_goals
    clear h
    go_enter Tryz.func129, Tryz.ntmps129
    go_wp2
    go_ret
    exact ⟨_, _, _, rfl, rfl, (Sl.new w 9 _ _ 1 rfl).more (by simp), by (repeat (first | (with_reducible assumption) | (with_reducible exact Below.refl _ _) | exact Nat.le_refl _ | exact Below.size (by with_reducible assumption) | (with_reducible refine Below.drew ?_) | (with_reducible refine below_drewN ?_ _) | (with_reducible refine Below.alloc ?_ ?_ _) | (with_reducible refine Below.setCell ?_ ?_ _) | (with_reducible refine le_alloc ?_ _) | (with_reducible refine le_set ?_ _ _) | (with_reducible refine le_drew ?_) | (with_reducible refine le_drewN ?_ _) | omega | (dsimp only; omega)))⟩
end Go.Proofs.YtpgcgmbjlecnpaaGreatDoor
