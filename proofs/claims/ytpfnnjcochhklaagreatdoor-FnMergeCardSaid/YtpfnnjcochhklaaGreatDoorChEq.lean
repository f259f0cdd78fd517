
/- The laws' eqCharacter, at equal values. -/
import Derived.Test.YtpfnnjcochhklaaGreatDoorApG
namespace Go.Proofs.YtpfnnjcochhklaaGreatDoor
open Go.RowKit
set_option maxRecDepth 100000 in
set_option maxHeartbeats 400000 in
theorem eqCharacter_c (k : Int) (A A' : Option Addr) (n c c' : Nat) (l cs : ByteArray) (p : Int) (gs : List Int) (w : World) (h : Sl w w.heap.size 1 A n (gs.flatMap intC)) (h' : Sl w w.heap.size 1 A' n (gs.flatMap intC)) (hm : n ≤ 1048576) :
    Calls Tryz.prog 64 #[chV k A n c l cs p, chV k A' n c' l cs p] w fun e w' => e = .returned (.bool true) ∧ Below w.heap.size w w' := by
  have ne : ∀ u : ByteArray, (u.toList != u.toList) = false := fun u => by simp
  have hb0 : Below w.heap.size w ((w.alloc (.cells #[.int .i64 k, .slice A n c, .string l, .string cs, .int .i64 p] 53)).alloc (.cells #[.int .i64 k, .slice A' n c', .string l, .string cs, .int .i64 p] 53)) := by (repeat (first | (with_reducible assumption) | (with_reducible exact Below.refl _ _) | exact Nat.le_refl _ | exact Below.size (by with_reducible assumption) | (with_reducible refine Below.drew ?_) | (with_reducible refine below_drewN ?_ _) | (with_reducible refine Below.alloc ?_ ?_ _) | (with_reducible refine Below.setCell ?_ ?_ _) | (with_reducible refine le_alloc ?_ _) | (with_reducible refine le_set ?_ _ _) | (with_reducible refine le_drew ?_) | (with_reducible refine le_drewN ?_ _) | omega | (dsimp only; omega)))
  go_enter Tryz.func64, Tryz.ntmps64
  go_wp2_with (go_at_call 16; refine (eqInt64S_c A A' n c c' gs _ (h.next hb0) (h'.next hb0) (by unfold maxLen; omega)).mono ?_; rintro e w1 ⟨rfl, hb1⟩; have q1 := keepC hb1 w.heap.size (by simp only [World.size_alloc]; omega); have q2 := keepC hb1 (w.heap.size + 1) (by simp only [World.size_alloc]; omega))
  go_ret
  exact ⟨rfl, hb0.trans (hb1.mono (by simp only [World.size_alloc]; omega))⟩
end Go.Proofs.YtpfnnjcochhklaaGreatDoor
