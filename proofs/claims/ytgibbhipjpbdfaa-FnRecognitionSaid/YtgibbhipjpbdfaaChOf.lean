
/- PhasesOf, both sides. -/
import Derived.Test.YtgibbhipjpbdfaaCol
import Derived.Test.YtgibbhipjpbdfaaChPhI
namespace Go.Proofs.Ytgibbhipjpbdfaa
open Go.RowKit
def phOf (x : Ch) (co : ByteArray) : List Ph × Int := if validB x = false then ([], 1) else if (colB co && hasC x.cs co) = false then ([], 3) else (phasesL x co, 0)
theorem PhasesOf_len (x : Ch) (co : ByteArray) : (phOf x co).1.length ≤ 101 := by
  unfold phOf
  split
  · simp
  split
  · simp
  · rename_i hv _
    exact (phases_len (valid_shape (by simpa using hv))).2
/-- The outcome: a list of phases in memory of the call's own, and a code. -/
def PhPost (w : World) (R : List Ph × Int) (e : Ending) (w' : World) : Prop := ∃ v, e = .returned (.tuple #[v, .int .i64 R.2]) ∧ w'.ownsRow w.heap.size 58 2 v R.1.length (R.1.flatMap Ph.cells) ∧ Below w.heap.size w w'
theorem phPost_nil {w w' : World} {R : List Ph × Int} {code : Int} (h : R = ([], code)) (hb : Below w.heap.size w w') : PhPost w R (.returned (.tuple #[.slice none 0 0, .int .i64 code])) w' := by
  subst h
  exact ⟨_, rfl, World.ownsRow_nil _ _ _ _, hb⟩
set_option maxRecDepth 100000 in
set_option maxHeartbeats 1000000 in
theorem specPhasesOf_c (A : Option Addr) (n c : Nat) (x : Ch) (w : World) (sl : Sl w w.heap.size 1 A n (x.gs.flatMap intC)) (hn : n ≤ 1048576) (hlz : x.l.size ≤ 1048576) (hs : x.cs.size ≤ 1048576) (co : ByteArray) :
    Calls Try.prog 18 #[chV x.k A n c x.l x.cs x.p, .string co] w (PhPost w (phOf x co)) := by
  have hp := chp_box (c := c) 26 sl hn hlz hs
  have hb0 : Below w.heap.size w (w.alloc (.cells #[.int .i64 x.k, .slice A n c, .string x.l, .string x.cs, .int .i64 x.p] 26)) := by (repeat (first | (with_reducible assumption) | (with_reducible exact Below.refl _ _) | exact Nat.le_refl _ | exact Below.size (by with_reducible assumption) | (with_reducible refine Below.drew ?_) | (with_reducible refine below_drewN ?_ _) | (with_reducible refine Below.alloc ?_ ?_ _) | (with_reducible refine Below.setCell ?_ ?_ _) | (with_reducible refine le_alloc ?_ _) | (with_reducible refine le_set ?_ _ _) | (with_reducible refine le_drew ?_) | (with_reducible refine le_drewN ?_ _) | omega | (dsimp only; omega)))
  cases hv : validB x
  · go_enter Try.func18, Try.ntmps18
    go_wp2_with fail
    refine (l05Ok_c _ _ _ _ _ x _ hp).mono ?_
    rintro e w1 ⟨rfl, hb1⟩
    go_wp2_with fail
    go_ret2
    exact phPost_nil (by simp [phOf, hv]) (hb0.trans (hb1.mono hb0.size))
  cases hcb : colB co
  · go_enter Try.func18, Try.ntmps18
    go_wp2_with fail
    refine (l05Ok_c _ _ _ _ _ x _ hp).mono ?_
    rintro e w1 ⟨rfl, hb1⟩
    go_wp2_with (go_at_call 51; refine (l05Color_c _ _).mono ?_; rintro e w9 ⟨rfl, rfl⟩)
    go_ret2
    exact phPost_nil (by simp [phOf, hv, hcb]) (hb0.trans (hb1.mono hb0.size))
  cases hcc : hasC x.cs co
  all_goals
    go_enter Try.func18, Try.ntmps18
    go_wp2_with fail
    refine (l05Ok_c _ _ _ _ _ x _ hp).mono ?_
    rintro e w1 ⟨rfl, hb1⟩
    have hp1 := hp.next hb1
    have c3 := hp1.c3
    go_wp2_with (first | (go_at_call 51; refine (l05Color_c _ _).mono ?_; rintro e w9 ⟨rfl, rfl⟩) | (go_at_call 52; refine (l05Contains_c x.cs co _ (by unfold maxLen; omega)).mono ?_; rintro e w9 ⟨rfl, rfl⟩))
  · go_ret2
    exact phPost_nil (by simp [phOf, hv, hcb, hcc]) (hb0.trans (hb1.mono hb0.size))
  · refine (l05Phases_c _ _ _ _ _ x co _ hp1 hv).mono ?_
    rintro e w2 ⟨v, rfl, ho, hb2⟩
    go_wp2_with fail
    go_ret2
    have hbb := hb0.trans (hb1.mono hb0.size)
    have hR : phOf x co = (phasesL x co, 0) := by simp [phOf, hv, hcb, hcc]
    rw [hR]
    exact ⟨v, rfl, own_base ho hbb.size, hbb.trans (hb2.mono hbb.size)⟩
end Go.Proofs.Ytgibbhipjpbdfaa
