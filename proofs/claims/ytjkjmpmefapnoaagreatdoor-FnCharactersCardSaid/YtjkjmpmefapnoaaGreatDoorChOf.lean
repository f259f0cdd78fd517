
/- PhasesOf, both sides. -/
import Derived.Test.YtjkjmpmefapnoaaGreatDoorCol
import Derived.Test.YtjkjmpmefapnoaaGreatDoorChPhI
namespace Go.Proofs.YtjkjmpmefapnoaaGreatDoor
open Go.RowKit
def phOf (x : Ch) (co : ByteArray) : List Ph × Int := if validB x = false then ([], 1) else if (colB co && hasC x.cs co) = false then ([], 3) else (phasesL x co, 0)
theorem PhasesOf_len (x : Ch) (co : ByteArray) : (phOf x co).1.length ≤ 101 := by
  unfold phOf
  split
  · simp
  split
  · simp
  · rename_i hv _
    exact (phases_len (valid_shape (by simpa using hv))).2
/-- The outcome: a list of phases in memory of the call's own, and a code. -/
def PhPost (w : World) (R : List Ph × Int) (e : Ending) (w' : World) : Prop := ∃ v, e = .returned (.tuple #[v, .int .i64 R.2]) ∧ w'.ownsRow w.heap.size 48 2 v R.1.length (R.1.flatMap Ph.cells) ∧ Below w.heap.size w w'
theorem phPost_nil {w w' : World} {R : List Ph × Int} {code : Int} (h : R = ([], code)) (hb : Below w.heap.size w w') : PhPost w R (.returned (.tuple #[.slice none 0 0, .int .i64 code])) w' := by
  subst h
  exact ⟨_, rfl, World.ownsRow_nil _ _ _ _, hb⟩
set_option maxRecDepth 100000 in
set_option maxHeartbeats 1000000 in
theorem implPhasesOf_c (A : Option Addr) (n c : Nat) (x : Ch) (w : World) (sl : Sl w w.heap.size 1 A n (x.gs.flatMap intC)) (hn : n ≤ 1048576) (hlz : x.l.size ≤ 1048576) (hs : x.cs.size ≤ 1048576) (co : ByteArray) (hco : co.size ≤ maxLen) :
    Calls Tryz.prog 19 #[chV x.k A n c x.l x.cs x.p, .string co] w (PhPost w (phOf x co)) := by
  have hb0 : Below w.heap.size w (w.alloc (.cells #[.int .i64 x.k, .slice A n c, .string x.l, .string x.cs, .int .i64 x.p] 29)) := by (repeat (first | (with_reducible assumption) | (with_reducible exact Below.refl _ _) | exact Nat.le_refl _ | exact Below.size (by with_reducible assumption) | (with_reducible refine Below.drew ?_) | (with_reducible refine below_drewN ?_ _) | (with_reducible refine Below.alloc ?_ ?_ _) | (with_reducible refine Below.setCell ?_ ?_ _) | (with_reducible refine le_alloc ?_ _) | (with_reducible refine le_set ?_ _ _) | (with_reducible refine le_drew ?_) | (with_reducible refine le_drewN ?_ _) | omega | (dsimp only; omega)))
  have sl0 := sl.next hb0
  cases hv : validB x
  · go_enter Tryz.func19, Tryz.ntmps19
    go_wp2_with fail
    refine (implValid_c A n c x _ sl0 hn hlz hs).mono ?_
    rintro e w1 ⟨rfl, hb1⟩
    go_wp2_with fail
    go_ret2
    exact phPost_nil (by simp [phOf, hv]) (hb0.trans (hb1.mono hb0.size))
  cases hcb : colB co
  · go_enter Tryz.func19, Tryz.ntmps19
    go_wp2_with fail
    refine (implValid_c A n c x _ sl0 hn hlz hs).mono ?_
    rintro e w1 ⟨rfl, hb1⟩
    go_wp2_with (go_at_call 44; refine (isColor_c _ _ hco).mono ?_; rintro e w9 ⟨rfl, rfl⟩)
    go_ret2
    exact phPost_nil (by simp [phOf, hv, hcb]) (hb0.trans (hb1.mono hb0.size))
  have h1 := colB_size hcb
  have H1 := Lib.hid h1; clear h1
  cases hcc : hasC x.cs co
  all_goals
    go_enter Tryz.func19, Tryz.ntmps19
    go_wp2_with fail
    refine (implValid_c A n c x _ sl0 hn hlz hs).mono ?_
    rintro e w1 ⟨rfl, hb1⟩
    have q1 := keepC hb1 w.heap.size (by simp)
    have sl1 := sl0.next hb1
    go_wp2_with (first | (go_at_call 44; refine (isColor_c _ _ hco).mono ?_; rintro e w9 ⟨rfl, rfl⟩) | (go_at_call 45; refine (contains1_c x.cs co _ H1.out).mono ?_; rintro e w9 ⟨rfl, rfl⟩))
  · go_ret2
    exact phPost_nil (by simp [phOf, hv, hcb, hcc]) (hb0.trans (hb1.mono hb0.size))
  · refine (phases_c A n c x _ sl1 hn hlz hs co hv).mono ?_
    rintro e w2 ⟨v, rfl, ho, hb2⟩
    go_wp2_with fail
    go_ret2
    have hbb := hb0.trans (hb1.mono hb0.size)
    have hR : phOf x co = (phasesL x co, 0) := by simp [phOf, hv, hcb, hcc]
    rw [hR]
    exact ⟨v, rfl, own_base ho hbb.size, hbb.trans (hb2.mono hbb.size)⟩
end Go.Proofs.YtjkjmpmefapnoaaGreatDoor
