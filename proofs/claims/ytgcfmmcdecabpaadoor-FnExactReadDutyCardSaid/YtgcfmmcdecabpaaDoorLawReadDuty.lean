/- The walk of the law FnExactReadDuty. -/
import Derived.Test.YtgcfmmcdecabpaaDoorRdI
namespace Go.Proofs.YtgcfmmcdecabpaaDoor
open Go.RowKit
theorem RdAns.form {s : ByteArray} {e : Ending} (h : RdAns s e) : ∃ (d : Duty) (b : Bool), e = .returned (.tuple #[.agg #[.string d.keeper, .int .i64 d.fr, .int .i64 d.un], .bool b]) := by
  rcases h with ⟨d, _, _, rfl⟩ | ⟨_, rfl⟩
  · exact ⟨d, true, rfl⟩
  · exact ⟨⟨ByteArray.empty, 0, 0⟩, false, rfl⟩
set_option maxRecDepth 100000 in
set_option maxHeartbeats 2000000 in
theorem lawReadDuty_c (s : ByteArray) (w : World) (hE : Env w) (hn : s.size ≤ maxLen) :
    Calls Tryd.prog 3 #[.string s] w fun e w' => e = .returned (.bool true) ∧ Below w.heap.size w w' := by
  unfold maxLen at hn
  by_cases hs : s.size ≤ 1048576
  rotate_left
  · have hs' : 1048576 < (s.size : Int) := by omega
    go_enter Tryd.func3, Tryd.ntmps3
    go_wp2_with fail
    go_ret
    exact ⟨rfl, Below.refl _ _⟩
  have hs' : ¬ 1048576 < (s.size : Int) := by omega
  have hS := specReadDuty_c s w hs
  have hI := fun w1 hbb => implReadDuty_c s w1 hs (hE.next (w' := w1) hbb)
  have HS := Lib.hid hS; clear hS
  have HI := Lib.hid hI; clear hI
  clear hE hn
  go_enter Tryd.func3, Tryd.ntmps3
  go_wp2_with fail
  refine HS.out.mono ?_
  rintro e w1 ⟨a1, hb1⟩
  obtain ⟨d, b, rfl⟩ := a1.form
  have hb2 : Below w1.heap.size w1 (w1.alloc (dutyO d 23)) := by (repeat (first | (with_reducible assumption) | (with_reducible exact Below.refl _ _) | exact Nat.le_refl _ | exact Below.size (by with_reducible assumption) | (with_reducible refine Below.drew ?_) | (with_reducible refine below_drewN ?_ _) | (with_reducible refine Below.alloc ?_ ?_ _) | (with_reducible refine Below.setCell ?_ ?_ _) | (with_reducible refine le_alloc ?_ _) | (with_reducible refine le_set ?_ _ _) | (with_reducible refine le_drew ?_) | (with_reducible refine le_drewN ?_ _) | omega | (dsimp only; omega)))
  have p2 := DutyP.box w1 d 23
  replace hb1 := hb1.trans (hb2.mono hb1.size)
  obtain ⟨w2, hw2⟩ : ∃ w2, w1.alloc (dutyO d 23) = w2 := ⟨_, rfl⟩
  rw [hw2] at p2 hb1
  obtain ⟨g1, hg1⟩ : ∃ g, w1.heap.size = g := ⟨_, rfl⟩
  rw [hg1] at p2
  have Ha1 := Lib.hid a1; clear a1
  clear HS hb2
  go_wp2_with fail
  try rw [hw2]
  try rw [hg1]
  clear hw2 hg1
  refine (HI.out _ hb1).mono ?_
  rintro e w3 ⟨a2, hb3⟩
  obtain rfl := a2.same Ha1.out
  have p3 := p2.next hb3
  replace hb1 := hb1.trans (hb3.mono hb1.size)
  clear HI p2 hb3 a2 Ha1
  have hb4 : Below w3.heap.size w3 (w3.alloc (dutyO d 23)) := by (repeat (first | (with_reducible assumption) | (with_reducible exact Below.refl _ _) | exact Nat.le_refl _ | exact Below.size (by with_reducible assumption) | (with_reducible refine Below.drew ?_) | (with_reducible refine below_drewN ?_ _) | (with_reducible refine Below.alloc ?_ ?_ _) | (with_reducible refine Below.setCell ?_ ?_ _) | (with_reducible refine le_alloc ?_ _) | (with_reducible refine le_set ?_ _ _) | (with_reducible refine le_drew ?_) | (with_reducible refine le_drewN ?_ _) | omega | (dsimp only; omega)))
  have p4 := DutyP.box w3 d 23
  have p5 := p3.next hb4
  replace hb1 := hb1.trans (hb4.mono hb1.size)
  obtain ⟨c0, c1, c2, hz3⟩ := id p3
  obtain ⟨n0, n1, n2, hz5⟩ := id p5
  obtain ⟨m0, m1, m2, hz4⟩ := id p4
  have hsm : d.same d = true := by rw [Duty.same_eq]; simp
  have hbb : (b != b) = false := by cases b <;> rfl
  go_wp2_with fail
  refine (eqDuty_c d d _).mono ?_
  rw [hsm]
  rintro e w4 ⟨rfl, hb5⟩
  go_wp2_with fail
  go_ret
  exact ⟨rfl, hb1.trans (hb5.mono hb1.size)⟩
end Go.Proofs.YtgcfmmcdecabpaaDoor
