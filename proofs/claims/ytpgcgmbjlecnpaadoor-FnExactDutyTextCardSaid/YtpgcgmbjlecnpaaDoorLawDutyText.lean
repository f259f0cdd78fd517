/- The walk of the law FnExactDutyText. -/
import Derived.Test.YtpgcgmbjlecnpaaDoorDutX
namespace Go.Proofs.YtpgcgmbjlecnpaaDoor
open Go.RowKit
set_option maxRecDepth 100000 in
set_option maxHeartbeats 2000000 in
theorem lawDutyText_c (d : Duty) (w : World) (ht : Tab10 w) (hn : d.keeper.size ≤ maxLen) :
    Calls Tryd.prog 3 #[d.val] w fun e w' => e = .returned (.bool true) ∧ Below w.heap.size w w' := by
  have hb0 : Below w.heap.size w (w.alloc (dutyO d 23)) := by (repeat (first | (with_reducible assumption) | (with_reducible exact Below.refl _ _) | exact Nat.le_refl _ | exact Below.size (by with_reducible assumption) | (with_reducible refine Below.drew ?_) | (with_reducible refine below_drewN ?_ _) | (with_reducible refine Below.alloc ?_ ?_ _) | (with_reducible refine Below.setCell ?_ ?_ _) | (with_reducible refine le_alloc ?_ _) | (with_reducible refine le_set ?_ _ _) | (with_reducible refine le_drew ?_) | (with_reducible refine le_drewN ?_ _) | omega | (dsimp only; omega)))
  have p1 := DutyP.box w d 23
  obtain ⟨w0, hw⟩ : ∃ w0, w.alloc (dutyO d 23) = w0 := ⟨_, rfl⟩
  rw [hw] at hb0 p1
  obtain ⟨T, hT⟩ : ∃ T, dutyX d = T := ⟨_, rfl⟩
  have hS : ∀ w1, Calls Tryd.prog 5 #[d.val] w1 fun e w' => e = .returned (.string T) ∧ Below w1.heap.size w1 w' := fun w1 => hT ▸ specDutyText_c d w1 hn
  have hI : ∀ w1, Below w.heap.size w w1 → Calls Tryd.prog 7 #[d.val] w1 fun e w' => e = .returned (.string T) ∧ Below w1.heap.size w1 w' := fun w1 hbb => hT ▸ implDutyText_c d w1 hn (ht.next hbb)
  have hz := szDuty_c d 1048576 w0 hn (by omega) (by omega)
  clear hT ht
  obtain ⟨c0, c1, c2, _⟩ := id p1
  have hne : (T.toList == T.toList) = true := by simp
  have HS := Lib.hid hS; clear hS
  have HI := Lib.hid hI; clear hI
  have HZ := Lib.hid hz; clear hz
  clear hn
  go_enter Tryd.func3, Tryd.ntmps3
  go_wp2_with fail
  try rw [hw]
  clear hw
  refine HZ.out.mono ?_
  rintro e w1 ⟨r, rfl, hr, hb1⟩
  have p2 := p1.next hb1
  replace hb0 := hb0.trans (hb1.mono hb0.size)
  clear c0 c1 c2 hb1 p1 HZ
  obtain ⟨c0, c1, c2, _⟩ := id p2
  have Hr := Lib.hid hr; clear hr
  go_wp2_with fail
  · go_ret
    exact ⟨rfl, hb0⟩
  refine (toDuty_c d _).mono ?_
  rintro e w2 ⟨rfl, hb2⟩
  replace hb0 := hb0.trans (hb2.mono hb0.size)
  have p3 := p2.next hb2
  clear c0 c1 c2 hb2 p2 Hr
  go_wp2_with fail
  refine (HS.out _).mono ?_
  rintro e w3 ⟨rfl, hb3⟩
  replace hb0 := hb0.trans (hb3.mono hb0.size)
  have p4 := p3.next hb3
  clear hb3 p3
  obtain ⟨c0, c1, c2, _⟩ := id p4
  go_wp2_with fail
  refine (toDuty_c d _).mono ?_
  rintro e w4 ⟨rfl, hb4⟩
  replace hb0 := hb0.trans (hb4.mono hb0.size)
  go_wp2_with fail
  refine (HI.out _ hb0).mono ?_
  rintro e w5 ⟨rfl, hb5⟩
  replace hb0 := hb0.trans (hb5.mono hb0.size)
  go_wp2_with fail
  go_ret
  exact ⟨rfl, hb0⟩
end Go.Proofs.YtpgcgmbjlecnpaaDoor
