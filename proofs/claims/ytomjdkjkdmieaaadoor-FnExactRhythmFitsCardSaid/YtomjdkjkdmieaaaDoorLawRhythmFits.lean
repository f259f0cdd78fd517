/- The walk of the law FnExactRhythmFits. -/
import Derived.Test.YtomjdkjkdmieaaaDoorChEq
import Derived.Test.YtomjdkjkdmieaaaDoorRhS3
import Derived.Test.YtomjdkjkdmieaaaDoorRhI2
import Derived.Test.YtomjdkjkdmieaaaDoorRhL3
namespace Go.Proofs.YtomjdkjkdmieaaaDoor
open Go.RowKit
set_option maxRecDepth 100000 in
set_option maxHeartbeats 1000000 in
theorem lawRhythmFits_c (kd k : Int) (A : Option Addr) (n c : Nat) (l cs : ByteArray) (p : Int) (gs : List Int) (w : World) (h : Sl w w.heap.size 1 A n (gs.flatMap intC)) (hm : n ≤ maxLen) (hl : l.size ≤ maxLen) (hc : cs.size ≤ maxLen) (ht : Tab10 w) :
    Calls Tryd.prog 4 #[.int .i64 kd, chV k A n c l cs p] w fun e w' => e = .returned (.bool true) ∧ Below w.heap.size w w' := by
  have hb0 : Below w.heap.size w (w.alloc (.cells #[.int .i64 k, .slice A n c, .string l, .string cs, .int .i64 p] 24)) := by (repeat (first | (with_reducible assumption) | (with_reducible exact Below.refl _ _) | exact Nat.le_refl _ | exact Below.size (by with_reducible assumption) | (with_reducible refine Below.drew ?_) | (with_reducible refine below_drewN ?_ _) | (with_reducible refine Below.alloc ?_ ?_ _) | (with_reducible refine Below.setCell ?_ ?_ _) | (with_reducible refine le_alloc ?_ _) | (with_reducible refine le_set ?_ _ _) | (with_reducible refine le_drew ?_) | (with_reducible refine le_drewN ?_ _) | omega | (dsimp only; omega)))
  obtain ⟨T, hT⟩ : ∃ T, rhyB kd ⟨k, gs, l, cs, p⟩ = T := ⟨_, rfl⟩
  have hne : (T != T) = false := by cases T <;> rfl
  have HT := Lib.hid hT; clear hT
  have HTb := Lib.hid ht; clear ht
  go_enter Tryd.func4, Tryd.ntmps4
  go_wp2_with fail
  refine (szCharacter_c k A n c l cs p _ _ hm hl hc (by omega) (by omega)).mono ?_
  rintro e w1 ⟨r, rfl, hr, hb1⟩
  have z1 : w.heap.size < w1.heap.size := Nat.lt_of_lt_of_le (by simp) hb1.size
  have q1 := keepC hb1 w.heap.size (by simp)
  replace hb1 := hb0.trans (hb1.mono (by simp))
  go_wp2_with fail
  · go_ret
    exact ⟨rfl, hb1⟩
  have h0 : (n : Int) ≤ 1048576 ∧ (l.size : Int) ≤ 1048576 ∧ (cs.size : Int) ≤ 1048576 := by omega
  obtain ⟨h1, h2, h3⟩ := h0
  clear hr
  refine (toCharacter_c k A n c l cs p gs _ (h.next hb1) (by omega)).mono ?_
  rintro e w2 ⟨A2, c2, rfl, ho2, hb2⟩
  have s2 := Sl.of_own ho2
  have q2 := keepC hb2 w.heap.size z1
  have z2 := Nat.lt_of_lt_of_le z1 hb2.size
  replace hb2 := hb1.trans (hb2.mono hb1.size)
  clear ho2
  go_wp2_with fail
  refine (specRhythm_c kd A2 n c2 ⟨k, gs, l, cs, p⟩ _ s2 (by omega) (by dsimp only; omega) (by dsimp only; omega)).mono ?_
  rw [HT.out]
  rintro e w3 ⟨rfl, hb3⟩
  have q3 := keepC hb3 w.heap.size z2
  have z3 := Nat.lt_of_lt_of_le z2 hb3.size
  replace hb3 := hb2.trans (hb3.mono hb2.size)
  go_wp2_with fail
  refine (toCharacter_c k A n c l cs p gs _ (h.next hb3) (by omega)).mono ?_
  rintro e w4 ⟨A4, c4, rfl, ho4, hb4⟩
  have s4 := Sl.of_own ho4
  have q4 := keepC hb4 w.heap.size z3
  have z4 := Nat.lt_of_lt_of_le z3 hb4.size
  replace hb4 := hb3.trans (hb4.mono hb3.size)
  clear ho4
  go_wp2_with fail
  have hbx : Below w4.heap.size w4 (w4.alloc (.cells #[.int .i64 k, .slice A4 n c4, .string l, .string cs, .int .i64 p] 27)) := by (repeat (first | (with_reducible assumption) | (with_reducible exact Below.refl _ _) | exact Nat.le_refl _ | exact Below.size (by with_reducible assumption) | (with_reducible refine Below.drew ?_) | (with_reducible refine below_drewN ?_ _) | (with_reducible refine Below.alloc ?_ ?_ _) | (with_reducible refine Below.setCell ?_ ?_ _) | (with_reducible refine le_alloc ?_ _) | (with_reducible refine le_set ?_ _ _) | (with_reducible refine le_drew ?_) | (with_reducible refine le_drewN ?_ _) | omega | (dsimp only; omega)))
  have s5 := s4.next hbx
  have q5 := keepC hbx w.heap.size z4
  have z5 := Nat.lt_of_lt_of_le z4 hbx.size
  have hb5 := hb4.trans (hbx.mono hb4.size)
  refine (implRhythm_c kd A4 n c4 ⟨k, gs, l, cs, p⟩ _ s5 (by omega) (by dsimp only; omega) (by dsimp only; omega) (HTb.out.next hb5)).mono ?_
  rw [rhy_eq, HT.out]
  rintro e w6 ⟨rfl, hb6⟩
  have s6 := s5.next hb6
  have q6 := keepC hb6 w.heap.size z5
  have z6 := Nat.lt_of_lt_of_le z5 hb6.size
  have v6 := keepC hb6 w4.heap.size (by simp)
  have y6 : w4.heap.size < w6.heap.size := Nat.lt_of_lt_of_le (by simp) hb6.size
  replace hb6 := hb5.trans (hb6.mono hb5.size)
  go_wp2_with fail
  have e1 : ∀ {w' : World}, Below w6.heap.size w6 w' → (Below w6.heap.size w6 w' ∧ (∀ x, w'.cell? ⟨w.heap.size, x, none⟩ = w6.cell? ⟨w.heap.size, x, none⟩) ∧ (∀ x, w'.cell? ⟨w4.heap.size, x, none⟩ = w6.cell? ⟨w4.heap.size, x, none⟩)) := fun hb => ⟨hb, keepC hb _ z6, keepC hb _ y6⟩
  go_region_held3 (fun w' => Below w6.heap.size w6 w' ∧ (∀ x, w'.cell? ⟨w.heap.size, x, none⟩ = w6.cell? ⟨w.heap.size, x, none⟩) ∧ (∀ x, w'.cell? ⟨w4.heap.size, x, none⟩ = w6.cell? ⟨w4.heap.size, x, none⟩)) (first | exact e1 (Below.refl _ _).drew | exact e1 ((Below.refl _ _).drew.trans hb7) | exact e1 (((Below.refl _ _).drew.trans hb7).trans (hb8.mono hb7.size))) (first | (go_at_call 7; refine (toCharacter_c k A n c l cs p gs _ ((h.next hb6).next (Below.refl _ _).drew) (by omega)).mono ?_; rintro e w7 ⟨A7, c7, rfl, ho7, hb7⟩) | (go_at_call 9; refine (eqCharacter_c k A4 A7 n c4 c7 l cs p gs _ (s6.next ((Below.refl _ _).drew.trans hb7)) (Sl.of_own ho7) (by omega)).mono ?_; rintro e w8 ⟨rfl, hb8⟩))
  have hb9 := hb6.trans ((((Below.refl w6.heap.size w6).drew.trans hb7).trans (hb8.mono hb7.size)).mono hb6.size)
  go_wp2_with fail
  go_ret
  exact ⟨rfl, hb9⟩
end Go.Proofs.YtomjdkjkdmieaaaDoor
