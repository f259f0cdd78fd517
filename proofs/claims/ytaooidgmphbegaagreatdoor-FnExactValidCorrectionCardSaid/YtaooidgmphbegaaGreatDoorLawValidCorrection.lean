/- The walk of the law FnExactValidCorrection. -/
import Derived.Test.YtaooidgmphbegaaGreatDoorCor
namespace Go.Proofs.YtaooidgmphbegaaGreatDoor
open Go.RowKit
set_option maxRecDepth 100000 in
set_option maxHeartbeats 2000000 in
theorem lawValidCorrection_c (k : Int) (z : AidG) (w : World) (h : AidRd w z) (ht : Tab w) :
    Calls Tryz.prog 5 #[corV k z] w fun e w' => e = .returned (.bool true) ∧ Below w.heap.size w w' := by
  have hb0 : Below w.heap.size w (w.alloc (corO k z 44)) := by (repeat (first | (with_reducible assumption) | (with_reducible exact Below.refl _ _) | exact Nat.le_refl _ | exact Below.size (by with_reducible assumption) | (with_reducible refine Below.drew ?_) | (with_reducible refine below_drewN ?_ _) | (with_reducible refine Below.alloc ?_ ?_ _) | (with_reducible refine Below.setCell ?_ ?_ _) | (with_reducible refine le_alloc ?_ _) | (with_reducible refine le_set ?_ _ _) | (with_reducible refine le_drew ?_) | (with_reducible refine le_drewN ?_ _) | omega | (dsimp only; omega)))
  go_enter Tryz.func5, Tryz.ntmps5
  go_wp2_with fail
  refine (szCorrection_c k z _ _ (h.next hb0) (by omega) (by omega)).mono ?_
  rintro e w1 ⟨r, rfl, hr, hb1⟩
  have z1 : w.heap.size < w1.heap.size := Nat.lt_of_lt_of_le (by simp) hb1.size
  have q1 := keepC hb1 w.heap.size (by simp)
  replace hb1 := hb0.trans (hb1.mono (by simp))
  have Hr := Lib.hid hr; clear hr
  go_wp2_with fail
  · go_ret
    exact ⟨rfl, hb1⟩
  have bd : AidBd z.a := by
    rcases Hr.out with h3 | ⟨_, _, h3⟩
    · omega
    · exact h3
  clear Hr
  as_aux_lemma =>
    refine (toCorrection_c k z _ ((h.ok bd).next hb1)).mono ?_
    rintro e w2 ⟨⟨a2, A2, c2, B2, d2⟩, rfl, ha2, ho2, hb2⟩
    simp only at ha2
    subst ha2
    have s2 := ho2.ok bd
    have q2 := keepC hb2 w.heap.size z1
    have z2 := Nat.lt_of_lt_of_le z1 hb2.size
    replace hb2 := hb1.trans (hb2.mono hb1.size)
    clear ho2
    go_wp2_with fail
    as_aux_lemma =>
      refine (specValidCorrection_c k ⟨z.a, A2, c2, B2, d2⟩ _ s2).mono ?_
      rintro e w3 ⟨rfl, hb3⟩
      have q3 := keepC hb3 w.heap.size z2
      have z3 := Nat.lt_of_lt_of_le z2 hb3.size
      replace hb3 := hb2.trans (hb3.mono hb2.size)
      go_wp2_with fail
      as_aux_lemma =>
        refine (toCorrection_c k z _ ((h.ok bd).next hb3)).mono ?_
        rintro e w4 ⟨⟨a4, A4, c4, B4, d4⟩, rfl, ha4, ho4, hb4⟩
        simp only at ha4
        subst ha4
        have s4 := ho4.ok bd
        have q4 := keepC hb4 w.heap.size z3
        have z4 := Nat.lt_of_lt_of_le z3 hb4.size
        replace hb4 := hb3.trans (hb4.mono hb3.size)
        clear ho4
        go_wp2_with fail
        as_aux_lemma =>
          have hbx : Below w4.heap.size w4 (w4.alloc (corO k ⟨z.a, A4, c4, B4, d4⟩ 48)) := by (repeat (first | (with_reducible assumption) | (with_reducible exact Below.refl _ _) | exact Nat.le_refl _ | exact Below.size (by with_reducible assumption) | (with_reducible refine Below.drew ?_) | (with_reducible refine below_drewN ?_ _) | (with_reducible refine Below.alloc ?_ ?_ _) | (with_reducible refine Below.setCell ?_ ?_ _) | (with_reducible refine le_alloc ?_ _) | (with_reducible refine le_set ?_ _ _) | (with_reducible refine le_drew ?_) | (with_reducible refine le_drewN ?_ _) | omega | (dsimp only; omega)))
          have s5 := s4.next hbx
          have q5 := keepC hbx w.heap.size z4
          have z5 := Nat.lt_of_lt_of_le z4 hbx.size
          have hb5 := hb4.trans (hbx.mono hb4.size)
          refine (implValidCorrection_c k ⟨z.a, A4, c4, B4, d4⟩ _ s5 (ht.next hb5)).mono ?_
          rintro e w6 ⟨rfl, hb6⟩
          have s6 := s5.next hb6
          have q6 := keepC hb6 w.heap.size z5
          have z6 := Nat.lt_of_lt_of_le z5 hb6.size
          have v6 := keepC hb6 w4.heap.size (by simp)
          have y6 : w4.heap.size < w6.heap.size := Nat.lt_of_lt_of_le (by simp) hb6.size
          replace hb6 := hb5.trans (hb6.mono hb5.size)
          have s7 := (h.ok bd).next hb6
          go_wp2_with fail
          as_aux_lemma =>
            have e1 : ∀ {w' : World}, Below w6.heap.size w6 w' → (Below w6.heap.size w6 w' ∧ (∀ x, w'.cell? ⟨w.heap.size, x, none⟩ = w6.cell? ⟨w.heap.size, x, none⟩) ∧ (∀ x, w'.cell? ⟨w4.heap.size, x, none⟩ = w6.cell? ⟨w4.heap.size, x, none⟩)) := fun hb => ⟨hb, keepC hb _ z6, keepC hb _ y6⟩
            go_region_held3 (fun w' => Below w6.heap.size w6 w' ∧ (∀ x, w'.cell? ⟨w.heap.size, x, none⟩ = w6.cell? ⟨w.heap.size, x, none⟩) ∧ (∀ x, w'.cell? ⟨w4.heap.size, x, none⟩ = w6.cell? ⟨w4.heap.size, x, none⟩)) (first | exact e1 (Below.refl _ _).drew | exact e1 ((Below.refl _ _).drew.trans hb7) | exact e1 (((Below.refl _ _).drew.trans hb7).trans (hb8.mono hb7.size))) (first | (go_at_call 24; refine (toCorrection_c k z _ (s7.next (Below.refl _ _).drew)).mono ?_; rintro e w7 ⟨⟨a7, A7, c7, B7, d7⟩, rfl, ha7, ho7, hb7⟩; simp only at ha7; subst ha7) | (go_at_call 26; refine (eqCorrection_c k z.a A4 A7 B4 B7 c4 c7 d4 d7 _ (s6.next ((Below.refl _ _).drew.trans hb7)) (ho7.ok bd)).mono ?_; rintro e w8 ⟨rfl, hb8⟩))
            have hb9 := hb6.trans ((((Below.refl w6.heap.size w6).drew.trans hb7).trans (hb8.mono hb7.size)).mono hb6.size)
            go_wp2_with fail
            go_ret
            exact ⟨rfl, hb9⟩
end Go.Proofs.YtaooidgmphbegaaGreatDoor
