/- The walk of the law FnExactValidEdition. -/
import Derived.Test.YtaooidgmphbegaaGreatDoorEdi
namespace Go.Proofs.YtaooidgmphbegaaGreatDoor
open Go.RowKit
set_option maxRecDepth 100000 in
set_option maxHeartbeats 2000000 in
theorem lawValidEdition_c (m d : Int) (A : Option Addr) (n c : Nat) (zs : List AidG) (w : World) (h : Sl w w.heap.size 16 A n (zs.flatMap AidG.cells) ∧ ∀ z ∈ zs, AidRd w z) (hm : n ≤ maxLen) (ht : Tab w) :
    Calls Tryz.prog 8 #[ediV m d A n c] w fun e w' => e = .returned (.bool true) ∧ Below w.heap.size w w' := by
  have hb0 : Below w.heap.size w (w.alloc (.cells #[.int .i64 m, .int .i64 d, .slice A n c] 64)) := by (repeat (first | (with_reducible assumption) | (with_reducible exact Below.refl _ _) | exact Nat.le_refl _ | exact Below.size (by with_reducible assumption) | (with_reducible refine Below.drew ?_) | (with_reducible refine below_drewN ?_ _) | (with_reducible refine Below.alloc ?_ ?_ _) | (with_reducible refine Below.setCell ?_ ?_ _) | (with_reducible refine le_alloc ?_ _) | (with_reducible refine le_set ?_ _ _) | (with_reducible refine le_drew ?_) | (with_reducible refine le_drewN ?_ _) | omega | (dsimp only; omega)))
  go_enter Tryz.func8, Tryz.ntmps8
  go_wp2_with fail
  refine (szEdition_c m d A n c zs _ _ ⟨h.1.next hb0, fun z hz => (h.2 z hz).next hb0⟩ hm (by omega) (by omega)).mono ?_
  rintro e w1 ⟨r, rfl, hr, hb1⟩
  have z1 : w.heap.size < w1.heap.size := Nat.lt_of_lt_of_le (by simp) hb1.size
  have q1 := keepC hb1 w.heap.size (by simp)
  replace hb1 := hb0.trans (hb1.mono (by simp))
  have Hr := Lib.hid hr; clear hr
  go_wp2_with fail
  · go_ret
    exact ⟨rfl, hb1⟩
  have hbd : (∀ z ∈ zs, AidBd z.a) ∧ n ≤ 1048576 := by
    rcases Hr.out with h3 | ⟨h3, h4, h5⟩
    · omega
    · exact ⟨h5, by omega⟩
  obtain ⟨bd, hn⟩ := hbd
  clear Hr
  have s0 : AidSl w A n zs := ⟨h.1, fun z hz => (h.2 z hz).ok (bd z hz)⟩
  refine (toEdition_c m d A n c zs _ (s0.next hb1) hn).mono ?_
  rintro e w2 ⟨A2, c2, zs2, rfl, ha2, ho2, hb2⟩
  have s2 := ho2.sl (bd_of ha2 bd)
  have q2 := keepC hb2 w.heap.size z1
  have z2 := Nat.lt_of_lt_of_le z1 hb2.size
  replace hb2 := hb1.trans (hb2.mono hb1.size)
  clear ho2
  go_wp2_with fail
  have hc2 := specValidEdition_c m d A2 n c2 zs2 w2 s2 hn
  rw [ha2] at hc2
  refine hc2.mono ?_
  rintro e w3 ⟨rfl, hb3⟩
  clear hc2
  have q3 := keepC hb3 w.heap.size z2
  have z3 := Nat.lt_of_lt_of_le z2 hb3.size
  replace hb3 := hb2.trans (hb3.mono hb2.size)
  go_wp2_with fail
  refine (toEdition_c m d A n c zs _ (s0.next hb3) hn).mono ?_
  rintro e w4 ⟨A4, c4, zs4, rfl, ha4, ho4, hb4⟩
  have s4 := ho4.sl (bd_of ha4 bd)
  have q4 := keepC hb4 w.heap.size z3
  have z4 := Nat.lt_of_lt_of_le z3 hb4.size
  replace hb4 := hb3.trans (hb4.mono hb3.size)
  clear ho4
  go_wp2_with fail
  have hbx : Below w4.heap.size w4 (w4.alloc (.cells #[.int .i64 m, .int .i64 d, .slice A4 n c4] 68)) := by (repeat (first | (with_reducible assumption) | (with_reducible exact Below.refl _ _) | exact Nat.le_refl _ | exact Below.size (by with_reducible assumption) | (with_reducible refine Below.drew ?_) | (with_reducible refine below_drewN ?_ _) | (with_reducible refine Below.alloc ?_ ?_ _) | (with_reducible refine Below.setCell ?_ ?_ _) | (with_reducible refine le_alloc ?_ _) | (with_reducible refine le_set ?_ _ _) | (with_reducible refine le_drew ?_) | (with_reducible refine le_drewN ?_ _) | omega | (dsimp only; omega)))
  have s5 := s4.next hbx
  have q5 := keepC hbx w.heap.size z4
  have z5 := Nat.lt_of_lt_of_le z4 hbx.size
  have hb5 := hb4.trans (hbx.mono hb4.size)
  have hc4 := implValidEdition_c m d A4 n c4 zs4 _ s5 hn (ht.next hb5)
  rw [ha4] at hc4
  refine hc4.mono ?_
  rintro e w6 ⟨rfl, hb6⟩
  clear hc4
  have s6 := s5.next hb6
  have q6 := keepC hb6 w.heap.size z5
  have z6 := Nat.lt_of_lt_of_le z5 hb6.size
  have v6 := keepC hb6 w4.heap.size (by simp)
  have y6 : w4.heap.size < w6.heap.size := Nat.lt_of_lt_of_le (by simp) hb6.size
  replace hb6 := hb5.trans (hb6.mono hb5.size)
  have s7 := s0.next hb6
  go_wp2_with fail
  have e1 : ∀ {w' : World}, Below w6.heap.size w6 w' → (Below w6.heap.size w6 w' ∧ (∀ x, w'.cell? ⟨w.heap.size, x, none⟩ = w6.cell? ⟨w.heap.size, x, none⟩) ∧ (∀ x, w'.cell? ⟨w4.heap.size, x, none⟩ = w6.cell? ⟨w4.heap.size, x, none⟩)) := fun hb => ⟨hb, keepC hb _ z6, keepC hb _ y6⟩
  go_region_held3 (fun w' => Below w6.heap.size w6 w' ∧ (∀ x, w'.cell? ⟨w.heap.size, x, none⟩ = w6.cell? ⟨w.heap.size, x, none⟩) ∧ (∀ x, w'.cell? ⟨w4.heap.size, x, none⟩ = w6.cell? ⟨w4.heap.size, x, none⟩)) (first | exact e1 (Below.refl _ _).drew | exact e1 ((Below.refl _ _).drew.trans hb7) | exact e1 (((Below.refl _ _).drew.trans hb7).trans (hb8.mono hb7.size))) (first | (go_at_call 37; refine (toEdition_c m d A n c zs _ (s7.next (Below.refl _ _).drew) hn).mono ?_; rintro e w7 ⟨A7, c7, zs7, rfl, ha7, ho7, hb7⟩) | (go_at_call 39; refine (eqEdition_c m d A4 A7 n c4 c7 zs4 zs7 _ (s6.next ((Below.refl _ _).drew.trans hb7)) (ho7.sl (bd_of ha7 bd)) (ha4.trans ha7.symm) hn).mono ?_; rintro e w8 ⟨rfl, hb8⟩))
  have hb9 := hb6.trans ((((Below.refl w6.heap.size w6).drew.trans hb7).trans (hb8.mono hb7.size)).mono hb6.size)
  go_wp2_with fail
  go_ret
  exact ⟨rfl, hb9⟩
end Go.Proofs.YtaooidgmphbegaaGreatDoor
