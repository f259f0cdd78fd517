/- The walk of the law FnExactSameDuties. -/
import Derived.Test.YtimbakjajglppaaDuty2
import Derived.Test.YtimbakjajglppaaDuty3
namespace Go.Proofs.Ytimbakjajglppaa
open Go.RowKit
set_option maxRecDepth 100000 in
set_option maxHeartbeats 1000000 in
theorem lawSameDuties_c (A A' : Option Addr) (n n' c c' : Nat) (xs ys : List Duty) (w : World) (h : Sl w w.heap.size 3 A n (xs.flatMap Duty.cells)) (h' : Sl w w.heap.size 3 A' n' (ys.flatMap Duty.cells)) (hm : n ≤ maxLen) (hm' : n' ≤ maxLen)
    (hs : ∀ d ∈ xs, d.keeper.size ≤ maxLen) (hs' : ∀ d ∈ ys, d.keeper.size ≤ maxLen) :
    Calls Try.prog 3 #[.slice A n c, .slice A' n' c'] w fun e w' => e = .returned (.bool true) ∧ Below w.heap.size w w' := by
  go_enter Try.func3, Try.ntmps3
  go_wp2_with fail
  refine (szDutyS_c A n c xs _ _ h hm hs (by omega) (by omega)).mono ?_
  rintro e w1 ⟨r, rfl, hr, hb1⟩
  go_wp2_with fail
  · go_ret
    exact ⟨rfl, hb1⟩
  have h0 : 0 ≤ r ∧ r ≤ 1048576 ∧ (n : Int) ≤ 1048576 := by omega
  refine (szDutyS_c A' n' c' ys _ _ (h'.next hb1) hm' hs' h0.1 h0.2.1).mono ?_
  rintro e w2 ⟨r2, rfl, hr2, hb2⟩
  replace hb2 := hb1.trans (hb2.mono hb1.size)
  go_wp2_with fail
  · go_ret
    exact ⟨rfl, hb2⟩
  have h1 : (n' : Int) ≤ 1048576 := by omega
  clear hr hr2 hb1
  refine (toDutyS_c A n c xs _ (h.next hb2) (by omega)).mono ?_
  rintro e w3 ⟨v3, rfl, ho3, hb3⟩
  obtain ⟨A3, c3, rfl⟩ := own_slice ho3
  have s3 := Sl.of_own ho3
  replace hb3 := hb2.trans (hb3.mono hb2.size)
  clear hb2 ho3
  go_wp2_with fail
  refine (toDutyS_c A' n' c' ys _ (h'.next hb3) (by omega)).mono ?_
  rintro e w4 ⟨v4, rfl, ho4, hb4⟩
  obtain ⟨A4, c4, rfl⟩ := own_slice ho4
  replace s3 := s3.next hb4
  have s4 := Sl.of_own ho4
  replace hb4 := hb3.trans (hb4.mono hb3.size)
  clear hb3 ho4
  go_wp2_with fail
  refine (specSame_c A3 A4 n n' c3 c4 xs ys _ s3 s4 hm hm').mono ?_
  rintro e w5 ⟨rfl, hb5⟩
  replace hb5 := hb4.trans (hb5.mono hb4.size)
  clear hb4 s3 s4
  go_wp2_with fail
  refine (toDutyS_c A n c xs _ (h.next hb5) (by omega)).mono ?_
  rintro e w3 ⟨v3, rfl, ho3, hb3⟩
  obtain ⟨A3, c3, rfl⟩ := own_slice ho3
  have s3 := Sl.of_own ho3
  replace hb3 := hb5.trans (hb3.mono hb5.size)
  clear hb5 ho3
  go_wp2_with fail
  refine (toDutyS_c A' n' c' ys _ (h'.next hb3) (by omega)).mono ?_
  rintro e w4 ⟨v4, rfl, ho4, hb4⟩
  obtain ⟨A4, c4, rfl⟩ := own_slice ho4
  replace s3 := s3.next hb4
  have s4 := Sl.of_own ho4
  replace hb4 := hb3.trans (hb4.mono hb3.size)
  clear hb3 ho4
  go_wp2_with fail
  refine (implSameDuties_c A3 A4 n n' c3 c4 xs ys _ s3 s4 hm hm').mono ?_
  rintro e w5 ⟨rfl, hb5⟩
  replace s3 := s3.next hb5
  replace s4 := s4.next hb5
  replace hb5 := hb4.trans (hb5.mono hb4.size)
  clear hb4
  go_wp2_with fail
  refine (toDutyS_c A n c xs _ (h.next hb5) (by omega)).mono ?_
  rintro e w6 ⟨v6, rfl, ho6, hb6⟩
  obtain ⟨A6, c6, rfl⟩ := own_slice ho6
  replace s3 := s3.next hb6
  replace s4 := s4.next hb6
  have s6 := Sl.of_own ho6
  replace hb6 := hb5.trans (hb6.mono hb5.size)
  clear hb5 ho6
  go_wp2_with fail
  refine (eqDutyS_c A3 A6 n c3 c6 xs _ s3 s6 hm).mono ?_
  rintro e w7 ⟨rfl, hb7⟩
  replace s4 := s4.next hb7
  replace hb7 := hb6.trans (hb7.mono hb6.size)
  clear hb6
  go_wp2_with fail
  refine (toDutyS_c A' n' c' ys _ (h'.next hb7) (by omega)).mono ?_
  rintro e w8 ⟨v8, rfl, ho8, hb8⟩
  obtain ⟨A8, c8, rfl⟩ := own_slice ho8
  replace s4 := s4.next hb8
  have s8 := Sl.of_own ho8
  replace hb8 := hb7.trans (hb8.mono hb7.size)
  clear hb7 ho8
  go_wp2_with fail
  refine (eqDutyS_c A4 A8 n' c4 c8 ys _ s4 s8 hm').mono ?_
  rintro e w9 ⟨rfl, hb9⟩
  replace hb9 := hb8.trans (hb9.mono hb8.size)
  go_wp2_with fail
  go_ret
  exact ⟨rfl, hb9⟩
end Go.Proofs.Ytimbakjajglppaa
