/- Sectors: the program. -/
import Derived.Test.YtpgcgmbjlecnpaaGreatDoorSec
namespace Go.Proofs.YtpgcgmbjlecnpaaGreatDoor
open Go.RowKit
theorem mod360 (a : Int) : (a.tmod 360 + 360).tmod 360 = a % 360 := by
  rcases Int.le_total 0 a with h | h
  · rw [Int.tmod_eq_emod_of_nonneg h, Int.tmod_eq_emod_of_nonneg (by omega)]; omega
  · obtain ⟨b, rfl⟩ : ∃ b, a = -b := ⟨-a, by omega⟩
    rw [Int.neg_tmod, Int.tmod_eq_emod_of_nonneg (show 0 ≤ b by omega), Int.tmod_eq_emod_of_nonneg (by omega)]; omega
theorem tmod360 (a : Int) : -359 ≤ a.tmod 360 ∧ a.tmod 360 ≤ 359 := by
  rcases Int.le_total 0 a with h | h
  · rw [Int.tmod_eq_emod_of_nonneg h]; omega
  · obtain ⟨b, rfl⟩ : ∃ b, a = -b := ⟨-a, by omega⟩
    rw [Int.neg_tmod, Int.tmod_eq_emod_of_nonneg (show 0 ≤ b by omega)]; omega
set_option maxHeartbeats 400000 in
theorem modulo_c (a : Int) (w : World) : Calls Tryz.prog 159 #[.int .i64 a, .int .i64 360] w fun e w' => e = .returned (.int .i64 (a % 360)) ∧ w = w' := by
  have h0 := mod360 a
  have h1 := tmod360 a
  have h2 : (a.tmod 360 + 360) % 360 = a % 360 := by rw [← Int.tmod_eq_emod_of_nonneg (show 0 ≤ a.tmod 360 + 360 by omega), h0]
  clear h0
  have H2 := Lib.hid h2; clear h2
  go_enter Tryz.func159, Tryz.ntmps159
  go_wp2
  go_ret
  exact ⟨ret_eq (int_eq H2.out), rfl⟩
set_option maxHeartbeats 400000 in
theorem isBearing_c (n : Int) (w : World) : Calls Tryz.prog 145 #[.int .i64 n] w fun e w' => e = .returned (.bool (inB n 0 359)) ∧ w = w' := by
  go_enter Tryz.func145, Tryz.ntmps145
  go_wp2_with (go_at_call 64; refine (within_c _ _ _ _).mono ?_; rintro e w1 ⟨rfl, rfl⟩)
  go_ret
  exact ⟨rfl, rfl⟩
set_option maxHeartbeats 400000 in
theorem arc_c (f t : Int) (c : ByteArray) (w : World) (hf : 0 ≤ f ∧ f ≤ 359) (ht : 0 ≤ t ∧ t ≤ 359) : Calls Tryz.prog 121 #[.agg #[.int .i64 f, .int .i64 t, .string c]] w fun e w' => e = .returned (.int .i64 (arcI f t)) ∧ Below w.heap.size w w' := by
  have h1 : 0 ≤ (t - f - 1) % 360 ∧ (t - f - 1) % 360 < 360 := by omega
  go_enter Tryz.func121, Tryz.ntmps121
  go_wp2_with (go_at_call 159; refine (modulo_c _ _).mono ?_; rintro e w1 ⟨rfl, rfl⟩)
  go_ret
  exact ⟨ret_eq (int_eq rfl), by (repeat (first | (with_reducible assumption) | (with_reducible exact Below.refl _ _) | exact Nat.le_refl _ | exact Below.size (by with_reducible assumption) | (with_reducible refine Below.drew ?_) | (with_reducible refine below_drewN ?_ _) | (with_reducible refine Below.alloc ?_ ?_ _) | (with_reducible refine Below.setCell ?_ ?_ _) | (with_reducible refine le_alloc ?_ _) | (with_reducible refine le_set ?_ _ _) | (with_reducible refine le_drew ?_) | (with_reducible refine le_drewN ?_ _) | omega | (dsimp only; omega)))⟩
set_option maxHeartbeats 400000 in
theorem has_c (f t : Int) (c : ByteArray) (b : Int) (w : World) (hf : 0 ≤ f ∧ f ≤ 359) (ht : 0 ≤ t ∧ t ≤ 359) : Calls Tryz.prog 120 #[.agg #[.int .i64 f, .int .i64 t, .string c], .int .i64 b] w fun e w' =>
    ∃ r : Bool, e = .returned (.bool r) ∧ (0 ≤ b ∧ b ≤ 359 → r = decide (distI f b < arcI f t)) ∧ Below w.heap.size w w' := by
  have hb0 : Below w.heap.size w (w.alloc (.cells #[.int .i64 f, .int .i64 t, .string c] 109)) := by (repeat (first | (with_reducible assumption) | (with_reducible exact Below.refl _ _) | exact Nat.le_refl _ | exact Below.size (by with_reducible assumption) | (with_reducible refine Below.drew ?_) | (with_reducible refine below_drewN ?_ _) | (with_reducible refine Below.alloc ?_ ?_ _) | (with_reducible refine Below.setCell ?_ ?_ _) | (with_reducible refine le_alloc ?_ _) | (with_reducible refine le_set ?_ _ _) | (with_reducible refine le_drew ?_) | (with_reducible refine le_drewN ?_ _) | omega | (dsimp only; omega)))
  go_enter Tryz.func120, Tryz.ntmps120
  go_wp2
  go_region_held3 (fun w' => Below w.heap.size w w' ∧ (∀ x, w'.cell? ⟨w.heap.size, x, none⟩ = (w.alloc (.cells #[.int .i64 f, .int .i64 t, .string c] 109)).cell? ⟨w.heap.size, x, none⟩)) (first | exact ⟨hb0.drew, fun _ => rfl⟩ | exact ⟨hb0.drew.trans (hb7.mono hb0.size), keepC hb7 _ (by simp)⟩) (first | (go_at_call 159; refine (modulo_c _ _).mono ?_; rintro e w8 ⟨rfl, rfl⟩) | (go_at_call 121; refine (arc_c f t c _ hf ht).mono ?_; rintro e w7 ⟨rfl, hb7⟩))
  go_wp2
  go_ret
  exact ⟨_, rfl, fun h => by rw [IntWalk.i64_in _ (by omega)]; rfl, hb0.drew.trans (hb7.mono hb0.size)⟩
set_option maxHeartbeats 400000 in
theorem validSector_c (s : Sec) (w : World) (hs : s.c.size ≤ maxLen) : Calls Tryz.prog 119 #[.agg #[.int .i64 s.f, .int .i64 s.t, .string s.c]] w fun e w' => e = .returned (.bool (secOk s)) ∧ Below w.heap.size w w' := by
  obtain ⟨f, t, c⟩ := s
  simp only at hs
  have hv : secOk ⟨f, t, c⟩ = (inB f 0 359 && inB t 0 359 && colB c) := rfl
  rw [hv]
  have Hv := Lib.hid hv; clear hv
  cases h1 : inB f 0 359 <;> cases h2 : inB t 0 359
  all_goals
    go_enter Tryz.func119, Tryz.ntmps119
    go_wp2_with (first | (go_at_call 145; refine (isBearing_c _ _).mono ?_; rintro e w1 ⟨rfl, rfl⟩) | (go_at_call 158; refine (isColor_c _ _ hs).mono ?_; rintro e w1 ⟨rfl, rfl⟩))
    go_ret
    exact ⟨ret_eq (bool_eq (by simp)), by (repeat (first | (with_reducible assumption) | (with_reducible exact Below.refl _ _) | exact Nat.le_refl _ | exact Below.size (by with_reducible assumption) | (with_reducible refine Below.drew ?_) | (with_reducible refine below_drewN ?_ _) | (with_reducible refine Below.alloc ?_ ?_ _) | (with_reducible refine Below.setCell ?_ ?_ _) | (with_reducible refine le_alloc ?_ _) | (with_reducible refine le_set ?_ _ _) | (with_reducible refine le_drew ?_) | (with_reducible refine le_drewN ?_ _) | omega | (dsimp only; omega)))⟩
end Go.Proofs.YtpgcgmbjlecnpaaGreatDoor
