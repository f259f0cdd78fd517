/- SameDuties, both sides. -/
import Derived.Test.YtimbakjajglppaaDuty1
import Derived.Deep.QuietTactic
import Derived.BigQuiet
namespace Go.Proofs.Ytimbakjajglppaa
open Go.RowKit
theorem take_eq_next {α : Type} {xs ys : List α} {k : Nat} {a b : α} (ht : xs.take k = ys.take k) (h1 : xs[k]? = some a) (h2 : ys[k]? = some b) (e : a = b) : xs.take (k + 1) = ys.take (k + 1) := by
  rw [List.take_add_one, List.take_add_one, ht, h1, h2, e]
theorem ne_of_next {α : Type} {xs ys : List α} {k : Nat} {a b : α} (h1 : xs[k]? = some a) (h2 : ys[k]? = some b) (e : a ≠ b) : xs ≠ ys := fun h => by
  rw [h, h2] at h1; exact e (Option.some.inj h1).symm

theorem dutyHeld : Try.prog.stoodInHeld 50 = false := by kernel_rfl
theorem dutyGuard : Try.prog.eqGuardType Try.prog.depth 50 = false := by kernel_rfl
theorem neq_duty (d e : Duty) (w : World) : (binOp .neq 50 (.agg #[.string d.keeper, .int .i64 d.fr, .int .i64 d.un]) (.agg #[.string e.keeper, .int .i64 e.fr, .int .i64 e.un])).run Try.prog w = .ok (.bool (!d.same e)) w := by
  obtain ⟨s, f, u⟩ := d
  obtain ⟨t, g, v⟩ := e
  rw [run_neq_struct]
  simp only [Duty.same]
  have := dutyHeld
  go_simp
  by_cases h1 : s.toList = t.toList <;> by_cases h2 : f = g <;> by_cases h3 : u = v <;> simp [h1, h2, h3]

set_option maxRecDepth 100000 in
set_option maxHeartbeats 400000 in
theorem specSame_c (A A' : Option Addr) (n n' c c' : Nat) (xs ys : List Duty) (w : World) (h : Sl w w.heap.size 3 A n (xs.flatMap Duty.cells)) (h' : Sl w w.heap.size 3 A' n' (ys.flatMap Duty.cells)) (hm : n ≤ maxLen) (hm' : n' ≤ maxLen) :
    Calls Try.prog 10 #[.slice A n c, .slice A' n' c'] w fun e w' => e = .returned (.bool (decide (xs = ys))) ∧ Below w.heap.size w w' := by
  unfold maxLen at hm hm'
  have l1 := h.len Duty.cells 3 Duty.cells_len (by omega)
  have l2 := h'.len Duty.cells 3 Duty.cells_len (by omega)
  have L1 := Lib.hid l1; clear l1
  have L2 := Lib.hid l2; clear l2
  by_cases hnn : n = n'
  · subst hnn
    go_enter Try.func10, Try.ntmps10
    go_wp2
    go_loopw [5] (fun i wr => ∃ k : Nat, k ≤ n ∧ i = .int .i64 k ∧ xs.take k = ys.take k ∧ Below w.heap.size w wr) (fun i _ => n - (intOf i).toNat)
    case atStart => exact ⟨0, Nat.zero_le _, rfl, rfl, Below.refl _ _⟩
    case round =>
      obtain ⟨k, hk, rfl, ht, hbw⟩ := hrel
      have Ht := Lib.hid ht; clear ht
      by_cases hlt : k < n
      · obtain ⟨b, off, d, rfl, hb, hd, c1, c2, c3⟩ := h.duty k hlt
        obtain ⟨b', off', d', rfl, hb', hd', c1', c2', c3'⟩ := h'.duty k hlt
        have Hd := Lib.hid hd; clear hd
        have Hd' := Lib.hid hd'; clear hd'
        have j1 : (0 : Int) ≤ (k : Int) := by omega
        have j2 : (k : Int) < (n : Int) := by omega
        have q1 := keepC hbw b hb
        have q2 := keepC hbw b' hb'
        have hq := neq_duty d d'
        have hg := dutyGuard
        have hse := Duty.same_eq d d'
        have Hse := Lib.hid hse; clear hse
        go_wp2
        go_quiet (fail)
        go_wp2
        · go_ret
          rw [Hse.out] at *
          exact ⟨ret_eq (bool_eq (decide_eq_false (ne_of_next Hd.out Hd'.out (by simp_all))).symm), below_drewN hbw _⟩
        · go_roundw
          case rel =>
            rw [Hse.out] at *
            exact ⟨k + 1, by omega, by go_num, take_eq_next Ht.out Hd.out Hd'.out (by simp_all), below_drewN hbw _⟩
          case measure => simp [intOf]; omega
      · go_wp2
        go_ret
        obtain rfl : k = n := by omega
        have ht := Ht.out
        rw [List.take_of_length_le (by rw [L1.out]; omega), List.take_of_length_le (by rw [L2.out]; omega)] at ht
        exact ⟨ret_eq (bool_eq (decide_eq_true ht).symm), hbw⟩
  · go_enter Try.func10, Try.ntmps10
    go_wp2
    go_ret
    refine ⟨ret_eq (bool_eq (decide_eq_false (fun e => hnn ?_)).symm), Below.refl _ _⟩
    rw [← L1.out, ← L2.out, e]
set_option maxRecDepth 100000 in
set_option maxHeartbeats 400000 in
theorem implSame_c (A A' : Option Addr) (n n' c c' : Nat) (xs ys : List Duty) (w : World) (h : Sl w w.heap.size 3 A n (xs.flatMap Duty.cells)) (h' : Sl w w.heap.size 3 A' n' (ys.flatMap Duty.cells)) (hm : n ≤ maxLen) (hm' : n' ≤ maxLen) :
    Calls Try.prog 35 #[.slice A n c, .slice A' n' c'] w fun e w' => e = .returned (.bool (decide (xs = ys))) ∧ Below w.heap.size w w' := by
  unfold maxLen at hm hm'
  have l1 := h.len Duty.cells 3 Duty.cells_len (by omega)
  have l2 := h'.len Duty.cells 3 Duty.cells_len (by omega)
  have L1 := Lib.hid l1; clear l1
  have L2 := Lib.hid l2; clear l2
  by_cases hnn : n = n'
  · subst hnn
    go_enter Try.func35, Try.ntmps35
    go_wp2
    go_loopw [5, 13] (fun _ i wr => ∃ k : Nat, k ≤ n ∧ i = .int .i64 k ∧ xs.take k = ys.take k ∧ Below w.heap.size w wr) (fun _ i _ => n - (intOf i).toNat)
    case atStart => exact ⟨0, Nat.zero_le _, rfl, rfl, Below.refl _ _⟩
    case round =>
      obtain ⟨k, hk, rfl, ht, hbw⟩ := hrel
      have Ht := Lib.hid ht; clear ht
      by_cases hlt : k < n
      · obtain ⟨b, off, d, rfl, hb, hd, c1, c2, c3⟩ := h.duty k hlt
        obtain ⟨b', off', d', rfl, hb', hd', c1', c2', c3'⟩ := h'.duty k hlt
        have Hd := Lib.hid hd; clear hd
        have Hd' := Lib.hid hd'; clear hd'
        have j1 : (0 : Int) ≤ (k : Int) := by omega
        have j2 : (k : Int) < (n : Int) := by omega
        have q1 := keepC hbw b hb
        have q2 := keepC hbw b' hb'
        have hq := neq_duty d d'
        have hg := dutyGuard
        have hse := Duty.same_eq d d'
        have Hse := Lib.hid hse; clear hse
        go_wp2
        go_quiet (fail)
        go_wp2
        · go_ret
          rw [Hse.out] at *
          exact ⟨ret_eq (bool_eq (decide_eq_false (ne_of_next Hd.out Hd'.out (by simp_all))).symm), below_drewN hbw _⟩
        · go_roundw
          case rel =>
            rw [Hse.out] at *
            exact ⟨k + 1, by omega, by go_num, take_eq_next Ht.out Hd.out Hd'.out (by simp_all), below_drewN hbw _⟩
          case measure => simp [intOf]; omega
      · go_wp2
        go_ret
        obtain rfl : k = n := by omega
        have ht := Ht.out
        rw [List.take_of_length_le (by rw [L1.out]; omega), List.take_of_length_le (by rw [L2.out]; omega)] at ht
        exact ⟨ret_eq (bool_eq (decide_eq_true ht).symm), hbw⟩
  · go_enter Try.func35, Try.ntmps35
    go_wp2
    go_ret
    refine ⟨ret_eq (bool_eq (decide_eq_false (fun e => hnn ?_)).symm), Below.refl _ _⟩
    rw [← L1.out, ← L2.out, e]
set_option maxHeartbeats 400000 in
theorem implSameDuties_c (A A' : Option Addr) (n n' c c' : Nat) (xs ys : List Duty) (w : World) (h : Sl w w.heap.size 3 A n (xs.flatMap Duty.cells)) (h' : Sl w w.heap.size 3 A' n' (ys.flatMap Duty.cells)) (hm : n ≤ maxLen) (hm' : n' ≤ maxLen) :
    Calls Try.prog 12 #[.slice A n c, .slice A' n' c'] w fun e w' => e = .returned (.bool (decide (xs = ys))) ∧ Below w.heap.size w w' := by
  go_enter Try.func12, Try.ntmps12
  go_wp2_with (go_at_call 35; refine (implSame_c A A' n n' c c' xs ys _ h h' hm hm').mono ?_; rintro e w1 ⟨rfl, hb1⟩)
  go_ret
  exact ⟨rfl, hb1⟩
end Go.Proofs.Ytimbakjajglppaa
