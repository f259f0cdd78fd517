
/- Characters: the reference's small functions. -/
import Derived.Test.YtgibbhipjpbdfaaGreatCh
import Derived.Test.YtgibbhipjpbdfaaGreatChLaw
namespace Go.Proofs.YtgibbhipjpbdfaaGreat
open Go.RowKit
set_option maxHeartbeats 400000 in
theorem l05Flash_c (n : Int) (w : World) : Calls Tryz.prog 81 #[.int .i64 n] w fun e w' => e = .returned (.int .i64 (flashI n)) ∧ w = w' := by
  go_enter Tryz.func81, Tryz.ntmps81
  go_wp2
  all_goals
    go_ret
    exact ⟨ret_eq (int_eq (by simp_all [flashI])), rfl⟩
set_option maxHeartbeats 400000 in
theorem l05Gap_c (n : Int) (w : World) : Calls Tryz.prog 80 #[.int .i64 n] w fun e w' => e = .returned (.int .i64 (gapI n)) ∧ w = w' := by
  go_enter Tryz.func80, Tryz.ntmps80
  go_wp2
  all_goals
    go_ret
    exact ⟨ret_eq (int_eq (by simp_all [gapI])), rfl⟩
theorem sum_abs : ∀ {gs : List Int}, (∀ x ∈ gs, -1000000 ≤ x ∧ x ≤ 1000000) → -1000000 * gs.length ≤ gs.sum ∧ gs.sum ≤ 1000000 * gs.length
  | [], _ => by simp
  | x :: gs, h => by
    have h1 := sum_abs (gs := gs) fun y hy => h y (List.mem_cons_of_mem _ hy)
    have h2 := h x List.mem_cons_self
    simp only [List.length_cons, List.sum_cons]
    omega
set_option maxRecDepth 100000 in
set_option maxHeartbeats 400000 in
theorem l05Total_c (A : Option Addr) (n c : Nat) (gs : List Int) (w : World) (h : Sl w w.heap.size 1 A n (gs.flatMap intC)) (hm : n ≤ 1048576) (hb : ∀ x ∈ gs, -1000000 ≤ x ∧ x ≤ 1000000) :
    Calls Tryz.prog 54 #[.slice A n c] w fun e w' => e = .returned (.int .i64 gs.sum) ∧ w = w' := by
  have hl := h.len intC 1 intC_len (by omega)
  have Hl := Lib.hid hl; clear hl
  go_enter Tryz.func54, Tryz.ntmps54
  go_wp2
  go_loop [3, 4] (fun t i => ∃ k : Nat, k ≤ n ∧ i = .int .i64 k ∧ t = .int .i64 (gs.take k).sum) (fun _ i => n - (intOf i).toNat)
  case atStart => exact ⟨0, Nat.zero_le _, rfl, rfl⟩
  case round =>
    obtain ⟨k, hk, rfl, rfl⟩ := hrel
    by_cases hlt : k < n
    · obtain ⟨b, off, x, rfl, hbb, hx, c1⟩ := h.int k hlt
      have hsa := sum_abs (gs := gs.take k) fun y hy => hb y (List.mem_of_mem_take hy)
      rw [List.length_take_of_le (by rw [Hl.out]; omega)] at hsa
      have hxb := hb x (List.mem_of_getElem? hx)
      obtain ⟨u1, u2⟩ := hsa
      obtain ⟨u3, u4⟩ := hxb
      have Hx := Lib.hid hx; clear hx
      go_wp2
      go_round
      case rel => exact ⟨k + 1, by omega, by go_num, int_eq (by rw [sum_next Hx.out])⟩
      case measure => simp [intOf]; omega
    · go_wp2
      go_ret
      exact ⟨ret_eq (int_eq (by rw [List.take_of_length_le (by rw [Hl.out]; omega)])), rfl⟩
def sumG (gs : List Int) : Int := if gs = [] then 1 else gs.sum
set_option maxRecDepth 100000 in
set_option maxHeartbeats 400000 in
theorem l05Sum_c (A : Option Addr) (n c : Nat) (gs : List Int) (w : World) (h : Sl w w.heap.size 1 A n (gs.flatMap intC)) (hm : n ≤ 1048576) (hb : ∀ x ∈ gs, -1000000 ≤ x ∧ x ≤ 1000000) :
    Calls Tryz.prog 78 #[.slice A n c] w fun e w' => e = .returned (.int .i64 (sumG gs)) ∧ w = w' := by
  have hl := h.len intC 1 intC_len (by omega)
  rcases Nat.eq_zero_or_pos n with h0 | h0
  · subst h0
    obtain rfl := List.eq_nil_of_length_eq_zero hl
    go_enter Tryz.func78, Tryz.ntmps78
    go_wp2
    go_ret
    exact ⟨rfl, rfl⟩
  · have e0 : sumG gs = gs.sum := by rw [sumG, if_neg (fun e => by rw [e] at hl; simp at hl; omega)]
    rw [e0]
    have hz : ((n : Int) == 0) = false := by simp; omega
    have Hl := Lib.hid hl; clear hl
    clear e0
    go_enter Tryz.func78, Tryz.ntmps78
    go_wp2
    go_loop [3, 4] (fun t i => ∃ k : Nat, k ≤ n ∧ i = .int .i64 k ∧ t = .int .i64 (gs.take k).sum) (fun _ i => n - (intOf i).toNat)
    case atStart => exact ⟨0, Nat.zero_le _, rfl, rfl⟩
    case round =>
      obtain ⟨k, hk, rfl, rfl⟩ := hrel
      by_cases hlt : k < n
      · obtain ⟨b, off, x, rfl, hbb, hx, c1⟩ := h.int k hlt
        have hsa := sum_abs (gs := gs.take k) fun y hy => hb y (List.mem_of_mem_take hy)
        rw [List.length_take_of_le (by rw [Hl.out]; omega)] at hsa
        have hxb := hb x (List.mem_of_getElem? hx)
        obtain ⟨u1, u2⟩ := hsa
        obtain ⟨u3, u4⟩ := hxb
        have Hx := Lib.hid hx; clear hx
        go_wp2
        go_round
        case rel => exact ⟨k + 1, by omega, by go_num, int_eq (by rw [sum_next Hx.out])⟩
        case measure => simp [intOf]; omega
      · go_wp2
        go_ret
        exact ⟨ret_eq (int_eq (by rw [List.take_of_length_le (by rw [Hl.out]; omega)])), rfl⟩
theorem good_mem {gs : List Int} (h : ∀ i, i < gs.length → goodG gs i = true) : ∀ x ∈ gs, 1 ≤ x ∧ x ≤ 9 := fun x hx => by
  obtain ⟨i, hi⟩ := List.mem_iff_getElem?.1 hx
  have := h i (List.getElem?_eq_some_iff.1 hi).1
  rw [goodG_at hi] at this
  exact inB_iff.1 this
set_option maxRecDepth 100000 in
set_option maxHeartbeats 1000000 in
theorem l05Group_c (A : Option Addr) (n c : Nat) (gs : List Int) (w : World) (h : Sl w w.heap.size 1 A n (gs.flatMap intC)) (hm : n ≤ 1048576) :
    Calls Tryz.prog 51 #[.slice A n c] w fun e w' => e = .returned (.bool (groupB gs)) ∧ w = w' := by
  have hl := h.len intC 1 intC_len (by omega)
  have Hl := Lib.hid hl; clear hl
  go_enter Tryz.func51, Tryz.ntmps51
  go_wp2
  go_loop [3] (fun i => ∃ k : Nat, k ≤ n ∧ i = .int .i64 k ∧ ∀ j, j < k → goodG gs j = true) (fun i => n - (intOf i).toNat)
  case atStart => exact ⟨0, Nat.zero_le _, rfl, fun j hj => absurd hj (by omega)⟩
  case round =>
    obtain ⟨k, hk, rfl, hok⟩ := hrel
    have Hok := Lib.hid hok; clear hok
    by_cases hlt : k < n
    · obtain ⟨b, off, x, rfl, hbb, hx, c1⟩ := h.int k hlt
      have hga := goodG_at hx
      have Hx := Lib.hid hx; clear hx
      have Hga := Lib.hid hga; clear hga
      cases hin : inB x 1 9
      · go_wp2_with (first | (go_at_call 77; refine (l00In_c _ _ _ _).mono ?_; rintro e w1 ⟨rfl, rfl⟩))
        go_ret
        exact ⟨ret_eq (bool_eq (by rw [groupB, allB_no (k := k) (by rw [Hl.out]; exact hlt) (by rw [Hga.out, hin])]; rfl)), rfl⟩
      · go_wp2_with (first | (go_at_call 77; refine (l00In_c _ _ _ _).mono ?_; rintro e w1 ⟨rfl, rfl⟩))
        go_round
        case rel => exact ⟨k + 1, by omega, by go_num, all_next Hok.out (by rw [Hga.out, hin])⟩
        case measure => simp [intOf]; omega
    · obtain rfl : k = n := by omega
      have hall : ∀ j, j < gs.length → goodG gs j = true := by rw [Hl.out]; exact Hok.out
      have hgb : groupB gs = (decide (gs.length ≤ 4) && (decide (gs.sum ≤ 12) && !decide (gs = [1]))) := by rw [groupB, allB_iff.2 hall, Bool.true_and]
      have hmem := good_mem hall
      have hb : ∀ x ∈ gs, -1000000 ≤ x ∧ x ≤ 1000000 := fun x hx => by have := hmem x hx; omega
      have Hgb := Lib.hid hgb; clear hgb
      have Hmem := Lib.hid hmem; clear hmem
      have Hb := Lib.hid hb; clear hb
      clear hall
      by_cases h4 : k ≤ 4
      · by_cases h1 : k = 1
        · subst h1
          obtain ⟨x, hgx⟩ : ∃ x, gs = [x] := List.length_eq_one_iff.1 Hl.out
          obtain ⟨b, off, x', rfl, hbb, hx, c1⟩ := h.int 0 (by omega)
          have hxx : x' = x := by rw [hgx] at hx; simpa using hx.symm
          subst hxx
          have Hgx := Lib.hid hgx; clear hgx
          have Hx := Lib.hid hx; clear hx
          rw [Nat.add_zero] at c1
          by_cases hx1 : x' = 1
          · subst hx1
            go_wp2_with (first | (go_at_call 78; refine (l05Sum_c _ _ _ gs _ h (by omega) Hb.out).mono ?_; rintro e w1 ⟨rfl, rfl⟩))
            go_ret
            exact ⟨ret_eq (bool_eq (by rw [Hgb.out, Hgx.out]; simp)), rfl⟩
          · have hxe : (x' == 1) = false := by simpa using hx1
            go_wp2_with (first | (go_at_call 78; refine (l05Sum_c _ _ _ gs _ h (by omega) Hb.out).mono ?_; rintro e w1 ⟨rfl, rfl⟩))
            go_ret
            exact ⟨ret_eq (bool_eq (by rw [Hgb.out, Hgx.out]; simp [sumG, hx1])), rfl⟩
        · have hk1 : ((k : Int) == 1) = false := by simp; omega
          go_wp2_with (first | (go_at_call 78; refine (l05Sum_c _ _ _ gs _ h (by omega) Hb.out).mono ?_; rintro e w1 ⟨rfl, rfl⟩))
          go_ret
          have hl := Hl.out
          refine ⟨ret_eq (bool_eq ?_), rfl⟩
          rw [Hgb.out, hl, decide_eq_true h4, show decide (gs = [1]) = false from decide_eq_false fun e => h1 (by rw [← hl, e]; rfl), sumG]
          split
          · rename_i e; subst e; simp
          · simp
      · have hk4 : ¬ (k : Int) ≤ 4 := by omega
        go_wp2
        go_ret
        exact ⟨ret_eq (bool_eq (by rw [Hgb.out, Hl.out, decide_eq_false h4]; rfl)), rfl⟩
end Go.Proofs.YtgibbhipjpbdfaaGreat
