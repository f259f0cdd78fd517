
/- Recognition: the reference: lit tenths, flashes, the groups that are tried. -/
import Derived.Test.YtgibbhipjpbdfaaRecP
import Derived.Test.YtgibbhipjpbdfaaCfS
import Derived.Test.YtgibbhipjpbdfaaDdRR
namespace Go.Proofs.Ytgibbhipjpbdfaa
open Go.RowKit
theorem litN_next {B : List Int} {k : Nat} {x : Int} (h : B[k]? = some x) : litN (B.take (k + 1)) = litN (B.take k) + if x ≠ 0 then 1 else 0 := by
  rw [litN, List.take_add_one, h, Option.toList_some, List.countP_append, ← litN]
  by_cases hx : x = 0
  · simp [hx]
  · simp [hx]
theorem litN_le (B : List Int) : litN B ≤ B.length := List.countP_le_length
set_option maxRecDepth 100000 in
set_option maxHeartbeats 1000000 in
theorem l06Lit_c (A : Option Addr) (n c : Nat) (B : List Int) (w : World) (h : Sl w w.heap.size 1 A n (B.flatMap u8C)) (hm : n ≤ 200000) :
    Calls Try.prog 64 #[.slice A n c] w fun e w' => e = .returned (.int .i64 (litN B : Nat)) ∧ w = w' := by
  have hl := h.len u8C 1 u8C_len (by omega)
  have Hl := Lib.hid hl; clear hl
  go_enter Try.func64, Try.ntmps64
  go_wp2
  go_loop [3, 4] (fun y i => ∃ (k m : Nat), k ≤ n ∧ i = .int .i64 k ∧ y = .int .i64 m ∧ m ≤ k ∧ Hid (litN (B.take k) = m)) (fun _ i => n - (intOf i).toNat)
  case atStart => exact ⟨0, 0, Nat.zero_le _, rfl, rfl, Nat.le_refl _, Lib.hid rfl⟩
  case round =>
    obtain ⟨k, m, hk, rfl, rfl, hmk, Hm⟩ := hrel
    by_cases hlt : k < n
    · obtain ⟨b, off, x, rfl, hb, hx, cx⟩ := h.u8 k hlt
      have hnx := litN_next hx
      have i0 : (0 : Int) ≤ (k : Int) := by omega
      have i1 : (k : Int) < (n : Int) := by omega
      have Hx := Lib.hid hx; clear hx
      by_cases h0 : x = 0
      · subst h0
        have Hnx := Lib.hid hnx; clear hnx
        go_wp2
        go_round
        case rel => exact ⟨k + 1, m, by omega, by go_num, rfl, by omega, Lib.hid (by rw [Hnx.out, Hm.out]; simp)⟩
        case measure => simp [intOf]; omega
      · have hx0 : (x != 0) = true := by simpa using h0
        have hx1 : (x == 0) = false := by simpa using h0
        have Hnx := Lib.hid hnx; clear hnx
        have H0 := Lib.hid h0; clear h0
        go_wp2
        go_round
        case rel => exact ⟨k + 1, m + 1, by omega, by go_num, by go_num, by omega, Lib.hid (by rw [Hnx.out, Hm.out, if_pos H0.out])⟩
        case measure => simp [intOf]; omega
    · obtain rfl : k = n := by omega
      have hm2 := Hm.out
      rw [List.take_of_length_le (by rw [Hl.out]; omega)] at hm2
      have Hm2 := Lib.hid hm2; clear hm2
      go_wp2
      go_ret
      exact ⟨ret_eq (int_eq (by rw [Hm2.out])), rfl⟩
theorem rise_next (B : List Int) (k : Nat) : (List.range (k + 1)).countP (riseAt B) = (List.range k).countP (riseAt B) + if riseAt B k = true then 1 else 0 := by
  rw [List.range_succ, List.countP_append]
  cases hr : riseAt B k <;> simp [hr]
set_option maxRecDepth 100000 in
set_option maxHeartbeats 1000000 in
theorem l06Flashes_c (A : Option Addr) (n c : Nat) (B : List Int) (w : World) (h : Sl w w.heap.size 1 A n (B.flatMap u8C)) (hm : n ≤ 200000) :
    Calls Try.prog 66 #[.slice A n c] w fun e w' => e = .returned (.int .i64 (flashB B : Nat)) ∧ w = w' := by
  have hl := h.len u8C 1 u8C_len (by omega)
  rw [flash_count, hl]
  have Hl := Lib.hid hl; clear hl
  go_enter Try.func66, Try.ntmps66
  go_wp2
  go_loop [3, 4] (fun y i => ∃ (k m : Nat), k ≤ n ∧ i = .int .i64 k ∧ y = .int .i64 m ∧ m ≤ k ∧ Hid ((List.range k).countP (riseAt B) = m)) (fun _ i => n - (intOf i).toNat)
  case atStart => exact ⟨0, 0, Nat.zero_le _, rfl, rfl, Nat.le_refl _, Lib.hid rfl⟩
  case round =>
    obtain ⟨k, m, hk, rfl, rfl, hmk, Hm⟩ := hrel
    by_cases hlt : k < n
    · obtain ⟨j, hj⟩ : ∃ j, (k + n - 1) % n = j := ⟨_, rfl⟩
      have hjn : j < n := by rw [← hj]; exact Nat.mod_lt _ (by omega)
      obtain ⟨b, off, x, rfl, hb, hx, cx⟩ := h.u8 k hlt
      obtain ⟨b2, off2, y, e2, _, hy, cy⟩ := h.u8 j hjn
      injection e2 with e2
      injection e2 with e3 e4 _
      subst e3 e4
      have hjt : ((k : Int) + (n : Int) - 1).tmod (n : Int) = (j : Int) := by
        rw [Int.tmod_eq_emod_of_nonneg (by omega), ← hj]
        have : ((k : Int) + (n : Int) - 1) = ((k + n - 1 : Nat) : Int) := by omega
        rw [this]; exact (Int.natCast_emod _ _).symm
      have hjt2 : ((k : Int) + (n : Int) - 1) % (n : Int) = (j : Int) := by
        rw [← hjt, Int.tmod_eq_emod_of_nonneg (by omega)]
      have hn0 : ¬ (n : Int) = 0 := by omega
      have hra : riseAt B k = (decide (x ≠ 0) && decide (y = 0)) := by
        rw [riseAt, Hl.out, hj, List.getD_eq_getElem?_getD, hx, List.getD_eq_getElem?_getD, hy]; rfl
      have hnx := rise_next B k
      rw [hra] at hnx
      have i0 : (0 : Int) ≤ (k : Int) := by omega
      have i1 : (k : Int) < (n : Int) := by omega
      have i2 : (0 : Int) ≤ (j : Int) := by omega
      have i3 : (j : Int) < (n : Int) := by omega
      have Hx := Lib.hid hx; clear hx
      have Hy := Lib.hid hy; clear hy
      have Hj := Lib.hid hj; clear hj
      have Hra := Lib.hid hra; clear hra
      by_cases h0 : x = 0
      · subst h0
        have Hnx := Lib.hid hnx; clear hnx
        go_wp2
        go_round
        case rel => exact ⟨k + 1, m, by omega, by go_num, rfl, by omega, Lib.hid (by rw [Hnx.out, Hm.out]; simp)⟩
        case measure => simp [intOf]; omega
      · have hx0 : (x != 0) = true := by simpa using h0
        have hx1 : (x == 0) = false := by simpa using h0
        have H0 := Lib.hid h0; clear h0
        by_cases h1 : y = 0
        · subst h1
          have Hnx := Lib.hid hnx; clear hnx
          go_wp2
          go_round
          case rel => exact ⟨k + 1, m + 1, by omega, by go_num, by go_num, by omega, Lib.hid (by rw [Hnx.out, Hm.out, decide_eq_true H0.out]; simp)⟩
          case measure => simp [intOf]; omega
        · have hy1 : (y == 0) = false := by simpa using h1
          have H1 := Lib.hid h1; clear h1
          have Hnx := Lib.hid hnx; clear hnx
          go_wp2
          go_round
          case rel => exact ⟨k + 1, m, by omega, by go_num, rfl, by omega, Lib.hid (by rw [Hnx.out, Hm.out, decide_eq_false H1.out]; simp)⟩
          case measure => simp [intOf]; omega
    · obtain rfl : k = n := by omega
      go_wp2
      go_ret
      exact ⟨ret_eq (int_eq (by rw [Hm.out])), rfl⟩
set_option maxHeartbeats 400000 in
theorem l06Dark_c (A : Option Addr) (n c : Nat) (B : List Int) (w : World) (h : Sl w w.heap.size 1 A n (B.flatMap u8C)) (hm : n ≤ 200000) :
    Calls Try.prog 30 #[.slice A n c] w fun e w' => e = .returned (.int .i64 (flashB B : Nat)) ∧ w = w' := by
  go_enter Try.func30, Try.ntmps30
  go_wp2_with (go_at_call 66; refine (l06Flashes_c A n c B _ h hm).mono ?_; rintro e w1 ⟨rfl, rfl⟩)
  go_ret
  exact ⟨rfl, rfl⟩
end Go.Proofs.Ytgibbhipjpbdfaa
