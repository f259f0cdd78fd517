
/- The laws' own functions over []int64. -/
import Derived.Test.YtpfnnjcochhklaaGreatDoorChecked
import Derived.Test.YtpfnnjcochhklaaGreatDoorApp
namespace Go.Proofs.YtpfnnjcochhklaaGreatDoor
open Go.RowKit
theorem intInfo : (Tryz.prog.info? 2).map (fun i => (i.zero, i.size, i.bytes)) = some (some (.int .i64 0), 1, 8) := by kernel_rfl
set_option maxHeartbeats 400000 in
theorem szInt64S_c (A : Option Addr) (n c : Nat) (left : Int) (w : World) (hm : n ≤ maxLen) (h0 : 0 ≤ left) (h1 : left ≤ 1048576) :
    Calls Tryz.prog 89 #[.slice A n c, .int .i64 left] w fun e w' => ∃ r : Int, e = .returned (.int .i64 r) ∧ (r = -1 ∨ 0 ≤ r ∧ r ≤ left ∧ n ≤ left) ∧ w = w' := by
  unfold maxLen at hm
  go_enter Tryz.func89, Tryz.ntmps89
  go_wp2
  · go_ret
    exact ⟨-1, rfl, .inl rfl, rfl⟩
  · go_ret
    exact ⟨_, rfl, .inr ⟨by omega, by omega, by omega⟩, rfl⟩

set_option maxRecDepth 100000 in
set_option maxHeartbeats 400000 in
theorem toInt64S_c (A : Option Addr) (n c : Nat) (xs : List Int) (w : World) (h : Sl w w.heap.size 1 A n (xs.flatMap intC)) (hm : n ≤ 1048576) :
    Calls Tryz.prog 92 #[.slice A n c] w fun e w' => ∃ v, e = .returned v ∧ w'.ownsRow w.heap.size 2 1 v n (xs.flatMap intC) ∧ Below w.heap.size w w' := by
  obtain ⟨i0, hi, hz0, hz1, hz2⟩ := info_parts intInfo
  have hln := h.len intC 1 intC_len (by omega)
  have hB : i0.bytes * n ≤ 281474976710656 := by rw [hz2]; omega
  have hM : n ≤ maxLen := by unfold maxLen; omega
  have Hln := Lib.hid hln; clear hln
  have HB := Lib.hid hB; clear hB
  have HM := Lib.hid hM; clear hM
  go_enter Tryz.func92, Tryz.ntmps92
  go_wp2_with (at_make; refine wpList_make_full _ rfl _ _ _ rfl w.heap.size 2 i0 _ 1 Tryz.underlying30 hi hz0 hz1 _ _ _ _ n rfl rfl rfl rfl HB.out HM.out (Nat.le_refl _) ?_; intro w1 hown hgr)
  have hb0 : Below w.heap.size w w1 := (Below.refl _ _).grown hgr (Nat.le_refl _) (by simp)
  clear hgr
  go_loopw [4] (fun i wr => ∃ (k : Nat) (ys : List Value), k ≤ n ∧ i = .int .i64 k ∧ wr.ownsRow w.heap.size 2 1 (.slice (some ⟨w.heap.size, 0, none⟩) n n) n ys ∧ ys.take (k * 1) = (xs.take k).flatMap intC ∧ Below w.heap.size w wr) (fun i _ => n - (intOf i).toNat)
  case atStart => exact ⟨0, _, Nat.zero_le _, rfl, hown, by simp, hb0⟩
  case round =>
    clear hown hb0
    obtain ⟨k, ys, hk, rfl, hown, hys, hbw⟩ := hrel
    by_cases hlt : k < n
    · obtain ⟨b, off, d, rfl, hb, hd, c1⟩ := h.int k hlt
      have hyl := hown.1
      have q1 := keepC hbw b hb
      obtain ⟨y0, f0⟩ := own_cell hown k (by omega)
      have f3 := hown.frozenAt
      have Hd := Lib.hid hd; clear hd
      have Hys := Lib.hid hys; clear hys
      have Hyl := Lib.hid hyl; clear hyl
      go_wp2
      go_roundw
      case rel =>
        refine ⟨k + 1, setAll ys (k * 1) (intC d), by omega, by go_num, ?_, ?_, hbw.setCell (Nat.le_refl _) _⟩
        · have := (hown.stored k (.int .i64 d)).1
          rw [Nat.mul_one]; exact this
        · rw [setAll_take Hyl.out hlt (intC_len d), Hys.out, List.take_add_one, Hd.out]
          simp
      case measure => simp [intOf]; omega
    · go_wp2
      go_ret
      obtain rfl : k = n := by omega
      have hyl := hown.1
      rw [List.take_of_length_le (by omega), List.take_of_length_le (by rw [Hln.out]; omega)] at hys
      subst hys
      exact ⟨_, rfl, hown, hbw⟩

set_option maxRecDepth 100000 in
set_option maxHeartbeats 400000 in
theorem eqInt64S_c (A A' : Option Addr) (n c c' : Nat) (xs : List Int) (w : World) (h : Sl w w.heap.size 1 A n (xs.flatMap intC)) (h' : Sl w w.heap.size 1 A' n (xs.flatMap intC)) (hm : n ≤ maxLen) :
    Calls Tryz.prog 16 #[.slice A n c, .slice A' n c'] w fun e w' => e = .returned (.bool true) ∧ Below w.heap.size w w' := by
  unfold maxLen at hm
  go_enter Tryz.func16, Tryz.ntmps16
  go_wp2
  go_loopw [5] (fun i wr => ∃ k : Nat, k ≤ n ∧ i = .int .i64 k ∧ Below w.heap.size w wr) (fun i _ => n - (intOf i).toNat)
  case atStart => exact ⟨0, Nat.zero_le _, rfl, Below.refl _ _⟩
  case round =>
    obtain ⟨k, hk, rfl, hbw⟩ := hrel
    by_cases hlt : k < n
    · obtain ⟨b, off, d, rfl, hb, hd, c1⟩ := h.int k hlt
      obtain ⟨b', off', d', rfl, hb', hd', c1'⟩ := h'.int k hlt
      obtain rfl : d = d' := by rw [hd] at hd'; exact Option.some.inj hd'
      clear hd'
      have Hd := Lib.hid hd; clear hd
      have j1 : (0 : Int) ≤ (k : Int) := by omega
      have j2 : (k : Int) < (n : Int) := by omega
      have q1 := keepC hbw b hb
      have q2 := keepC hbw b' hb'
      go_wp2
      go_quiet (fail)
      go_wp2
      go_roundw
      case rel => exact ⟨k + 1, by omega, by go_num, by (repeat (first | (with_reducible assumption) | (with_reducible exact Below.refl _ _) | exact Nat.le_refl _ | exact Below.size (by with_reducible assumption) | (with_reducible refine Below.drew ?_) | (with_reducible refine below_drewN ?_ _) | (with_reducible refine Below.alloc ?_ ?_ _) | (with_reducible refine Below.setCell ?_ ?_ _) | (with_reducible refine le_alloc ?_ _) | (with_reducible refine le_set ?_ _ _) | (with_reducible refine le_drew ?_) | (with_reducible refine le_drewN ?_ _) | omega | (dsimp only; omega)))⟩
      case measure => simp [intOf]; omega
    · go_wp2
      go_ret
      exact ⟨rfl, hbw⟩

end Go.Proofs.YtpfnnjcochhklaaGreatDoor
