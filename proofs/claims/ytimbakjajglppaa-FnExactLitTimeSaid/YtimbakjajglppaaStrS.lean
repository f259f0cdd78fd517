/- The laws' own functions over []string. -/
import Derived.Test.YtimbakjajglppaaMark
namespace Go.Proofs.Ytimbakjajglppaa
open Go.RowKit
theorem strInfo : (Try.prog.info? 9).map (fun i => (i.zero, i.size, i.bytes)) = some (some (.string ByteArray.empty), 1, 16) := by kernel_rfl
set_option maxHeartbeats 400000 in
theorem szStringS_c (A : Option Addr) (n c : Nat) (xs : List ByteArray) (left : Int) (w : World) (h : Sl w w.heap.size 1 A n (xs.flatMap strC)) (hm : n ≤ maxLen)
    (hs : ∀ s ∈ xs, s.size ≤ maxLen) (h0 : 0 ≤ left) (h1 : left ≤ 1048576) :
    Calls Try.prog 14 #[.slice A n c, .int .i64 left] w fun e w' => ∃ r : Int, e = .returned (.int .i64 r) ∧ (r = -1 ∨ 0 ≤ r ∧ r ≤ left ∧ n ≤ left) ∧ Below w.heap.size w w' := by
  unfold maxLen at hm
  go_enter Try.func14, Try.ntmps14
  go_wp2
  · go_ret
    exact ⟨-1, rfl, .inl rfl, by (repeat (first | (with_reducible assumption) | (with_reducible exact Below.refl _ _) | exact Nat.le_refl _ | exact Below.size (by with_reducible assumption) | (with_reducible refine Below.drew ?_) | (with_reducible refine below_drewN ?_ _) | (with_reducible refine Below.alloc ?_ ?_ _) | (with_reducible refine Below.setCell ?_ ?_ _) | (with_reducible refine le_alloc ?_ _) | (with_reducible refine le_set ?_ _ _) | (with_reducible refine le_drew ?_) | (with_reducible refine le_drewN ?_ _) | omega | (dsimp only; omega)))⟩
  · go_loopw [1, 5] (fun l i wr => ∃ (k : Nat) (r : Int), k ≤ n ∧ i = .int .i64 k ∧ l = .int .i64 r ∧ 0 ≤ r ∧ r ≤ left - n ∧ Below w.heap.size w wr) (fun _ i _ => n - (intOf i).toNat)
    case atStart => exact ⟨0, _, Nat.zero_le _, rfl, rfl, by omega, by omega, Below.refl _ _⟩
    case round =>
      obtain ⟨k, r, hk, rfl, rfl, hr0, hr1, hbw⟩ := hrel
      by_cases hlt : k < n
      · obtain ⟨b, off, s, rfl, hb, hd, c1⟩ := h.str k hlt
        have hds := hs s (List.mem_of_getElem? hd)
        unfold maxLen at hds
        have r1 := keepC hbw b hb
        have Hd := Lib.hid hd; clear hd
        go_wp2
        · go_ret
          exact ⟨-1, rfl, .inl rfl, hbw⟩
        · go_roundw
          case rel => exact ⟨k + 1, _, by omega, by go_num, rfl, by omega, by omega, hbw⟩
          case measure => simp [intOf]; omega
      · go_wp2
        go_ret
        exact ⟨r, rfl, .inr ⟨by omega, by omega, by omega⟩, hbw⟩

set_option maxRecDepth 100000 in
set_option maxHeartbeats 400000 in
theorem toStringS_c (A : Option Addr) (n c : Nat) (xs : List ByteArray) (w : World) (h : Sl w w.heap.size 1 A n (xs.flatMap strC)) (hm : n ≤ 1048576) :
    Calls Try.prog 16 #[.slice A n c] w fun e w' => ∃ v, e = .returned v ∧ w'.ownsRow w.heap.size 9 1 v n (xs.flatMap strC) ∧ Below w.heap.size w w' := by
  obtain ⟨i0, hi, hz0, hz1, hz2⟩ := info_parts strInfo
  have hln := h.len strC 1 strC_len (by omega)
  have hB : i0.bytes * n ≤ 281474976710656 := by rw [hz2]; omega
  have hM : n ≤ maxLen := by unfold maxLen; omega
  have Hln := Lib.hid hln; clear hln
  have HB := Lib.hid hB; clear hB
  have HM := Lib.hid hM; clear hM
  go_enter Try.func16, Try.ntmps16
  go_wp2_with (at_make; refine wpList_make_full _ rfl _ _ _ rfl w.heap.size 9 i0 _ 1 Try.underlying28 hi hz0 hz1 _ _ _ _ n rfl rfl rfl rfl HB.out HM.out (Nat.le_refl _) ?_; intro w1 hown hgr)
  have hb0 : Below w.heap.size w w1 := (Below.refl _ _).grown hgr (Nat.le_refl _) (by simp)
  clear hgr
  go_loopw [4] (fun i wr => ∃ (k : Nat) (ys : List Value), k ≤ n ∧ i = .int .i64 k ∧ wr.ownsRow w.heap.size 9 1 (.slice (some ⟨w.heap.size, 0, none⟩) n n) n ys ∧ ys.take (k * 1) = (xs.take k).flatMap strC ∧ Below w.heap.size w wr) (fun i _ => n - (intOf i).toNat)
  case atStart => exact ⟨0, _, Nat.zero_le _, rfl, hown, by simp, hb0⟩
  case round =>
    clear hown hb0
    obtain ⟨k, ys, hk, rfl, hown, hys, hbw⟩ := hrel
    by_cases hlt : k < n
    · obtain ⟨b, off, d, rfl, hb, hd, c1⟩ := h.str k hlt
      have hyl := hown.1
      have q1 := keepC hbw b hb
      obtain ⟨y0, f0⟩ := own_cell hown k (by omega)
      have f3 := hown.frozenAt
      have Hd := Lib.hid hd; clear hd
      have Hys := Lib.hid hys; clear hys
      have Hyl := Lib.hid hyl; clear hyl
      go_wp2
      go_roundw
      case rel =>
        refine ⟨k + 1, setAll ys (k * 1) (strC d), by omega, by go_num, ?_, ?_, hbw.setCell (Nat.le_refl _) _⟩
        · have := (hown.stored k (.string d)).1
          rw [Nat.mul_one]; exact this
        · rw [setAll_take Hyl.out hlt (strC_len d), Hys.out, List.take_add_one, Hd.out]
          simp
      case measure => simp [intOf]; omega
    · go_wp2
      go_ret
      obtain rfl : k = n := by omega
      have hyl := hown.1
      rw [List.take_of_length_le (by omega), List.take_of_length_le (by rw [Hln.out]; omega)] at hys
      subst hys
      exact ⟨_, rfl, hown, hbw⟩

set_option maxRecDepth 100000 in
set_option maxHeartbeats 400000 in
theorem eqStringS_c (A A' : Option Addr) (n c c' : Nat) (xs : List ByteArray) (w : World) (h : Sl w w.heap.size 1 A n (xs.flatMap strC)) (h' : Sl w w.heap.size 1 A' n (xs.flatMap strC)) (hm : n ≤ maxLen) :
    Calls Try.prog 18 #[.slice A n c, .slice A' n c'] w fun e w' => e = .returned (.bool true) ∧ Below w.heap.size w w' := by
  unfold maxLen at hm
  go_enter Try.func18, Try.ntmps18
  go_wp2
  go_loopw [5] (fun i wr => ∃ k : Nat, k ≤ n ∧ i = .int .i64 k ∧ Below w.heap.size w wr) (fun i _ => n - (intOf i).toNat)
  case atStart => exact ⟨0, Nat.zero_le _, rfl, Below.refl _ _⟩
  case round =>
    obtain ⟨k, hk, rfl, hbw⟩ := hrel
    by_cases hlt : k < n
    · obtain ⟨b, off, d, rfl, hb, hd, c1⟩ := h.str k hlt
      obtain ⟨b', off', d', rfl, hb', hd', c1'⟩ := h'.str k hlt
      obtain rfl : d = d' := by rw [hd] at hd'; exact Option.some.inj hd'
      clear hd'
      have Hd := Lib.hid hd; clear hd
      have j1 : (0 : Int) ≤ (k : Int) := by omega
      have j2 : (k : Int) < (n : Int) := by omega
      have q1 := keepC hbw b hb
      have q2 := keepC hbw b' hb'
      go_wp2
      go_quiet (fail)
      go_wp2
      go_roundw
      case rel => exact ⟨k + 1, by omega, by go_num, by (repeat (first | (with_reducible assumption) | (with_reducible exact Below.refl _ _) | exact Nat.le_refl _ | exact Below.size (by with_reducible assumption) | (with_reducible refine Below.drew ?_) | (with_reducible refine below_drewN ?_ _) | (with_reducible refine Below.alloc ?_ ?_ _) | (with_reducible refine Below.setCell ?_ ?_ _) | (with_reducible refine le_alloc ?_ _) | (with_reducible refine le_set ?_ _ _) | (with_reducible refine le_drew ?_) | (with_reducible refine le_drewN ?_ _) | omega | (dsimp only; omega)))⟩
      case measure => simp [intOf]; omega
    · go_wp2
      go_ret
      exact ⟨rfl, hbw⟩

def markStrs (k n : Nat) : List ByteArray := (List.range n).map fun i => markT (k + i)
theorem markStrs_next (k n : Nat) : markStrs k (n + 1) = markStrs k n ++ [markT (k + n)] := by simp [markStrs, List.range_succ]
set_option maxRecDepth 100000 in
set_option maxHeartbeats 400000 in
theorem markStringS_c (A : Option Addr) (n c k0 base : Nat) (ys0 : List Value) (w : World) (hown0 : w.ownsRow base 9 1 (.slice A n c) n ys0) (hm : n ≤ 1048576) (hk0 : 0 < k0) (hk1 : k0 ≤ 10000000) :
    Calls Try.prog 19 #[.slice A n c, .int .i64 k0] w fun e w' => e = .returned (.int .i64 (k0 + n : Nat)) ∧ w'.ownsRow base 9 1 (.slice A n c) n ((markStrs k0 n).flatMap strC) ∧ w.grownBy w' (Value.slice A n c).ownBlock := by
  go_enter Try.func19, Try.ntmps19
  go_wp2
  go_loopw [1, 5] (fun q i wr => ∃ (k : Nat) (ys : List Value), k ≤ n ∧ i = .int .i64 k ∧ q = .int .i64 (k0 + k : Nat) ∧ wr.ownsRow base 9 1 (.slice A n c) n ys ∧ ys.take (k * 1) = (markStrs k0 k).flatMap strC ∧ w.grownBy wr (Value.slice A n c).ownBlock) (fun _ i _ => n - (intOf i).toNat)
  case atStart => exact ⟨0, _, Nat.zero_le _, rfl, rfl, hown0, by simp [markStrs], grown_refl _ _⟩
  case round =>
    obtain ⟨k, ys, hk, rfl, rfl, hown, hys, hgw⟩ := hrel
    by_cases hlt : k < n
    · obtain ⟨g, rfl, hg1, hg2⟩ := own_form hown (by omega)
      have hyl := hown.1
      have Hys := Lib.hid hys; clear hys
      have Hyl := Lib.hid hyl; clear hyl
      go_wp2_with (go_at_call 44; refine (markText_c (k0 + k) _ (by omega) (by omega)).mono ?_; rintro e w2 ⟨rfl, hb1⟩; have ho2 := own_next hown hb1; obtain ⟨y0, f0⟩ := own_cell ho2 k (by omega); have f3 := ho2.frozenAt)
      go_roundw
      case rel =>
        have hst := ho2.stored k (.string (markT (k0 + k)))
        refine ⟨k + 1, setAll ys (k * 1) (strC (markT (k0 + k))), by omega, by go_num, by go_num, ?_, ?_, grown_trans (grown_trans hgw (grown_of_below hb1)) hst.2⟩
        · rw [Nat.mul_one]; exact hst.1
        · rw [setAll_take Hyl.out hlt (strC_len _), Hys.out, markStrs_next]
          simp
      case measure => simp [intOf]; omega
    · go_wp2
      go_ret
      obtain rfl : k = n := by omega
      have hyl := hown.1
      rw [List.take_of_length_le (by omega)] at hys
      subst hys
      exact ⟨rfl, hown, hgw⟩
end Go.Proofs.Ytimbakjajglppaa
