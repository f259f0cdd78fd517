/- toDutyS, and the two sides' SameDuties. -/
import Derived.Test.YtimbakjajglppaaDuty1
namespace Go.Proofs.Ytimbakjajglppaa
open Go.RowKit
theorem dutyInfo : (Try.prog.info? 50).map (fun i => (i.zero, i.size, i.bytes)) = some (some (.agg #[.string ByteArray.empty, .int .i64 0, .int .i64 0]), 3, 32) := by kernel_rfl

theorem set3_take {ys : List Value} {n k : Nat} (hl : ys.length = n * 3) (hk : k < n) (a b c : Value) :
    (((ys.set (k * 3) a).set (k * 3 + 1) b).set (k * 3 + 2) c).take ((k + 1) * 3) = ys.take (k * 3) ++ [a, b, c] := by
  apply List.ext_getElem?
  intro j
  rw [List.getElem?_take, List.getElem?_append]
  simp only [List.length_take, hl, List.getElem?_set, List.length_set, List.getElem?_take]
  have e : min (k * 3) (n * 3) = k * 3 := by omega
  rw [e]
  by_cases h1 : j < k * 3
  · rw [if_pos (by omega), if_neg (by omega), if_neg (by omega), if_neg (by omega), if_pos h1, if_pos h1]
  · rw [if_neg h1]
    by_cases h2 : j < (k + 1) * 3
    · rw [if_pos h2]
      rcases (show j = k * 3 ∨ j = k * 3 + 1 ∨ j = k * 3 + 2 by omega) with rfl | rfl | rfl
      · rw [if_neg (by omega), if_neg (by omega), if_pos rfl, if_pos (by omega)]; simp
      · rw [if_neg (by omega), if_pos rfl, if_pos (by omega)]; simp
      · rw [if_pos rfl, if_pos (by omega)]; simp
    · rw [if_neg h2, List.getElem?_eq_none (by simp; omega)]

set_option maxHeartbeats 400000 in
set_option maxRecDepth 10000 in
theorem toDutyS_c (A : Option Addr) (n c : Nat) (xs : List Duty) (w : World) (h : Sl w w.heap.size 3 A n (xs.flatMap Duty.cells)) (hm : n ≤ 1048576) :
    Calls Try.prog 11 #[.slice A n c] w fun e w' => ∃ v, e = .returned v ∧ w'.ownsRow w.heap.size 50 3 v n (xs.flatMap Duty.cells) ∧ Below w.heap.size w w' := by
  obtain ⟨i0, hi, hz0, hz1, hz2⟩ := info_parts dutyInfo
  have hln := h.len Duty.cells 3 Duty.cells_len (by omega)
  have hB : i0.bytes * n ≤ 281474976710656 := by rw [hz2]; omega
  have hM : n ≤ maxLen := by unfold maxLen; omega
  have Hln := Lib.hid hln; clear hln
  have HB := Lib.hid hB; clear hB
  have HM := Lib.hid hM; clear hM
  go_enter Try.func11, Try.ntmps11
  go_wp2_with (at_make; refine wpList_make_full _ rfl _ _ _ rfl w.heap.size 50 i0 _ 3 Try.underlying25 hi hz0 hz1 _ _ _ _ n rfl rfl rfl rfl HB.out HM.out (Nat.le_refl _) ?_; intro w1 hown hgr)
  have hb0 : Below w.heap.size w w1 := (Below.refl _ _).grown hgr (Nat.le_refl _) (by simp)
  clear hgr
  go_loopw [4] (fun i wr => ∃ (k : Nat) (ys : List Value), k ≤ n ∧ i = .int .i64 k ∧ wr.ownsRow w.heap.size 50 3 (.slice (some ⟨w.heap.size, 0, none⟩) n n) n ys ∧ ys.take (k * 3) = (xs.take k).flatMap Duty.cells ∧ Below w.heap.size w wr) (fun i _ => n - (intOf i).toNat)
  case atStart => exact ⟨0, _, Nat.zero_le _, rfl, hown, by simp, hb0⟩
  case round =>
    clear hown hb0
    obtain ⟨k, ys, hk, rfl, hown, hys, hbw⟩ := hrel
    by_cases hlt : k < n
    · obtain ⟨b, off, d, rfl, hb, hd, c1, c2, c3⟩ := h.duty k hlt
      have hyl := hown.1
      have q1 := keepC hbw b hb
      have z0 : w.heap.size < wr.heap.size := (hown.lt _ rfl).2
      have Hd := Lib.hid hd; clear hd
      have Hys := Lib.hid hys; clear hys
      have Hyl := Lib.hid hyl; clear hyl
      go_wp2_with (go_at_call 34; refine (toDuty_c d _).mono ?_; rintro e w2 ⟨rfl, hb1⟩; have ho2 := own_next hown hb1; obtain ⟨y0, f0⟩ := own_cell ho2 (k * 3) (by omega); obtain ⟨y1, f1⟩ := own_cell ho2 (k * 3 + 1) (by omega); obtain ⟨y2, f2⟩ := own_cell ho2 (k * 3 + 2) (by omega); have f3 := ho2.frozenAt)
      go_roundw
      case rel =>
        refine ⟨k + 1, _, by omega, by go_num, (((ho2.stored _ _).1.stored _ _).1.stored _ _).1, ?_, (((hbw.trans (hb1.mono hbw.size)).setCell (Nat.le_refl _) _).setCell (Nat.le_refl _) _).setCell (Nat.le_refl _) _⟩
        rw [set3_take Hyl.out hlt, Hys.out, List.take_add_one, Hd.out]
        simp [Duty.cells]
      case measure => simp [intOf]; omega
    · go_wp2
      go_ret
      obtain rfl : k = n := by omega
      have hyl := hown.1
      rw [List.take_of_length_le (by omega), List.take_of_length_le (by rw [Hln.out]; omega)] at hys
      subst hys
      exact ⟨_, rfl, hown, hbw⟩
end Go.Proofs.Ytimbakjajglppaa
