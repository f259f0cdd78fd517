/- Marks on duties. -/
import Derived.Test.YtimbakjajglppaaMark
import Derived.Test.YtimbakjajglppaaDuty1
namespace Go.Proofs.Ytimbakjajglppaa
open Go.RowKit
def markDuties (k n : Nat) : List Duty := (List.range n).map fun i => ⟨markT (k + 3 * i), (k + 3 * i + 1 : Nat), (k + 3 * i + 2 : Nat)⟩
theorem markDuties_next (k n : Nat) : markDuties k (n + 1) = markDuties k n ++ [⟨markT (k + 3 * n), (k + 3 * n + 1 : Nat), (k + 3 * n + 2 : Nat)⟩] := by simp [markDuties, List.range_succ]
theorem markDuties_at {k n i : Nat} (h : i < n) : (markDuties k n)[i]? = some ⟨markT (k + 3 * i), (k + 3 * i + 1 : Nat), (k + 3 * i + 2 : Nat)⟩ := by simp [markDuties, h]
set_option maxRecDepth 100000 in
set_option maxHeartbeats 400000 in
theorem markDutyS_c (A : Option Addr) (n c k0 base : Nat) (ys0 : List Value) (w : World) (hown0 : w.ownsRow base 50 3 (.slice A n c) n ys0) (hm : n ≤ 1048576) (hk0 : 0 < k0) (hk1 : k0 ≤ 10000000) :
    Calls Try.prog 20 #[.slice A n c, .int .i64 k0] w fun e w' => e = .returned (.int .i64 (k0 + 3 * n : Nat)) ∧ w'.ownsRow base 50 3 (.slice A n c) n ((markDuties k0 n).flatMap Duty.cells) ∧ w.grownBy w' (Value.slice A n c).ownBlock := by
  go_enter Try.func20, Try.ntmps20
  go_wp2
  go_loopw [1, 5] (fun q i wr => ∃ (k : Nat) (ys : List Value), k ≤ n ∧ i = .int .i64 k ∧ q = .int .i64 (k0 + 3 * k : Nat) ∧ wr.ownsRow base 50 3 (.slice A n c) n ys ∧ ys.take (k * 3) = (markDuties k0 k).flatMap Duty.cells ∧ w.grownBy wr (Value.slice A n c).ownBlock) (fun _ i _ => n - (intOf i).toNat)
  case atStart => exact ⟨0, _, Nat.zero_le _, rfl, rfl, hown0, by simp [markDuties], grown_refl _ _⟩
  case round =>
    obtain ⟨k, ys, hk, rfl, rfl, hown, hys, hgw⟩ := hrel
    by_cases hlt : k < n
    · obtain ⟨g, rfl, hg1, hg2⟩ := own_form hown (by omega)
      have hyl := hown.1
      have Hys := Lib.hid hys; clear hys
      have Hyl := Lib.hid hyl; clear hyl
      go_wp2_with (go_at_call 44; refine (markText_c (k0 + 3 * k) _ (by omega) (by omega)).mono ?_; rintro e w2 ⟨rfl, hb1⟩; have ho2 := own_next hown hb1; obtain ⟨y0, f0⟩ := own_cell ho2 (k * 3) (by omega); obtain ⟨y1, f1⟩ := own_cell ho2 (k * 3 + 1) (by omega); obtain ⟨y2, f2⟩ := own_cell ho2 (k * 3 + 2) (by omega); have f3 := ho2.frozenAt)
      go_roundw
      case rel =>
        have s1 := ho2.stored (k * 3) (.string (markT (k0 + 3 * k)))
        have s2 := s1.1.stored (k * 3 + 1) (.int .i64 (k0 + 3 * k + 1 : Nat))
        have s3 := s2.1.stored (k * 3 + 2) (.int .i64 (k0 + 3 * k + 2 : Nat))
        refine ⟨k + 1, setAll ys (k * 3) (Duty.cells ⟨markT (k0 + 3 * k), (k0 + 3 * k + 1 : Nat), (k0 + 3 * k + 2 : Nat)⟩), by omega, by go_num, by go_num, ?_, ?_, ?_⟩
        · exact s3.1
        · rw [setAll_take Hyl.out hlt (Duty.cells_len _), Hys.out, markDuties_next]
          simp
        · exact grown_trans (grown_trans (grown_trans (grown_trans hgw (grown_of_below hb1)) s1.2) s2.2) s3.2
      case measure => simp [intOf]; omega
    · go_wp2
      go_ret
      obtain rfl : k = n := by omega
      have hyl := hown.1
      rw [List.take_of_length_le (by omega)] at hys
      subst hys
      exact ⟨rfl, hown, hgw⟩

set_option maxRecDepth 100000 in
set_option maxHeartbeats 400000 in
theorem heldDutyS_c (A : Option Addr) (n c k0 : Nat) (w : World) (h : Sl w w.heap.size 3 A n ((markDuties k0 n).flatMap Duty.cells)) (hm : n ≤ 1048576) (hk0 : 0 < k0) (hk1 : k0 ≤ 10000000) :
    Calls Try.prog 21 #[.slice A n c, .int .i64 k0] w fun e w' => e = .returned (.int .i64 (k0 + 3 * n : Nat)) ∧ Below w.heap.size w w' := by
  go_enter Try.func21, Try.ntmps21
  go_wp2
  go_loopw [1, 5] (fun q i wr => ∃ (k : Nat), k ≤ n ∧ i = .int .i64 k ∧ q = .int .i64 (k0 + 3 * k : Nat) ∧ Below w.heap.size w wr) (fun _ i _ => n - (intOf i).toNat)
  case atStart => exact ⟨0, Nat.zero_le _, rfl, rfl, Below.refl _ _⟩
  case round =>
    obtain ⟨k, hk, rfl, rfl, hbw⟩ := hrel
    by_cases hlt : k < n
    · obtain ⟨b, off, d, rfl, hb, hd, c1, c2, c3⟩ := h.duty k hlt
      obtain rfl : _ = d := Option.some.inj ((markDuties_at hlt).symm.trans hd)
      clear hd
      have j1 : (0 : Int) ≤ (k : Int) := by omega
      have j2 : (k : Int) < (n : Int) := by omega
      go_wp2
      go_region_held3 (fun w' => Below w.heap.size w w' ∧ (∀ x, w'.cell? ⟨b, x, none⟩ = w.cell? ⟨b, x, none⟩)) (first | exact ⟨hbw.drew, keepC hbw.drew b hb⟩ | exact ⟨hbw.drew.trans (hb1.mono hbw.size), keepC (hbw.drew.trans (hb1.mono hbw.size)) b hb⟩) (first | (go_at_call 44; refine (markText_c (k0 + 3 * k) _ (by omega) (by omega)).mono ?_; rintro e w' ⟨rfl, hb1⟩))
      have hb2 : Below w.heap.size w w' := hbw.drew.trans (hb1.mono hbw.size)
      have q1 := keepC hb2 b hb
      go_wp2
      go_roundw
      case rel => exact ⟨k + 1, by omega, by go_num, by go_num, hb2⟩
      case measure => simp [intOf]; omega
    · go_wp2
      go_ret
      obtain rfl : k = n := by omega
      exact ⟨rfl, hbw⟩
end Go.Proofs.Ytimbakjajglppaa
