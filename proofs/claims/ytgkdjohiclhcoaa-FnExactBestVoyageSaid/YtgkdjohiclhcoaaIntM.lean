/- Marks on integers (where no phases are). -/
import Derived.Test.YtgkdjohiclhcoaaIntS
namespace Go.Proofs.Ytgkdjohiclhcoaa
open Go.RowKit
def markInts (k n : Nat) : List Int := (List.range n).map fun i => ((k + i : Nat) : Int)
theorem markInts_next (k n : Nat) : markInts k (n + 1) = markInts k n ++ [((k + n : Nat) : Int)] := by simp [markInts, List.range_succ]
theorem markInts_at {k n i : Nat} (h : i < n) : (markInts k n)[i]? = some ((k + i : Nat) : Int) := by simp [markInts, h]
set_option maxRecDepth 100000 in
set_option maxHeartbeats 400000 in
theorem markInt64S_c (A : Option Addr) (n c k0 base : Nat) (ys0 : List Value) (w : World) (hown0 : w.ownsRow base 2 1 (.slice A n c) n ys0) (hm : n ≤ 1048576) (hk1 : k0 ≤ 10000000) :
    Calls Try.prog 16 #[.slice A n c, .int .i64 k0] w fun e w' => e = .returned (.int .i64 (k0 + n : Nat)) ∧ w'.ownsRow base 2 1 (.slice A n c) n ((markInts k0 n).flatMap intC) ∧ w.grownBy w' (Value.slice A n c).ownBlock := by
  go_enter Try.func16, Try.ntmps16
  go_wp2
  go_loopw [1, 5] (fun q i wr => ∃ (k : Nat) (ys : List Value), k ≤ n ∧ i = .int .i64 k ∧ q = .int .i64 (k0 + k : Nat) ∧ wr.ownsRow base 2 1 (.slice A n c) n ys ∧ ys.take (k * 1) = (markInts k0 k).flatMap intC ∧ w.grownBy wr (Value.slice A n c).ownBlock) (fun _ i _ => n - (intOf i).toNat)
  case atStart => exact ⟨0, _, Nat.zero_le _, rfl, rfl, hown0, by simp [markInts], grown_refl _ _⟩
  case round =>
    obtain ⟨k, ys, hk, rfl, rfl, hown, hys, hgw⟩ := hrel
    by_cases hlt : k < n
    · obtain ⟨g, rfl, hg1, hg2⟩ := own_form hown (by omega)
      have hyl := hown.1
      obtain ⟨y0, f0⟩ := own_cell hown k (by omega)
      have f3 := hown.frozenAt
      have Hys := Lib.hid hys; clear hys
      have Hyl := Lib.hid hyl; clear hyl
      go_wp2
      go_roundw
      case rel =>
        have s1 := hown.stored k (.int .i64 (k0 + k : Nat))
        refine ⟨k + 1, setAll ys (k * 1) (intC (k0 + k : Nat)), by omega, by go_num, by go_num, ?_, ?_, grown_trans hgw s1.2⟩
        · have := s1.1
          rw [Nat.mul_one]; exact this
        · rw [setAll_take Hyl.out hlt (intC_len _), Hys.out, markInts_next]
          simp
      case measure => simp [intOf]; omega
    · go_wp2
      go_ret
      obtain rfl : k = n := by omega
      have hyl := hown.1
      rw [List.take_of_length_le (by omega)] at hys
      subst hys
      exact ⟨rfl, hown, hgw⟩
set_option maxRecDepth 100000 in
set_option maxHeartbeats 400000 in
theorem heldInt64S_c (A : Option Addr) (n c k0 : Nat) (w : World) (h : Sl w w.heap.size 1 A n ((markInts k0 n).flatMap intC)) (hm : n ≤ 1048576) (hk1 : k0 ≤ 10000000) :
    Calls Try.prog 17 #[.slice A n c, .int .i64 k0] w fun e w' => e = .returned (.int .i64 (k0 + n : Nat)) ∧ w = w' := by
  go_enter Try.func17, Try.ntmps17
  go_wp2
  go_loop [1, 5] (fun q i => ∃ (k : Nat), k ≤ n ∧ i = .int .i64 k ∧ q = .int .i64 (k0 + k : Nat)) (fun _ i => n - (intOf i).toNat)
  case atStart => exact ⟨0, Nat.zero_le _, rfl, rfl⟩
  case round =>
    obtain ⟨k, hk, rfl, rfl⟩ := hrel
    by_cases hlt : k < n
    · obtain ⟨b, off, d, rfl, hb, hd, c1⟩ := h.int k hlt
      obtain rfl : _ = d := Option.some.inj ((markInts_at hlt).symm.trans hd)
      clear hd
      go_wp2
      go_round
      case rel => exact ⟨k + 1, by omega, by go_num, by go_num⟩
      case measure => simp [intOf]; omega
    · go_wp2
      go_ret
      obtain rfl : k = n := by omega
      exact ⟨rfl, rfl⟩
end Go.Proofs.Ytgkdjohiclhcoaa
