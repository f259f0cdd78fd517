/- The laws' own functions over []Phase, and marks on a Character. -/
import Derived.Test.YtpgcgmbjlecnpaaGreatChEq
import Derived.Test.YtpgcgmbjlecnpaaGreatMark
import Derived.Test.YtpgcgmbjlecnpaaGreatChPhS
namespace Go.Proofs.YtpgcgmbjlecnpaaGreat
open Go.RowKit
abbrev Ph.val (p : Ph) : Value := .agg #[.string p.c, .int .i64 p.len]
theorem Sl.ph2 {w : World} {B n : Nat} {A : Option Addr} {xs : List Ph} (h : Sl w B 2 A n (xs.flatMap Ph.cells)) (k : Nat) (hk : k < n) :
    ∃ b off x, A = some ⟨b, off, none⟩ ∧ b < B ∧ xs[k]? = some x ∧ w.cell? ⟨b, off + k * 2, none⟩ = some (.string x.c) ∧ w.cell? ⟨b, off + k * 2 + 1, none⟩ = some (.int .i64 x.len) := by
  obtain ⟨b, off, s, hA, hb, hx, hc⟩ := h.get Ph.cells 2 Ph.cells_len (by omega) k hk
  exact ⟨b, off, s, hA, hb, hx, hc 0 _ rfl, hc 1 _ rfl⟩
def markInts (k n : Nat) : List Int := (List.range n).map fun i => ((k + i : Nat) : Int)
theorem markInts_next (k n : Nat) : markInts k (n + 1) = markInts k n ++ [((k + n : Nat) : Int)] := by simp [markInts, List.range_succ]
theorem markInts_at {k n i : Nat} (h : i < n) : (markInts k n)[i]? = some ((k + i : Nat) : Int) := by simp [markInts, h]
set_option maxRecDepth 100000 in
set_option maxHeartbeats 400000 in
theorem markInt64S_c (A : Option Addr) (n c k0 base : Nat) (ys0 : List Value) (w : World) (hown0 : w.ownsRow base 2 1 (.slice A n c) n ys0) (hm : n ≤ 1048576) (hk1 : k0 ≤ 10000000) :
    Calls Tryz.prog 18 #[.slice A n c, .int .i64 k0] w fun e w' => e = .returned (.int .i64 (k0 + n : Nat)) ∧ w'.ownsRow base 2 1 (.slice A n c) n ((markInts k0 n).flatMap intC) ∧ w.grownBy w' (Value.slice A n c).ownBlock := by
  go_enter Tryz.func18, Tryz.ntmps18
  go_wp2
  go_loopw [1, 5] (fun q i wr => ∃ (k : Nat) (ys : List Value), k ≤ n ∧ i = .int .i64 k ∧ q = .int .i64 (k0 + k : Nat) ∧ wr.ownsRow base 2 1 (.slice A n c) n ys ∧ ys.take (k * 1) = (markInts k0 k).flatMap intC ∧ w.grownBy wr (Value.slice A n c).ownBlock) (fun _ i _ => n - (intOf i).toNat)
  case atStart => exact ⟨0, _, Nat.zero_le _, rfl, rfl, hown0, by simp [markInts], grown_refl _ _⟩
  case round =>
    obtain ⟨k, ys, hk, rfl, rfl, hown, hys, hgw⟩ := hrel
    by_cases hlt : k < n
    · obtain ⟨g, rfl, hg1, hg2⟩ := own_form hown (by omega)
      have hyl := hown.1
      obtain ⟨y0, f0⟩ := own_cell hown k (by omega)
      have f3 := hown.frozenAt
      have Hys := Lib.hid hys; clear hys
      have Hyl := Lib.hid hyl; clear hyl
      go_wp2
      go_roundw
      case rel =>
        have s1 := hown.stored k (.int .i64 (k0 + k : Nat))
        refine ⟨k + 1, setAll ys (k * 1) (intC (k0 + k : Nat)), by omega, by go_num, by go_num, ?_, ?_, grown_trans hgw s1.2⟩
        · have := s1.1
          rw [Nat.mul_one]; exact this
        · rw [setAll_take Hyl.out hlt (intC_len _), Hys.out, markInts_next]
          simp
      case measure => simp [intOf]; omega
    · go_wp2
      go_ret
      obtain rfl : k = n := by omega
      have hyl := hown.1
      rw [List.take_of_length_le (by omega)] at hys
      subst hys
      exact ⟨rfl, hown, hgw⟩
set_option maxRecDepth 100000 in
set_option maxHeartbeats 400000 in
theorem heldInt64S_c (A : Option Addr) (n c k0 : Nat) (w : World) (h : Sl w w.heap.size 1 A n ((markInts k0 n).flatMap intC)) (hm : n ≤ 1048576) (hk1 : k0 ≤ 10000000) :
    Calls Tryz.prog 19 #[.slice A n c, .int .i64 k0] w fun e w' => e = .returned (.int .i64 (k0 + n : Nat)) ∧ w = w' := by
  go_enter Tryz.func19, Tryz.ntmps19
  go_wp2
  go_loop [1, 5] (fun q i => ∃ (k : Nat), k ≤ n ∧ i = .int .i64 k ∧ q = .int .i64 (k0 + k : Nat)) (fun _ i => n - (intOf i).toNat)
  case atStart => exact ⟨0, Nat.zero_le _, rfl, rfl⟩
  case round =>
    obtain ⟨k, hk, rfl, rfl⟩ := hrel
    by_cases hlt : k < n
    · obtain ⟨b, off, d, rfl, hb, hd, c1⟩ := h.int k hlt
      obtain rfl : _ = d := Option.some.inj ((markInts_at hlt).symm.trans hd)
      clear hd
      go_wp2
      go_round
      case rel => exact ⟨k + 1, by omega, by go_num, by go_num⟩
      case measure => simp [intOf]; omega
    · go_wp2
      go_ret
      obtain rfl : k = n := by omega
      exact ⟨rfl, rfl⟩
set_option maxRecDepth 100000 in
set_option maxHeartbeats 400000 in
theorem markCharacter_c (k : Int) (A : Option Addr) (n c : Nat) (l cs : ByteArray) (p : Int) (k0 base : Nat) (ys0 : List Value) (w : World) (hown0 : w.ownsRow base 2 1 (.slice A n c) n ys0) (hm : n ≤ 1048576) (hk1 : k0 ≤ 10000000) :
    Calls Tryz.prog 17 #[chV k A n c l cs p, .int .i64 k0] w fun e w' => e = .returned (.int .i64 (k0 + n : Nat)) ∧ w.grownBy w' (Value.slice A n c).ownBlock := by
  go_enter Tryz.func17, Tryz.ntmps17
  go_wp2_with (go_at_call 18; refine (markInt64S_c A n c k0 base ys0 _ (hown0.alloc _) hm hk1).mono ?_; rintro e w2 ⟨rfl, ho2, hg2⟩)
  go_ret
  exact ⟨rfl, grown_trans (grown_of_below (by (repeat (first | (with_reducible assumption) | (with_reducible exact Below.refl _ _) | exact Nat.le_refl _ | exact Below.size (by with_reducible assumption) | (with_reducible refine Below.drew ?_) | (with_reducible refine below_drewN ?_ _) | (with_reducible refine Below.alloc ?_ ?_ _) | (with_reducible refine Below.setCell ?_ ?_ _) | (with_reducible refine le_alloc ?_ _) | (with_reducible refine le_set ?_ _ _) | (with_reducible refine le_drew ?_) | (with_reducible refine le_drewN ?_ _) | omega | (dsimp only; omega))))) hg2⟩
theorem ch_box {A : Option Addr} {n c : Nat} (w : World) (x : Ch) (E : TypeId) :
    let W := w.alloc (.cells #[.int .i64 x.k, .slice A n c, .string x.l, .string x.cs, .int .i64 x.p] E)
    W.cell? ⟨w.heap.size, 0, none⟩ = some (.int .i64 x.k) ∧ W.cell? ⟨w.heap.size, 1, none⟩ = some (.slice A n c) ∧ W.cell? ⟨w.heap.size, 2, none⟩ = some (.string x.l) ∧ W.cell? ⟨w.heap.size, 3, none⟩ = some (.string x.cs) ∧ W.cell? ⟨w.heap.size, 4, none⟩ = some (.int .i64 x.p) := by
  intro W
  have hb : W.heap[w.heap.size]? = some (.cells #[.int .i64 x.k, .slice A n c, .string x.l, .string x.cs, .int .i64 x.p] E (0, 0)) := heap_alloc_new w _
  refine ⟨?_, ?_, ?_, ?_, ?_⟩
  all_goals
    rw [cell_of_row _ w.heap.size _ _ E (0, 0) hb]
    rfl
end Go.Proofs.YtpgcgmbjlecnpaaGreat
