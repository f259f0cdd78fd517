/- PhO: several of my texts in one. -/
import Derived.Test.YtgibbhipjpbdfaaChLaw
import Derived.Test.YtgibbhipjpbdfaaMark
import Derived.Test.YtgibbhipjpbdfaaChPhS
import Derived.Test.YtgibbhipjpbdfaaBase
import Derived.ProofKit
import Derived.OpenShut
import Derived.ShutString
import Derived.ChangeOld
import Derived.Deep.Slices
import Derived.Deep.Fields
import Derived.Lib.SmallJoins

/- The laws' eqCharacter, at equal values. -/
namespace Go.Proofs.Ytgibbhipjpbdfaa
open Go.RowKit
set_option maxRecDepth 100000 in
set_option maxHeartbeats 400000 in
theorem eqCharacter_c (k : Int) (A A' : Option Addr) (n c c' : Nat) (l cs : ByteArray) (p : Int) (gs : List Int) (w : World) (h : Sl w w.heap.size 1 A n (gs.flatMap intC)) (h' : Sl w w.heap.size 1 A' n (gs.flatMap intC)) (hm : n ≤ 1048576) :
    Calls Try.prog 9 #[chV k A n c l cs p, chV k A' n c' l cs p] w fun e w' => e = .returned (.bool true) ∧ Below w.heap.size w w' := by
  have ne : ∀ u : ByteArray, (u.toList != u.toList) = false := fun u => by simp
  have hb0 : Below w.heap.size w ((w.alloc (.cells #[.int .i64 k, .slice A n c, .string l, .string cs, .int .i64 p] 26)).alloc (.cells #[.int .i64 k, .slice A' n c', .string l, .string cs, .int .i64 p] 26)) := by (repeat (first | (with_reducible assumption) | (with_reducible exact Below.refl _ _) | exact Nat.le_refl _ | exact Below.size (by with_reducible assumption) | (with_reducible refine Below.drew ?_) | (with_reducible refine below_drewN ?_ _) | (with_reducible refine Below.alloc ?_ ?_ _) | (with_reducible refine Below.setCell ?_ ?_ _) | (with_reducible refine le_alloc ?_ _) | (with_reducible refine le_set ?_ _ _) | (with_reducible refine le_drew ?_) | (with_reducible refine le_drewN ?_ _) | omega | (dsimp only; omega)))
  go_enter Try.func9, Try.ntmps9
  go_wp2_with (go_at_call 38; refine (eqInt64S_c A A' n c c' gs _ (h.next hb0) (h'.next hb0) (by unfold maxLen; omega)).mono ?_; rintro e w1 ⟨rfl, hb1⟩; have q1 := keepC hb1 w.heap.size (by simp only [World.size_alloc]; omega); have q2 := keepC hb1 (w.heap.size + 1) (by simp only [World.size_alloc]; omega))
  go_ret
  exact ⟨rfl, hb0.trans (hb1.mono (by simp only [World.size_alloc]; omega))⟩
end Go.Proofs.Ytgibbhipjpbdfaa

/- The laws' own functions over []Phase, and marks on a Character. -/
namespace Go.Proofs.Ytgibbhipjpbdfaa
open Go.RowKit
abbrev Ph.val (p : Ph) : Value := .agg #[.string p.c, .int .i64 p.len]
theorem Sl.ph2 {w : World} {B n : Nat} {A : Option Addr} {xs : List Ph} (h : Sl w B 2 A n (xs.flatMap Ph.cells)) (k : Nat) (hk : k < n) :
    ∃ b off x, A = some ⟨b, off, none⟩ ∧ b < B ∧ xs[k]? = some x ∧ w.cell? ⟨b, off + k * 2, none⟩ = some (.string x.c) ∧ w.cell? ⟨b, off + k * 2 + 1, none⟩ = some (.int .i64 x.len) := by
  obtain ⟨b, off, s, hA, hb, hx, hc⟩ := h.get Ph.cells 2 Ph.cells_len (by omega) k hk
  exact ⟨b, off, s, hA, hb, hx, hc 0 _ rfl, hc 1 _ rfl⟩
set_option maxHeartbeats 400000 in
theorem eqPhase_c (p : Ph) (w : World) : Calls Try.prog 39 #[p.val, p.val] w fun e w' => e = .returned (.bool true) ∧ Below w.heap.size w w' := by
  have ne : ∀ u : ByteArray, (u.toList != u.toList) = false := fun u => by simp
  go_enter Try.func39, Try.ntmps39
  go_wp2
  go_ret
  exact ⟨rfl, by (repeat (first | (with_reducible assumption) | (with_reducible exact Below.refl _ _) | exact Nat.le_refl _ | exact Below.size (by with_reducible assumption) | (with_reducible refine Below.drew ?_) | (with_reducible refine below_drewN ?_ _) | (with_reducible refine Below.alloc ?_ ?_ _) | (with_reducible refine Below.setCell ?_ ?_ _) | (with_reducible refine le_alloc ?_ _) | (with_reducible refine le_set ?_ _ _) | (with_reducible refine le_drew ?_) | (with_reducible refine le_drewN ?_ _) | omega | (dsimp only; omega)))⟩
set_option maxRecDepth 100000 in
set_option maxHeartbeats 400000 in
theorem eqPhaseS_c (A A' : Option Addr) (n c c' : Nat) (xs : List Ph) (w : World) (h : Sl w w.heap.size 2 A n (xs.flatMap Ph.cells)) (h' : Sl w w.heap.size 2 A' n (xs.flatMap Ph.cells)) (hm : n ≤ maxLen) :
    Calls Try.prog 10 #[.slice A n c, .slice A' n c'] w fun e w' => e = .returned (.bool true) ∧ Below w.heap.size w w' := by
  unfold maxLen at hm
  go_enter Try.func10, Try.ntmps10
  go_wp2
  go_loopw [5] (fun i wr => ∃ k : Nat, k ≤ n ∧ i = .int .i64 k ∧ Below w.heap.size w wr) (fun i _ => n - (intOf i).toNat)
  case atStart => exact ⟨0, Nat.zero_le _, rfl, Below.refl _ _⟩
  case round =>
    obtain ⟨k, hk, rfl, hbw⟩ := hrel
    by_cases hlt : k < n
    · obtain ⟨b, off, d, rfl, hb, hd, c1, c2⟩ := h.ph2 k hlt
      obtain ⟨b', off', d', rfl, hb', hd', c1', c2'⟩ := h'.ph2 k hlt
      obtain rfl : d = d' := by rw [hd] at hd'; exact Option.some.inj hd'
      clear hd'
      have Hd := Lib.hid hd; clear hd
      have j1 : (0 : Int) ≤ (k : Int) := by omega
      have j2 : (k : Int) < (n : Int) := by omega
      have e1 := see2 hbw hb hb'
      go_wp2
      go_region_held3 (fun w' => Below w.heap.size w w' ∧ (∀ x, w'.cell? ⟨b, x, none⟩ = w.cell? ⟨b, x, none⟩) ∧ (∀ x, w'.cell? ⟨b', x, none⟩ = w.cell? ⟨b', x, none⟩)) (first | exact see2 hbw.drew hb hb' | exact see2 (hbw.drew.trans (hb1.mono hbw.size)) hb hb') (first | (go_at_call 39; refine (eqPhase_c d _).mono ?_; rintro e w' ⟨rfl, hb1⟩))
      have hb2 : Below w.heap.size w w' := hbw.drew.trans (hb1.mono hbw.size)
      go_wp2
      go_roundw
      case rel => exact ⟨k + 1, by omega, by go_num, hb2⟩
      case measure => simp [intOf]; omega
    · go_wp2
      go_ret
      exact ⟨rfl, hbw⟩
set_option maxHeartbeats 400000 in
theorem szPhase_c (p : Ph) (left : Int) (w : World) (hs : p.c.size ≤ maxLen) (h0 : 0 ≤ left) (h1 : left ≤ 1048576) :
    Calls Try.prog 23 #[p.val, .int .i64 left] w fun e w' => ∃ r : Int, e = .returned (.int .i64 r) ∧ (r = -1 ∨ 0 ≤ r ∧ r ≤ left) ∧ Below w.heap.size w w' := by
  unfold maxLen at hs
  go_enter Try.func23, Try.ntmps23
  go_wp2
  · go_ret
    exact ⟨-1, rfl, .inl rfl, (by (repeat (first | (with_reducible assumption) | (with_reducible exact Below.refl _ _) | exact Nat.le_refl _ | exact Below.size (by with_reducible assumption) | (with_reducible refine Below.drew ?_) | (with_reducible refine below_drewN ?_ _) | (with_reducible refine Below.alloc ?_ ?_ _) | (with_reducible refine Below.setCell ?_ ?_ _) | (with_reducible refine le_alloc ?_ _) | (with_reducible refine le_set ?_ _ _) | (with_reducible refine le_drew ?_) | (with_reducible refine le_drewN ?_ _) | omega | (dsimp only; omega))))⟩
  · go_ret
    exact ⟨_, rfl, .inr ⟨by omega, by omega⟩, (by (repeat (first | (with_reducible assumption) | (with_reducible exact Below.refl _ _) | exact Nat.le_refl _ | exact Below.size (by with_reducible assumption) | (with_reducible refine Below.drew ?_) | (with_reducible refine below_drewN ?_ _) | (with_reducible refine Below.alloc ?_ ?_ _) | (with_reducible refine Below.setCell ?_ ?_ _) | (with_reducible refine le_alloc ?_ _) | (with_reducible refine le_set ?_ _ _) | (with_reducible refine le_drew ?_) | (with_reducible refine le_drewN ?_ _) | omega | (dsimp only; omega))))⟩
set_option maxHeartbeats 400000 in
theorem szPhaseS_c (A : Option Addr) (n c : Nat) (xs : List Ph) (left : Int) (w : World) (h : Sl w w.heap.size 2 A n (xs.flatMap Ph.cells)) (hm : n ≤ maxLen)
    (hs : ∀ d ∈ xs, d.c.size ≤ maxLen) (h0 : 0 ≤ left) (h1 : left ≤ 1048576) :
    Calls Try.prog 5 #[.slice A n c, .int .i64 left] w fun e w' => ∃ r : Int, e = .returned (.int .i64 r) ∧ (r = -1 ∨ 0 ≤ r ∧ r ≤ left ∧ n ≤ left) ∧ Below w.heap.size w w' := by
  unfold maxLen at hm
  go_enter Try.func5, Try.ntmps5
  go_wp2
  · go_ret
    exact ⟨-1, rfl, .inl rfl, by (repeat (first | (with_reducible assumption) | (with_reducible exact Below.refl _ _) | exact Nat.le_refl _ | exact Below.size (by with_reducible assumption) | (with_reducible refine Below.drew ?_) | (with_reducible refine below_drewN ?_ _) | (with_reducible refine Below.alloc ?_ ?_ _) | (with_reducible refine Below.setCell ?_ ?_ _) | (with_reducible refine le_alloc ?_ _) | (with_reducible refine le_set ?_ _ _) | (with_reducible refine le_drew ?_) | (with_reducible refine le_drewN ?_ _) | omega | (dsimp only; omega)))⟩
  · go_loopw [1, 5] (fun l i wr => ∃ (k : Nat) (r : Int), k ≤ n ∧ i = .int .i64 k ∧ l = .int .i64 r ∧ 0 ≤ r ∧ r ≤ left - n ∧ Below w.heap.size w wr) (fun _ i _ => n - (intOf i).toNat)
    case atStart => exact ⟨0, _, Nat.zero_le _, rfl, rfl, by omega, by omega, Below.refl _ _⟩
    case round =>
      obtain ⟨k, r, hk, rfl, rfl, hr0, hr1, hbw⟩ := hrel
      by_cases hlt : k < n
      · obtain ⟨b, off, d, rfl, hb, hd, c1, c2⟩ := h.ph2 k hlt
        have hds := hs d (List.mem_of_getElem? hd)
        have r1 := keepC hbw b hb
        have Hd := Lib.hid hd; clear hd
        go_wp2_with (go_at_call 23; refine (szPhase_c d r _ hds hr0 (by omega)).mono ?_; rintro e w2 ⟨q, rfl, hq, hb1⟩)
        · go_ret
          exact ⟨-1, rfl, .inl rfl, hbw.trans (hb1.mono hbw.size)⟩
        · have hq2 : 0 ≤ q ∧ q ≤ r := by omega
          go_roundw
          case rel => exact ⟨k + 1, q, by omega, by go_num, rfl, by omega, by omega, hbw.trans (hb1.mono hbw.size)⟩
          case measure => simp [intOf]; omega
      · go_wp2
        go_ret
        exact ⟨r, rfl, .inr ⟨by omega, by omega, by omega⟩, hbw⟩
set_option maxHeartbeats 400000 in
theorem toPhase_c (p : Ph) (w : World) : Calls Try.prog 31 #[p.val] w fun e w' => e = .returned p.val ∧ Below w.heap.size w w' := by
  go_enter Try.func31, Try.ntmps31
  go_wp2
  exact bodyPost_ret (v := p.val) (by simp [results, Try.results31, go_sem]) rfl ⟨rfl, by (repeat (first | (with_reducible assumption) | (with_reducible exact Below.refl _ _) | exact Nat.le_refl _ | exact Below.size (by with_reducible assumption) | (with_reducible refine Below.drew ?_) | (with_reducible refine below_drewN ?_ _) | (with_reducible refine Below.alloc ?_ ?_ _) | (with_reducible refine Below.setCell ?_ ?_ _) | (with_reducible refine le_alloc ?_ _) | (with_reducible refine le_set ?_ _ _) | (with_reducible refine le_drew ?_) | (with_reducible refine le_drewN ?_ _) | omega | (dsimp only; omega)))⟩
set_option maxHeartbeats 400000 in
set_option maxRecDepth 10000 in
theorem toPhaseS_c (A : Option Addr) (n c : Nat) (xs : List Ph) (w : World) (h : Sl w w.heap.size 2 A n (xs.flatMap Ph.cells)) (hm : n ≤ 1048576) :
    Calls Try.prog 7 #[.slice A n c] w fun e w' => ∃ v, e = .returned v ∧ w'.ownsRow w.heap.size 58 2 v n (xs.flatMap Ph.cells) ∧ Below w.heap.size w w' := by
  obtain ⟨i0, hi, hz0, hz1, hz2⟩ := info_parts phInfo
  have hln := h.len Ph.cells 2 Ph.cells_len (by omega)
  have hB : i0.bytes * n ≤ 281474976710656 := by rw [hz2]; omega
  have hM : n ≤ maxLen := by unfold maxLen; omega
  have Hln := Lib.hid hln; clear hln
  have HB := Lib.hid hB; clear hB
  have HM := Lib.hid hM; clear hM
  go_enter Try.func7, Try.ntmps7
  go_wp2_with (at_make; refine wpList_make_full _ rfl _ _ _ rfl w.heap.size 58 i0 _ 2 Try.underlying29 hi hz0 hz1 _ _ _ _ n rfl rfl rfl rfl HB.out HM.out (Nat.le_refl _) ?_; intro w1 hown hgr)
  have hb0 : Below w.heap.size w w1 := (Below.refl _ _).grown hgr (Nat.le_refl _) (by simp)
  clear hgr
  go_loopw [4] (fun i wr => ∃ (k : Nat) (ys : List Value), k ≤ n ∧ i = .int .i64 k ∧ wr.ownsRow w.heap.size 58 2 (.slice (some ⟨w.heap.size, 0, none⟩) n n) n ys ∧ ys.take (k * 2) = (xs.take k).flatMap Ph.cells ∧ Below w.heap.size w wr) (fun i _ => n - (intOf i).toNat)
  case atStart => exact ⟨0, _, Nat.zero_le _, rfl, hown, by simp, hb0⟩
  case round =>
    clear hown hb0
    obtain ⟨k, ys, hk, rfl, hown, hys, hbw⟩ := hrel
    by_cases hlt : k < n
    · obtain ⟨b, off, d, rfl, hb, hd, c1, c2⟩ := h.ph2 k hlt
      have hyl := hown.1
      have q1 := keepC hbw b hb
      have z0 : w.heap.size < wr.heap.size := (hown.lt _ rfl).2
      have Hd := Lib.hid hd; clear hd
      have Hys := Lib.hid hys; clear hys
      have Hyl := Lib.hid hyl; clear hyl
      go_wp2_with (go_at_call 31; refine (toPhase_c d _).mono ?_; rintro e w2 ⟨rfl, hb1⟩; have ho2 := own_next hown hb1; obtain ⟨y0, f0⟩ := own_cell ho2 (k * 2) (by omega); obtain ⟨y1, f1⟩ := own_cell ho2 (k * 2 + 1) (by omega); have f3 := ho2.frozenAt)
      go_roundw
      case rel =>
        refine ⟨k + 1, setAll ys (k * 2) (Ph.cells d), by omega, by go_num, ((ho2.stored _ _).1.stored _ _).1, ?_, ((hbw.trans (hb1.mono hbw.size)).setCell (Nat.le_refl _) _).setCell (Nat.le_refl _) _⟩
        rw [setAll_take Hyl.out hlt (Ph.cells_len _), Hys.out, List.take_add_one, Hd.out]
        simp
      case measure => simp [intOf]; omega
    · go_wp2
      go_ret
      obtain rfl : k = n := by omega
      have hyl := hown.1
      rw [List.take_of_length_le (by omega), List.take_of_length_le (by rw [Hln.out]; omega)] at hys
      subst hys
      exact ⟨_, rfl, hown, hbw⟩
def markPhs (k n : Nat) : List Ph := (List.range n).map fun i => ⟨markT (k + 2 * i), (k + 2 * i + 1 : Nat)⟩
theorem markPhs_next (k n : Nat) : markPhs k (n + 1) = markPhs k n ++ [⟨markT (k + 2 * n), (k + 2 * n + 1 : Nat)⟩] := by simp [markPhs, List.range_succ]
theorem markPhs_at {k n i : Nat} (h : i < n) : (markPhs k n)[i]? = some ⟨markT (k + 2 * i), (k + 2 * i + 1 : Nat)⟩ := by simp [markPhs, h]
set_option maxRecDepth 100000 in
set_option maxHeartbeats 400000 in
theorem markPhaseS_c (A : Option Addr) (n c k0 base : Nat) (ys0 : List Value) (w : World) (hown0 : w.ownsRow base 58 2 (.slice A n c) n ys0) (hm : n ≤ 1048576) (hk0 : 0 < k0) (hk1 : k0 ≤ 10000000) :
    Calls Try.prog 11 #[.slice A n c, .int .i64 k0] w fun e w' => e = .returned (.int .i64 (k0 + 2 * n : Nat)) ∧ w'.ownsRow base 58 2 (.slice A n c) n ((markPhs k0 n).flatMap Ph.cells) ∧ w.grownBy w' (Value.slice A n c).ownBlock := by
  go_enter Try.func11, Try.ntmps11
  go_wp2
  go_loopw [1, 5] (fun q i wr => ∃ (k : Nat) (ys : List Value), k ≤ n ∧ i = .int .i64 k ∧ q = .int .i64 (k0 + 2 * k : Nat) ∧ wr.ownsRow base 58 2 (.slice A n c) n ys ∧ ys.take (k * 2) = (markPhs k0 k).flatMap Ph.cells ∧ w.grownBy wr (Value.slice A n c).ownBlock) (fun _ i _ => n - (intOf i).toNat)
  case atStart => exact ⟨0, _, Nat.zero_le _, rfl, rfl, hown0, by simp [markPhs], grown_refl _ _⟩
  case round =>
    obtain ⟨k, ys, hk, rfl, rfl, hown, hys, hgw⟩ := hrel
    by_cases hlt : k < n
    · obtain ⟨g, rfl, hg1, hg2⟩ := own_form hown (by omega)
      have hyl := hown.1
      have Hys := Lib.hid hys; clear hys
      have Hyl := Lib.hid hyl; clear hyl
      go_wp2_with (go_at_call 40; refine (markText_c (k0 + 2 * k) _ (by omega) (by omega)).mono ?_; rintro e w2 ⟨rfl, hb1⟩; have ho2 := own_next hown hb1; obtain ⟨y0, f0⟩ := own_cell ho2 (k * 2) (by omega); obtain ⟨y1, f1⟩ := own_cell ho2 (k * 2 + 1) (by omega); have f3 := ho2.frozenAt)
      go_roundw
      case rel =>
        have s1 := ho2.stored (k * 2) (.string (markT (k0 + 2 * k)))
        have s2 := s1.1.stored (k * 2 + 1) (.int .i64 (k0 + 2 * k + 1 : Nat))
        refine ⟨k + 1, setAll ys (k * 2) (Ph.cells ⟨markT (k0 + 2 * k), (k0 + 2 * k + 1 : Nat)⟩), by omega, by go_num, by go_num, ?_, ?_, ?_⟩
        · exact s2.1
        · rw [setAll_take Hyl.out hlt (Ph.cells_len _), Hys.out, markPhs_next]
          simp
        · exact grown_trans (grown_trans (grown_trans hgw (grown_of_below hb1)) s1.2) s2.2
      case measure => simp [intOf]; omega
    · go_wp2
      go_ret
      obtain rfl : k = n := by omega
      have hyl := hown.1
      rw [List.take_of_length_le (by omega)] at hys
      subst hys
      exact ⟨rfl, hown, hgw⟩
def markInts (k n : Nat) : List Int := (List.range n).map fun i => ((k + i : Nat) : Int)
theorem markInts_next (k n : Nat) : markInts k (n + 1) = markInts k n ++ [((k + n : Nat) : Int)] := by simp [markInts, List.range_succ]
theorem markInts_at {k n i : Nat} (h : i < n) : (markInts k n)[i]? = some ((k + i : Nat) : Int) := by simp [markInts, h]
set_option maxRecDepth 100000 in
set_option maxHeartbeats 400000 in
theorem markInt64S_c (A : Option Addr) (n c k0 base : Nat) (ys0 : List Value) (w : World) (hown0 : w.ownsRow base 2 1 (.slice A n c) n ys0) (hm : n ≤ 1048576) (hk1 : k0 ≤ 10000000) :
    Calls Try.prog 41 #[.slice A n c, .int .i64 k0] w fun e w' => e = .returned (.int .i64 (k0 + n : Nat)) ∧ w'.ownsRow base 2 1 (.slice A n c) n ((markInts k0 n).flatMap intC) ∧ w.grownBy w' (Value.slice A n c).ownBlock := by
  go_enter Try.func41, Try.ntmps41
  go_wp2
  go_loopw [1, 5] (fun q i wr => ∃ (k : Nat) (ys : List Value), k ≤ n ∧ i = .int .i64 k ∧ q = .int .i64 (k0 + k : Nat) ∧ wr.ownsRow base 2 1 (.slice A n c) n ys ∧ ys.take (k * 1) = (markInts k0 k).flatMap intC ∧ w.grownBy wr (Value.slice A n c).ownBlock) (fun _ i _ => n - (intOf i).toNat)
  case atStart => exact ⟨0, _, Nat.zero_le _, rfl, rfl, hown0, by simp [markInts], grown_refl _ _⟩
  case round =>
    obtain ⟨k, ys, hk, rfl, rfl, hown, hys, hgw⟩ := hrel
    by_cases hlt : k < n
    · obtain ⟨g, rfl, hg1, hg2⟩ := own_form hown (by omega)
      have hyl := hown.1
      obtain ⟨y0, f0⟩ := own_cell hown k (by omega)
      have f3 := hown.frozenAt
      have Hys := Lib.hid hys; clear hys
      have Hyl := Lib.hid hyl; clear hyl
      go_wp2
      go_roundw
      case rel =>
        have s1 := hown.stored k (.int .i64 (k0 + k : Nat))
        refine ⟨k + 1, setAll ys (k * 1) (intC (k0 + k : Nat)), by omega, by go_num, by go_num, ?_, ?_, grown_trans hgw s1.2⟩
        · have := s1.1
          rw [Nat.mul_one]; exact this
        · rw [setAll_take Hyl.out hlt (intC_len _), Hys.out, markInts_next]
          simp
      case measure => simp [intOf]; omega
    · go_wp2
      go_ret
      obtain rfl : k = n := by omega
      have hyl := hown.1
      rw [List.take_of_length_le (by omega)] at hys
      subst hys
      exact ⟨rfl, hown, hgw⟩
set_option maxRecDepth 100000 in
set_option maxHeartbeats 400000 in
theorem heldInt64S_c (A : Option Addr) (n c k0 : Nat) (w : World) (h : Sl w w.heap.size 1 A n ((markInts k0 n).flatMap intC)) (hm : n ≤ 1048576) (hk1 : k0 ≤ 10000000) :
    Calls Try.prog 42 #[.slice A n c, .int .i64 k0] w fun e w' => e = .returned (.int .i64 (k0 + n : Nat)) ∧ w = w' := by
  go_enter Try.func42, Try.ntmps42
  go_wp2
  go_loop [1, 5] (fun q i => ∃ (k : Nat), k ≤ n ∧ i = .int .i64 k ∧ q = .int .i64 (k0 + k : Nat)) (fun _ i => n - (intOf i).toNat)
  case atStart => exact ⟨0, Nat.zero_le _, rfl, rfl⟩
  case round =>
    obtain ⟨k, hk, rfl, rfl⟩ := hrel
    by_cases hlt : k < n
    · obtain ⟨b, off, d, rfl, hb, hd, c1⟩ := h.int k hlt
      obtain rfl : _ = d := Option.some.inj ((markInts_at hlt).symm.trans hd)
      clear hd
      go_wp2
      go_round
      case rel => exact ⟨k + 1, by omega, by go_num, by go_num⟩
      case measure => simp [intOf]; omega
    · go_wp2
      go_ret
      obtain rfl : k = n := by omega
      exact ⟨rfl, rfl⟩
set_option maxRecDepth 100000 in
set_option maxHeartbeats 400000 in
theorem markCharacter_c (k : Int) (A : Option Addr) (n c : Nat) (l cs : ByteArray) (p : Int) (k0 base : Nat) (ys0 : List Value) (w : World) (hown0 : w.ownsRow base 2 1 (.slice A n c) n ys0) (hm : n ≤ 1048576) (hk1 : k0 ≤ 10000000) :
    Calls Try.prog 12 #[chV k A n c l cs p, .int .i64 k0] w fun e w' => e = .returned (.int .i64 (k0 + n : Nat)) ∧ w.grownBy w' (Value.slice A n c).ownBlock := by
  go_enter Try.func12, Try.ntmps12
  go_wp2_with (go_at_call 41; refine (markInt64S_c A n c k0 base ys0 _ (hown0.alloc _) hm hk1).mono ?_; rintro e w2 ⟨rfl, ho2, hg2⟩)
  go_ret
  exact ⟨rfl, grown_trans (grown_of_below (by (repeat (first | (with_reducible assumption) | (with_reducible exact Below.refl _ _) | exact Nat.le_refl _ | exact Below.size (by with_reducible assumption) | (with_reducible refine Below.drew ?_) | (with_reducible refine below_drewN ?_ _) | (with_reducible refine Below.alloc ?_ ?_ _) | (with_reducible refine Below.setCell ?_ ?_ _) | (with_reducible refine le_alloc ?_ _) | (with_reducible refine le_set ?_ _ _) | (with_reducible refine le_drew ?_) | (with_reducible refine le_drewN ?_ _) | omega | (dsimp only; omega))))) hg2⟩
theorem ch_box {A : Option Addr} {n c : Nat} (w : World) (x : Ch) (E : TypeId) :
    let W := w.alloc (.cells #[.int .i64 x.k, .slice A n c, .string x.l, .string x.cs, .int .i64 x.p] E)
    W.cell? ⟨w.heap.size, 0, none⟩ = some (.int .i64 x.k) ∧ W.cell? ⟨w.heap.size, 1, none⟩ = some (.slice A n c) ∧ W.cell? ⟨w.heap.size, 2, none⟩ = some (.string x.l) ∧ W.cell? ⟨w.heap.size, 3, none⟩ = some (.string x.cs) ∧ W.cell? ⟨w.heap.size, 4, none⟩ = some (.int .i64 x.p) := by
  intro W
  have hb : W.heap[w.heap.size]? = some (.cells #[.int .i64 x.k, .slice A n c, .string x.l, .string x.cs, .int .i64 x.p] E (0, 0)) := heap_alloc_new w _
  refine ⟨?_, ?_, ?_, ?_, ?_⟩
  all_goals
    rw [cell_of_row _ w.heap.size _ _ E (0, 0) hb]
    rfl
end Go.Proofs.Ytgibbhipjpbdfaa

/- From what the row's reader gives of an argument to the words of Base. No program is named here. -/
namespace Go.Proofs.Ytgibbhipjpbdfaa
open Go.RowKit Go.ChangeShapes Go.WideShapes Go.Deep

theorem choose_list {α : Type} (R : Nat → α → Prop) : ∀ n, (∀ i, i < n → ∃ x, R i x) → ∃ xs : List α, xs.length = n ∧ ∀ i x, xs[i]? = some x → R i x
  | 0, _ => ⟨[], rfl, fun i x h => by simp at h⟩
  | n + 1, h => by
    obtain ⟨xs, hl, hx⟩ := choose_list R n (fun i hi => h i (by omega))
    obtain ⟨y, hy⟩ := h n (by omega)
    refine ⟨xs ++ [y], by simp [hl], fun i x hi => ?_⟩
    by_cases hlt : i < n
    · rw [List.getElem?_append_left (by omega)] at hi; exact hx i x hi
    · have hil : i < (xs ++ [y]).length := (List.getElem?_eq_some_iff.1 hi).1
      simp [hl] at hil
      obtain rfl : i = n := by omega
      rw [List.getElem?_append_right (by omega)] at hi
      simp [hl] at hi
      subst hi; exact hy

section
variable {H : Type} {en : TypeId × Value → H} {P : Program} {w : World} {base : Nat} {spare : Nat → Bool} {held : Bool}
/-- Field i of a struct that the reader read, at its own cells. -/
theorem struct_field {t : TypeId} {fs : Array Field} {fuel : Nat} {cs : List Value} {x : DataW H × List MemPlace} (ht : P.underlying t = some (.struct fs)) (h : DataW.trod en P w base spare held fuel t cs = some x)
    (i : Nat) (f : Field) (hf : fs[i]? = some f) (k : Nat) (hk : P.cellsOf f.type = k) (cs' : List Value) (hcs : (cs.drop f.offset).take k = cs') : ∃ n y, DataW.trod en P w base spare held n f.type cs' = some y := by
  obtain ⟨xs, n, _, _, _, hl, hg⟩ := DataW.trod_struct ht h
  have h1 := hg i f hf
  rw [hk, hcs] at h1
  have hi : i < xs.length := by rw [hl]; exact (Array.getElem?_eq_some_iff.1 hf).1
  exact ⟨n, _, h1.trans (List.getElem?_eq_getElem hi)⟩
theorem struct_len {t : TypeId} {fs : Array Field} {fuel : Nat} {cs : List Value} {x : DataW H × List MemPlace} (ht : P.underlying t = some (.struct fs)) (h : DataW.trod en P w base spare held fuel t cs = some x) (k : Nat) (hk : P.cellsOf t = k) : cs.length = k := by
  obtain ⟨xs, n, _, _, hl, _⟩ := DataW.trod_struct ht h
  rw [hl, hk]
theorem open_Sl {α : Type} (enc : α → List Value) (sz : Nat) (hsz : ∀ x, (enc x).length = sz) (hs : 0 < sz) (ok : α → Prop) {t e : TypeId} {fuel : Nat} {A : Option Addr} {n c : Nat} {x : DataW H × List MemPlace}
    (ht : P.underlying t = some (.slice e)) (hC : P.cellsOf e = sz) (hE : ∀ m cs y, DataW.trod en P w base spare held m e cs = some y → ∃ a, cs = enc a ∧ ok a)
    (h : DataW.trod en P w base spare held fuel t [.slice A n c] = some x) : n ≤ maxLen ∧ ∃ xs : List α, Sl w w.heap.size sz A n (xs.flatMap enc) ∧ ∀ x ∈ xs, ok x := by
  rcases open_slice ht h with ⟨hcs, _⟩ | ⟨a, len, cap, m, fu, D, Pl, hcs, hb, hl, hm, hmm, hx, hi⟩
  · simp at hcs; obtain ⟨rfl, rfl, rfl⟩ := hcs
    exact ⟨by simp [maxLen], [], Sl.none_, by simp⟩
  · simp at hcs; obtain ⟨rfl, rfl, rfl⟩ := hcs
    have hnm : n ≤ m := by rw [hmm]; split <;> omega
    obtain ⟨xs, hxl, hxs⟩ := choose_list (fun i a' => w.cells? base (a.add (i * sz)) sz = some (enc a') ∧ ok a') n (fun i hin => by
      obtain ⟨cs, hc, htr⟩ := hi i (by omega)
      obtain ⟨a', rfl, hok⟩ := hE _ _ _ htr
      rw [hC] at hc
      exact ⟨a', hc, hok⟩)
    refine ⟨by omega, xs, ⟨by rw [flat_len enc sz hsz, hxl], fun hn => ?_⟩, fun x hx => ?_⟩
    · have h0 := (hxs 0 _ (List.getElem?_eq_getElem (by omega))).1
      obtain ⟨_, hcl, hat⟩ := World.cells?_some h0
      have hc0 := hat 0 hs
      rw [List.getElem?_eq_getElem (by rw [hcl]; exact hs)] at hc0
      have hblk := World.block_lt_of_cell? w _ hc0
      have hspot := World.cell?_spot hc0
      have hadd : ∀ j, a.add j = ⟨a.block, a.off + j, none⟩ := by
        have hs0 : a.spot = none := by simpa [Addr.add] using hspot
        intro j; unfold Addr.add
        by_cases hj : j = 0
        · subst hj; cases a; simp_all
        · simp [hj]
      refine ⟨a.block, a.off, ?_, by simpa [hadd, Addr.add] using hblk, fun j u hu => ?_⟩
      · have := hadd 0; simp [Addr.add] at this; rw [← this]
      · have hjl : j < n * sz := by
          have := (List.getElem?_eq_some_iff.1 hu).1
          rw [flat_len enc sz hsz, hxl] at this; exact this
        have hk : j / sz < n := (Nat.div_lt_iff_lt_mul hs).2 hjl
        have hx := List.getElem?_eq_getElem (l := xs) (i := j / sz) (by omega)
        obtain ⟨_, _, hat⟩ := World.cells?_some (hxs (j / sz) _ hx).1
        have hmod := Nat.mod_lt j hs
        have hj' := hat (j % sz) hmod
        have e1 : j / sz * sz + j % sz = j := Nat.div_add_mod' j sz
        have e2 := flat_at enc sz hsz xs (j / sz) (j % sz) _ hx hmod
        rw [e1] at e2
        have e3 : (⟨a.block, a.off + j / sz * sz, none⟩ : Addr).add (j % sz) = ⟨a.block, a.off + j, none⟩ := by
          unfold Addr.add
          by_cases h0 : j % sz = 0
          · rw [if_pos h0]; rw [h0, Nat.add_zero] at e1; simp
          · rw [if_neg h0]; simp; omega
        rw [hadd, e3] at hj'
        rw [hj', ← e2, hu]
    · obtain ⟨i, hi'⟩ := List.mem_iff_getElem?.1 hx
      exact (hxs i x hi').2
end
end Go.Proofs.Ytgibbhipjpbdfaa

/- What the reader gives of a Character argument. -/
namespace Go.Proofs.Ytgibbhipjpbdfaa
open Go.ChangeShapes Go.WideShapes Go.ChangeAt Go.RowKit Go.Deep
theorem int_trod {H : Type} {en : TypeId × Value → H} {w : World} {base : Nat} {spare : Nat → Bool} {held : Bool} (m : Nat) (cs : List Value) (y : DataW H × List MemPlace) (h : DataW.trod en Try.prog w base spare held m 2 cs = some y) :
    ∃ s : Int, cs = intC s ∧ True := by
  obtain ⟨x, e0, _, _⟩ := DataW.trod_int Try.underlying2 h
  exact ⟨x, e0, trivial⟩
end Go.Proofs.Ytgibbhipjpbdfaa

/- What the reader gives of a []Phase argument. -/
namespace Go.Proofs.Ytgibbhipjpbdfaa
open Go.ChangeShapes Go.WideShapes Go.ChangeAt Go.RowKit Go.Deep
theorem phase_trod {H : Type} {en : TypeId × Value → H} {w : World} {base : Nat} {spare : Nat → Bool} {held : Bool} (m : Nat) (cs : List Value) (y : DataW H × List MemPlace) (h : DataW.trod en Try.prog w base spare held m 48 cs = some y) :
    ∃ p : Ph, cs = p.cells ∧ p.c.size ≤ maxLen := by
  have hl := struct_len Try.underlying48 h 2 (by kernel_rfl)
  match cs, hl with
  | [a, b], _ =>
    obtain ⟨_, _, g0⟩ := struct_field Try.underlying48 h 0 _ rfl 1 (by kernel_rfl) [a] rfl
    obtain ⟨_, _, g1⟩ := struct_field Try.underlying48 h 1 _ rfl 1 (by kernel_rfl) [b] rfl
    obtain ⟨x0, e0, _, hx0⟩ := DataW.trod_string Try.underlying9 g0
    obtain ⟨x1, e1, _, _⟩ := DataW.trod_int Try.underlying2 g1
    simp only [List.cons.injEq, and_true] at e0 e1
    subst e0 e1
    exact ⟨⟨x0, x1⟩, rfl, hx0⟩
end Go.Proofs.Ytgibbhipjpbdfaa
