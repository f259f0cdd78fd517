/- PhG: several of my texts in one. -/
import Derived.Test.YtpfnnjcochhklaaGreatDoorChEq
import Derived.Test.YtpfnnjcochhklaaGreatDoorMkG
import Derived.Test.YtpfnnjcochhklaaGreatDoorChG
import Derived.Test.YtpfnnjcochhklaaGreatDoorChecked
import Derived.Test.YtpfnnjcochhklaaGreatDoorBsG

/- The laws' own functions over []Phase, and marks on a Character. -/
namespace Go.Proofs.YtpfnnjcochhklaaGreatDoor
open Go.RowKit
abbrev Ph.val (p : Ph) : Value := .agg #[.string p.c, .int .i64 p.len]
theorem Sl.ph2 {w : World} {B n : Nat} {A : Option Addr} {xs : List Ph} (h : Sl w B 2 A n (xs.flatMap Ph.cells)) (k : Nat) (hk : k < n) :
    ∃ b off x, A = some ⟨b, off, none⟩ ∧ b < B ∧ xs[k]? = some x ∧ w.cell? ⟨b, off + k * 2, none⟩ = some (.string x.c) ∧ w.cell? ⟨b, off + k * 2 + 1, none⟩ = some (.int .i64 x.len) := by
  obtain ⟨b, off, s, hA, hb, hx, hc⟩ := h.get Ph.cells 2 Ph.cells_len (by omega) k hk
  exact ⟨b, off, s, hA, hb, hx, hc 0 _ rfl, hc 1 _ rfl⟩
def markInts (k n : Nat) : List Int := (List.range n).map fun i => ((k + i : Nat) : Int)
theorem markInts_next (k n : Nat) : markInts k (n + 1) = markInts k n ++ [((k + n : Nat) : Int)] := by simp [markInts, List.range_succ]
theorem markInts_at {k n i : Nat} (h : i < n) : (markInts k n)[i]? = some ((k + i : Nat) : Int) := by simp [markInts, h]
set_option maxRecDepth 100000 in
set_option maxHeartbeats 400000 in
theorem markInt64S_c (A : Option Addr) (n c k0 base : Nat) (ys0 : List Value) (w : World) (hown0 : w.ownsRow base 2 1 (.slice A n c) n ys0) (hm : n ≤ 1048576) (hk1 : k0 ≤ 10000000) :
    Calls Tryz.prog 19 #[.slice A n c, .int .i64 k0] w fun e w' => e = .returned (.int .i64 (k0 + n : Nat)) ∧ w'.ownsRow base 2 1 (.slice A n c) n ((markInts k0 n).flatMap intC) ∧ w.grownBy w' (Value.slice A n c).ownBlock := by
  go_enter Tryz.func19, Tryz.ntmps19
  go_wp2
  go_loopw [1, 5] (fun q i wr => ∃ (k : Nat) (ys : List Value), k ≤ n ∧ i = .int .i64 k ∧ q = .int .i64 (k0 + k : Nat) ∧ wr.ownsRow base 2 1 (.slice A n c) n ys ∧ ys.take (k * 1) = (markInts k0 k).flatMap intC ∧ w.grownBy wr (Value.slice A n c).ownBlock) (fun _ i _ => n - (intOf i).toNat)
  case atStart => exact ⟨0, _, Nat.zero_le _, rfl, rfl, hown0, by simp [markInts], grown_refl _ _⟩
  case round =>
    obtain ⟨k, ys, hk, rfl, rfl, hown, hys, hgw⟩ := hrel
    by_cases hlt : k < n
    · obtain ⟨g, rfl, hg1, hg2⟩ := own_form hown (by omega)
      have hyl := hown.1
      obtain ⟨y0, f0⟩ := own_cell hown k (by omega)
      have f3 := hown.frozenAt
      have Hys := Lib.hid hys; clear hys
      have Hyl := Lib.hid hyl; clear hyl
      go_wp2
      go_roundw
      case rel =>
        have s1 := hown.stored k (.int .i64 (k0 + k : Nat))
        refine ⟨k + 1, setAll ys (k * 1) (intC (k0 + k : Nat)), by omega, by go_num, by go_num, ?_, ?_, grown_trans hgw s1.2⟩
        · have := s1.1
          rw [Nat.mul_one]; exact this
        · rw [setAll_take Hyl.out hlt (intC_len _), Hys.out, markInts_next]
          simp
      case measure => simp [intOf]; omega
    · go_wp2
      go_ret
      obtain rfl : k = n := by omega
      have hyl := hown.1
      rw [List.take_of_length_le (by omega)] at hys
      subst hys
      exact ⟨rfl, hown, hgw⟩
set_option maxRecDepth 100000 in
set_option maxHeartbeats 400000 in
theorem heldInt64S_c (A : Option Addr) (n c k0 : Nat) (w : World) (h : Sl w w.heap.size 1 A n ((markInts k0 n).flatMap intC)) (hm : n ≤ 1048576) (hk1 : k0 ≤ 10000000) :
    Calls Tryz.prog 20 #[.slice A n c, .int .i64 k0] w fun e w' => e = .returned (.int .i64 (k0 + n : Nat)) ∧ w = w' := by
  go_enter Tryz.func20, Tryz.ntmps20
  go_wp2
  go_loop [1, 5] (fun q i => ∃ (k : Nat), k ≤ n ∧ i = .int .i64 k ∧ q = .int .i64 (k0 + k : Nat)) (fun _ i => n - (intOf i).toNat)
  case atStart => exact ⟨0, Nat.zero_le _, rfl, rfl⟩
  case round =>
    obtain ⟨k, hk, rfl, rfl⟩ := hrel
    by_cases hlt : k < n
    · obtain ⟨b, off, d, rfl, hb, hd, c1⟩ := h.int k hlt
      obtain rfl : _ = d := Option.some.inj ((markInts_at hlt).symm.trans hd)
      clear hd
      go_wp2
      go_round
      case rel => exact ⟨k + 1, by omega, by go_num, by go_num⟩
      case measure => simp [intOf]; omega
    · go_wp2
      go_ret
      obtain rfl : k = n := by omega
      exact ⟨rfl, rfl⟩
theorem ch_box {A : Option Addr} {n c : Nat} (w : World) (x : Ch) (E : TypeId) :
    let W := w.alloc (.cells #[.int .i64 x.k, .slice A n c, .string x.l, .string x.cs, .int .i64 x.p] E)
    W.cell? ⟨w.heap.size, 0, none⟩ = some (.int .i64 x.k) ∧ W.cell? ⟨w.heap.size, 1, none⟩ = some (.slice A n c) ∧ W.cell? ⟨w.heap.size, 2, none⟩ = some (.string x.l) ∧ W.cell? ⟨w.heap.size, 3, none⟩ = some (.string x.cs) ∧ W.cell? ⟨w.heap.size, 4, none⟩ = some (.int .i64 x.p) := by
  intro W
  have hb : W.heap[w.heap.size]? = some (.cells #[.int .i64 x.k, .slice A n c, .string x.l, .string x.cs, .int .i64 x.p] E (0, 0)) := heap_alloc_new w _
  refine ⟨?_, ?_, ?_, ?_, ?_⟩
  all_goals
    rw [cell_of_row _ w.heap.size _ _ E (0, 0) hb]
    rfl
end Go.Proofs.YtpfnnjcochhklaaGreatDoor

/- Slices of Characters: how they lie, and the laws' own functions over them. -/
namespace Go.Proofs.YtpfnnjcochhklaaGreatDoor
open Go.RowKit
/-- A Character and where its group lies. -/
structure ChG where
  x : Ch
  A : Option Addr
  c : Nat
abbrev ChG.n (z : ChG) : Nat := z.x.gs.length
abbrev ChG.cells (z : ChG) : List Value := [.int .i64 z.x.k, .slice z.A z.n z.c, .string z.x.l, .string z.x.cs, .int .i64 z.x.p]
theorem ChG.cells_len (z : ChG) : z.cells.length = 5 := rfl
theorem chg_one (z : ChG) : ∀ u ∈ z.cells, u.oneCell' = true := by simp [ChG.cells, Value.oneCell']
/-- What is known of one of them. -/
structure ChGOk (w : World) (z : ChG) : Prop where
  sl : Sl w w.heap.size 1 z.A z.n (z.x.gs.flatMap intC)
  hn : z.n ≤ 1048576
  hl : z.x.l.size ≤ 1048576
  hs : z.x.cs.size ≤ 1048576
theorem ChGOk.next {w w' : World} {z : ChG} (h : ChGOk w z) (hb : Below w.heap.size w w') : ChGOk w' z := ⟨h.sl.next hb, h.hn, h.hl, h.hs⟩
/-- The slice .slice A n _ reads as the Characters zs. -/
structure ChS (w : World) (A : Option Addr) (n : Nat) (zs : List ChG) : Prop where
  sl : Sl w w.heap.size 5 A n (zs.flatMap ChG.cells)
  ok : ∀ z ∈ zs, ChGOk w z
theorem ChS.next {w w' : World} {A : Option Addr} {n : Nat} {zs : List ChG} (h : ChS w A n zs) (hb : Below w.heap.size w w') : ChS w' A n zs := ⟨h.sl.next hb, fun z hz => (h.ok z hz).next hb⟩
theorem ChS.len {w : World} {A : Option Addr} {n : Nat} {zs : List ChG} (h : ChS w A n zs) : zs.length = n := h.sl.len ChG.cells 5 ChG.cells_len (by omega)
theorem ChS.get {w : World} {A : Option Addr} {n : Nat} {zs : List ChG} (h : ChS w A n zs) (k : Nat) (hk : k < n) :
    ∃ b off z, A = some ⟨b, off, none⟩ ∧ b < w.heap.size ∧ zs[k]? = some z ∧ ChGOk w z ∧ w.cell? ⟨b, off + k * 5, none⟩ = some (.int .i64 z.x.k) ∧ w.cell? ⟨b, off + k * 5 + 1, none⟩ = some (.slice z.A z.n z.c) ∧
      w.cell? ⟨b, off + k * 5 + 2, none⟩ = some (.string z.x.l) ∧ w.cell? ⟨b, off + k * 5 + 3, none⟩ = some (.string z.x.cs) ∧ w.cell? ⟨b, off + k * 5 + 4, none⟩ = some (.int .i64 z.x.p) := by
  obtain ⟨b, off, z, hA, hb, hx, hc⟩ := h.sl.get ChG.cells 5 ChG.cells_len (by omega) k hk
  exact ⟨b, off, z, hA, hb, hx, h.ok z (List.mem_of_getElem? hx), hc 0 _ rfl, hc 1 _ rfl, hc 2 _ rfl, hc 3 _ rfl, hc 4 _ rfl⟩
def sumN (zs : List ChG) : Nat := (zs.map ChG.n).sum
theorem sumN_next {zs : List ChG} {k : Nat} {z : ChG} (h : zs[k]? = some z) : sumN (zs.take (k + 1)) = sumN (zs.take k) + z.n := by simp [sumN, List.take_add_one, h]
/-- They lie in memory of the call's own. -/
structure ChOwn (w : World) (base : Nat) (v : Value) (n : Nat) (zs : List ChG) : Prop where
  own : w.ownsRow base 53 5 v n (zs.flatMap ChG.cells)
  grp : ∀ z ∈ zs, w.ownsRow base 2 1 (.slice z.A z.n z.c) z.n (z.x.gs.flatMap intC)
theorem ChOwn.next {w w' : World} {base n : Nat} {v : Value} {zs : List ChG} (h : ChOwn w base v n zs) (hb : Below w.heap.size w w') : ChOwn w' base v n zs := ⟨own_next h.own hb, fun z hz => own_next (h.grp z hz) hb⟩
theorem ChOwn.len {w : World} {base n c : Nat} {A : Option Addr} {zs : List ChG} (h : ChOwn w base (.slice A n c) n zs) : zs.length = n := (Sl.of_own h.own).len ChG.cells 5 ChG.cells_len (by omega)
theorem ChOwn.sl {w : World} {base n c : Nat} {A : Option Addr} {zs : List ChG} (h : ChOwn w base (.slice A n c) n zs) (hb : ∀ z ∈ zs, z.n ≤ 1048576 ∧ z.x.l.size ≤ 1048576 ∧ z.x.cs.size ≤ 1048576) : ChS w A n zs :=
  ⟨Sl.of_own h.own, fun z hz => ⟨Sl.of_own (h.grp z hz), (hb z hz).1, (hb z hz).2.1, (hb z hz).2.2⟩⟩
theorem szCharacter2_c (k : Int) (A : Option Addr) (n c : Nat) (l cs : ByteArray) (p : Int) (left : Int) (w : World) (hm : n ≤ maxLen) (hl : l.size ≤ maxLen) (hc : cs.size ≤ maxLen) (h0 : 0 ≤ left) (h1 : left ≤ 1048576) :
    Calls Tryz.prog 54 #[chV k A n c l cs p, .int .i64 left] w fun e w' => ∃ r : Int, e = .returned (.int .i64 r) ∧ (r = -1 ∨ 0 ≤ r ∧ r + n + l.size + cs.size ≤ left) ∧ Below w.heap.size w w' := by
  have hI : ∀ w1, Calls Tryz.prog 89 #[.slice A n c, .int .i64 left] w1 fun e w' => ∃ r : Int, e = .returned (.int .i64 r) ∧ (r = -1 ∨ 0 ≤ r ∧ r + n ≤ left) ∧ w1 = w' := by
    intro w1
    unfold maxLen at hm
    go_enter Tryz.func89, Tryz.ntmps89
    go_wp2
    · go_ret
      exact ⟨-1, rfl, .inl rfl, rfl⟩
    · go_ret
      exact ⟨_, rfl, .inr ⟨by omega, by omega⟩, rfl⟩
  unfold maxLen at hl hc
  have HI := Lib.hid hI; clear hI
  go_enter Tryz.func54, Tryz.ntmps54
  go_wp2_with (go_at_call 89; refine (HI.out _).mono ?_; rintro e w1 ⟨r, rfl, hr, rfl⟩)
  · go_ret
    exact ⟨-1, rfl, .inl rfl, by (repeat (first | (with_reducible assumption) | (with_reducible exact Below.refl _ _) | exact Nat.le_refl _ | exact Below.size (by with_reducible assumption) | (with_reducible refine Below.drew ?_) | (with_reducible refine below_drewN ?_ _) | (with_reducible refine Below.alloc ?_ ?_ _) | (with_reducible refine Below.setCell ?_ ?_ _) | (with_reducible refine le_alloc ?_ _) | (with_reducible refine le_set ?_ _ _) | (with_reducible refine le_drew ?_) | (with_reducible refine le_drewN ?_ _) | omega | (dsimp only; omega)))⟩
  · have hr' : 0 ≤ r ∧ r + n ≤ left := by omega
    go_ret
    exact ⟨-1, rfl, .inl rfl, by (repeat (first | (with_reducible assumption) | (with_reducible exact Below.refl _ _) | exact Nat.le_refl _ | exact Below.size (by with_reducible assumption) | (with_reducible refine Below.drew ?_) | (with_reducible refine below_drewN ?_ _) | (with_reducible refine Below.alloc ?_ ?_ _) | (with_reducible refine Below.setCell ?_ ?_ _) | (with_reducible refine le_alloc ?_ _) | (with_reducible refine le_set ?_ _ _) | (with_reducible refine le_drew ?_) | (with_reducible refine le_drewN ?_ _) | omega | (dsimp only; omega)))⟩
  · have hr' : 0 ≤ r ∧ r + n ≤ left := by omega
    go_ret
    exact ⟨-1, rfl, .inl rfl, by (repeat (first | (with_reducible assumption) | (with_reducible exact Below.refl _ _) | exact Nat.le_refl _ | exact Below.size (by with_reducible assumption) | (with_reducible refine Below.drew ?_) | (with_reducible refine below_drewN ?_ _) | (with_reducible refine Below.alloc ?_ ?_ _) | (with_reducible refine Below.setCell ?_ ?_ _) | (with_reducible refine le_alloc ?_ _) | (with_reducible refine le_set ?_ _ _) | (with_reducible refine le_drew ?_) | (with_reducible refine le_drewN ?_ _) | omega | (dsimp only; omega)))⟩
  · have hr' : 0 ≤ r ∧ r + n ≤ left := by omega
    go_ret
    exact ⟨_, rfl, .inr ⟨by omega, by omega⟩, by (repeat (first | (with_reducible assumption) | (with_reducible exact Below.refl _ _) | exact Nat.le_refl _ | exact Below.size (by with_reducible assumption) | (with_reducible refine Below.drew ?_) | (with_reducible refine below_drewN ?_ _) | (with_reducible refine Below.alloc ?_ ?_ _) | (with_reducible refine Below.setCell ?_ ?_ _) | (with_reducible refine le_alloc ?_ _) | (with_reducible refine le_set ?_ _ _) | (with_reducible refine le_drew ?_) | (with_reducible refine le_drewN ?_ _) | omega | (dsimp only; omega)))⟩
theorem chInfo : (Tryz.prog.info? 53).map (fun i => (i.zero, i.size, i.bytes)) = some (some (.agg #[.int .i64 0, .slice none 0 0, .string ByteArray.empty, .string ByteArray.empty, .int .i64 0]), 5, 72) := by kernel_rfl
end Go.Proofs.YtpfnnjcochhklaaGreatDoor

/- The reference's least and greatest of two numbers. -/
namespace Go.Proofs.YtpfnnjcochhklaaGreatDoor
open Go.RowKit
set_option maxHeartbeats 400000 in
theorem l00Min_c (a b : Int) (w : World) : Calls Tryz.prog 103 #[.int .i64 a, .int .i64 b] w fun e w' => e = .returned (.int .i64 (min a b)) ∧ w = w' := by
  go_enter Tryz.func103, Tryz.ntmps103
  go_wp2
  all_goals
    go_ret
    exact ⟨ret_eq (int_eq (by omega)), rfl⟩
end Go.Proofs.YtpfnnjcochhklaaGreatDoor
