/- Walks of the laws' own functions over duties. -/
import Derived.Test.YtimbakjajglppaaChecked
import Derived.Test.YtimbakjajglppaaBase
namespace Go.Proofs.Ytimbakjajglppaa
open Go.RowKit

structure Duty where
  keeper : ByteArray
  fr : Int
  un : Int
  deriving DecidableEq
def Duty.cells (d : Duty) : List Value := [.string d.keeper, .int .i64 d.fr, .int .i64 d.un]
theorem Duty.cells_len (d : Duty) : d.cells.length = 3 := rfl
abbrev Duty.val (d : Duty) : Value := .agg #[.string d.keeper, .int .i64 d.fr, .int .i64 d.un]

/-- The k-th duty of a slice. -/
theorem Sl.duty {w : World} {B n : Nat} {A : Option Addr} {xs : List Duty} (h : Sl w B 3 A n (xs.flatMap Duty.cells)) (k : Nat) (hk : k < n) :
    ∃ b off d, A = some ⟨b, off, none⟩ ∧ b < B ∧ xs[k]? = some d ∧ w.cell? ⟨b, off + k * 3, none⟩ = some (.string d.keeper) ∧ w.cell? ⟨b, off + k * 3 + 1, none⟩ = some (.int .i64 d.fr) ∧ w.cell? ⟨b, off + k * 3 + 2, none⟩ = some (.int .i64 d.un) := by
  obtain ⟨b, off, d, hA, hb, hx, hc⟩ := h.get Duty.cells 3 Duty.cells_len (by omega) k hk
  exact ⟨b, off, d, hA, hb, hx, hc 0 _ rfl, hc 1 _ rfl, hc 2 _ rfl⟩
def Duty.same (d e : Duty) : Bool := d.keeper.toList == e.keeper.toList && d.fr == e.fr && d.un == e.un
theorem Duty.same_eq (d e : Duty) : d.same e = decide (d = e) := by
  cases d; cases e
  simp only [Duty.same, ba_beq, Duty.mk.injEq]
  rw [Bool.eq_iff_iff]
  simp [and_assoc]

set_option maxHeartbeats 400000 in
theorem szDuty_c (d : Duty) (left : Int) (w : World) (hs : d.keeper.size ≤ maxLen) (h0 : 0 ≤ left) (h1 : left ≤ 1048576) :
    Calls Try.prog 33 #[d.val, .int .i64 left] w fun e w' => ∃ r : Int, e = .returned (.int .i64 r) ∧ (r = -1 ∨ 0 ≤ r ∧ r ≤ left) ∧ Below w.heap.size w w' := by
  unfold maxLen at hs
  go_enter Try.func33, Try.ntmps33
  go_wp2
  · go_ret
    exact ⟨-1, rfl, .inl rfl, (by (repeat (first | assumption | exact Below.refl _ _ | exact Nat.le_refl _ | exact Below.size (by assumption) | refine Below.drew ?_ | refine below_drewN ?_ _ | refine Below.alloc ?_ ?_ _ | refine Below.setCell ?_ ?_ _ | refine le_alloc ?_ _ | refine le_set ?_ _ _ | refine le_drew ?_ | refine le_drewN ?_ _ | omega)))⟩
  · go_ret
    exact ⟨_, rfl, .inr ⟨by omega, by omega⟩, (by (repeat (first | assumption | exact Below.refl _ _ | exact Nat.le_refl _ | exact Below.size (by assumption) | refine Below.drew ?_ | refine below_drewN ?_ _ | refine Below.alloc ?_ ?_ _ | refine Below.setCell ?_ ?_ _ | refine le_alloc ?_ _ | refine le_set ?_ _ _ | refine le_drew ?_ | refine le_drewN ?_ _ | omega)))⟩

set_option maxHeartbeats 400000 in
theorem eqDuty_c (d e : Duty) (w : World) :
    Calls Try.prog 36 #[d.val, e.val] w fun r w' => r = .returned (.bool (d.same e)) ∧ Below w.heap.size w w' := by
  obtain ⟨s, f, u⟩ := d
  obtain ⟨t, g, v⟩ := e
  go_enter Try.func36, Try.ntmps36
  go_wp2
  all_goals
    go_ret
    exact ⟨ret_eq (bool_eq (by simp_all [Duty.same])), (by (repeat (first | assumption | exact Below.refl _ _ | exact Nat.le_refl _ | exact Below.size (by assumption) | refine Below.drew ?_ | refine below_drewN ?_ _ | refine Below.alloc ?_ ?_ _ | refine Below.setCell ?_ ?_ _ | refine le_alloc ?_ _ | refine le_set ?_ _ _ | refine le_drew ?_ | refine le_drewN ?_ _ | omega)))⟩

set_option maxHeartbeats 400000 in
theorem toDuty_c (d : Duty) (w : World) :
    Calls Try.prog 34 #[d.val] w fun r w' => r = .returned d.val ∧ Below w.heap.size w w' := by
  go_enter Try.func34, Try.ntmps34
  go_wp2
  exact bodyPost_ret (v := d.val) (by simp [results, Try.results34, go_sem]) rfl ⟨rfl, by (repeat (first | assumption | exact Below.refl _ _ | exact Nat.le_refl _ | exact Below.size (by assumption) | refine Below.drew ?_ | refine below_drewN ?_ _ | refine Below.alloc ?_ ?_ _ | refine Below.setCell ?_ ?_ _ | refine le_alloc ?_ _ | refine le_set ?_ _ _ | refine le_drew ?_ | refine le_drewN ?_ _ | omega))⟩

set_option maxHeartbeats 400000 in
theorem szDutyS_c (A : Option Addr) (n c : Nat) (xs : List Duty) (left : Int) (w : World) (h : Sl w w.heap.size 3 A n (xs.flatMap Duty.cells)) (hm : n ≤ maxLen)
    (hs : ∀ d ∈ xs, d.keeper.size ≤ maxLen) (h0 : 0 ≤ left) (h1 : left ≤ 1048576) :
    Calls Try.prog 9 #[.slice A n c, .int .i64 left] w fun e w' => ∃ r : Int, e = .returned (.int .i64 r) ∧ (r = -1 ∨ 0 ≤ r ∧ r ≤ left ∧ n ≤ left) ∧ Below w.heap.size w w' := by
  unfold maxLen at hm
  go_enter Try.func9, Try.ntmps9
  go_wp2
  · go_ret
    exact ⟨-1, rfl, .inl rfl, by (repeat (first | assumption | exact Below.refl _ _ | exact Nat.le_refl _ | exact Below.size (by assumption) | refine Below.drew ?_ | refine below_drewN ?_ _ | refine Below.alloc ?_ ?_ _ | refine Below.setCell ?_ ?_ _ | refine le_alloc ?_ _ | refine le_set ?_ _ _ | refine le_drew ?_ | refine le_drewN ?_ _ | omega))⟩
  · go_loopw [1, 5] (fun l i wr => ∃ (k : Nat) (r : Int), k ≤ n ∧ i = .int .i64 k ∧ l = .int .i64 r ∧ 0 ≤ r ∧ r ≤ left - n ∧ Below w.heap.size w wr) (fun _ i _ => n - (intOf i).toNat)
    case atStart => exact ⟨0, _, Nat.zero_le _, rfl, rfl, by omega, by omega, Below.refl _ _⟩
    case round =>
      obtain ⟨k, r, hk, rfl, rfl, hr0, hr1, hbw⟩ := hrel
      by_cases hlt : k < n
      · obtain ⟨b, off, d, rfl, hb, hd, c1, c2, c3⟩ := h.duty k hlt
        have hds := hs d (List.mem_of_getElem? hd)
        have r1 := keepC hbw b hb
        have Hd := Lib.hid hd; clear hd
        go_wp2_with (go_at_call 33; refine (szDuty_c d r _ hds hr0 (by omega)).mono ?_; rintro e w1 ⟨q, rfl, hq, hb1⟩)
        · go_ret
          exact ⟨-1, rfl, .inl rfl, hbw.trans (hb1.mono hbw.size)⟩
        · have hq' : 0 ≤ q ∧ q ≤ r := by omega
          go_roundw
          case rel => exact ⟨k + 1, q, by omega, by go_num, rfl, hq'.1, by omega, hbw.trans (hb1.mono hbw.size)⟩
          case measure => simp [intOf]; omega
      · go_wp2
        go_ret
        exact ⟨r, rfl, .inr ⟨by omega, by omega, by omega⟩, hbw⟩

def Sees2 (w : World) (b b' : Nat) (w' : World) : Prop := Below w.heap.size w w' ∧ (∀ x, w'.cell? ⟨b, x, none⟩ = w.cell? ⟨b, x, none⟩) ∧ (∀ x, w'.cell? ⟨b', x, none⟩ = w.cell? ⟨b', x, none⟩)
theorem sees2 {w w' : World} {b b' : Nat} (h : Below w.heap.size w w') (hb : b < w.heap.size) (hb' : b' < w.heap.size) : Below w.heap.size w w' ∧ (∀ x, w'.cell? ⟨b, x, none⟩ = w.cell? ⟨b, x, none⟩) ∧ (∀ x, w'.cell? ⟨b', x, none⟩ = w.cell? ⟨b', x, none⟩) := ⟨h, keepC h b hb, keepC h b' hb'⟩

set_option maxHeartbeats 400000 in
theorem eqDutyS_c (A A' : Option Addr) (n c c' : Nat) (xs : List Duty) (w : World) (h : Sl w w.heap.size 3 A n (xs.flatMap Duty.cells)) (h' : Sl w w.heap.size 3 A' n (xs.flatMap Duty.cells)) (hm : n ≤ maxLen) :
    Calls Try.prog 13 #[.slice A n c, .slice A' n c'] w fun e w' => e = .returned (.bool true) ∧ Below w.heap.size w w' := by
  unfold maxLen at hm
  go_enter Try.func13, Try.ntmps13
  go_wp2
  go_loopw [5] (fun i wr => ∃ k : Nat, k ≤ n ∧ i = .int .i64 k ∧ Below w.heap.size w wr) (fun i _ => n - (intOf i).toNat)
  case atStart => exact ⟨0, Nat.zero_le _, rfl, Below.refl _ _⟩
  case round =>
    obtain ⟨k, hk, rfl, hbw⟩ := hrel
    by_cases hlt : k < n
    · obtain ⟨b, off, d, rfl, hb, hd, c1, c2, c3⟩ := h.duty k hlt
      obtain ⟨b', off', d', rfl, hb', hd', c1', c2', c3'⟩ := h'.duty k hlt
      obtain rfl : d = d' := by rw [hd] at hd'; exact Option.some.inj hd'
      clear hd'
      have Hd := Lib.hid hd; clear hd
      have j1 : (0 : Int) ≤ (k : Int) := by omega
      have j2 : (k : Int) < (n : Int) := by omega
      have hsm : d.same d = true := by rw [Duty.same_eq]; simp
      have e1 := sees2 hbw hb hb'
      go_wp2
      go_region_held3 (fun w' => Below w.heap.size w w' ∧ (∀ x, w'.cell? ⟨b, x, none⟩ = w.cell? ⟨b, x, none⟩) ∧ (∀ x, w'.cell? ⟨b', x, none⟩ = w.cell? ⟨b', x, none⟩)) (first | exact sees2 hbw.drew hb hb' | exact sees2 (hbw.drew.trans (hb1.mono hbw.size)) hb hb') (first | (go_at_call 36; refine (eqDuty_c d d _).mono ?_; rintro e w' ⟨rfl, hb1⟩))
      have hb2 : Below w.heap.size w w' := hbw.drew.trans (hb1.mono hbw.size)
      go_wp2
      go_roundw
      case rel => exact ⟨k + 1, by omega, by go_num, hb2⟩
      case measure => simp [intOf]; omega
    · go_wp2
      go_ret
      exact ⟨rfl, hbw⟩
end Go.Proofs.Ytimbakjajglppaa
