/- ChSG: several of my texts in one. -/
import Derived.Test.YtpfnnjcochhklaaGreatDoorChC
import Derived.Test.YtpfnnjcochhklaaGreatDoorApG

/- Characters: the reference's small functions. -/
namespace Go.Proofs.YtpfnnjcochhklaaGreatDoor
open Go.RowKit
set_option maxHeartbeats 400000 in
theorem l05Rank_c (n : Int) (w : World) : Calls Tryz.prog 153 #[.int .u8 n] w fun e w' => e = .returned (.int .i64 (rankI n)) ∧ w = w' := by
  go_enter Tryz.func153, Tryz.ntmps153
  go_wp2
  all_goals
    go_ret
    exact ⟨ret_eq (int_eq (by simp_all [rankI])), rfl⟩
set_option maxHeartbeats 400000 in
theorem l05Flash_c (n : Int) (w : World) : Calls Tryz.prog 141 #[.int .i64 n] w fun e w' => e = .returned (.int .i64 (flashI n)) ∧ w = w' := by
  go_enter Tryz.func141, Tryz.ntmps141
  go_wp2
  all_goals
    go_ret
    exact ⟨ret_eq (int_eq (by simp_all [flashI])), rfl⟩
set_option maxHeartbeats 400000 in
theorem l05Gap_c (n : Int) (w : World) : Calls Tryz.prog 140 #[.int .i64 n] w fun e w' => e = .returned (.int .i64 (gapI n)) ∧ w = w' := by
  go_enter Tryz.func140, Tryz.ntmps140
  go_wp2
  all_goals
    go_ret
    exact ⟨ret_eq (int_eq (by simp_all [gapI])), rfl⟩
set_option maxHeartbeats 400000 in
theorem l05Kind_c (n : Int) (w : World) : Calls Tryz.prog 135 #[.int .i64 n] w fun e w' => e = .returned (.bool (inB n 1 8)) ∧ w = w' := by
  go_enter Tryz.func135, Tryz.ntmps135
  go_wp2_with (go_at_call 82; refine (l00In_c _ _ _ _).mono ?_; rintro e w1 ⟨rfl, rfl⟩)
  go_ret
  exact ⟨rfl, rfl⟩
theorem sum_abs : ∀ {gs : List Int}, (∀ x ∈ gs, -1000000 ≤ x ∧ x ≤ 1000000) → -1000000 * gs.length ≤ gs.sum ∧ gs.sum ≤ 1000000 * gs.length
  | [], _ => by simp
  | x :: gs, h => by
    have h1 := sum_abs (gs := gs) fun y hy => h y (List.mem_cons_of_mem _ hy)
    have h2 := h x List.mem_cons_self
    simp only [List.length_cons, List.sum_cons]
    omega
set_option maxRecDepth 100000 in
set_option maxHeartbeats 400000 in
theorem l05Total_c (A : Option Addr) (n c : Nat) (gs : List Int) (w : World) (h : Sl w w.heap.size 1 A n (gs.flatMap intC)) (hm : n ≤ 1048576) (hb : ∀ x ∈ gs, -1000000 ≤ x ∧ x ≤ 1000000) :
    Calls Tryz.prog 120 #[.slice A n c] w fun e w' => e = .returned (.int .i64 gs.sum) ∧ w = w' := by
  have hl := h.len intC 1 intC_len (by omega)
  have Hl := Lib.hid hl; clear hl
  go_enter Tryz.func120, Tryz.ntmps120
  go_wp2
  go_loop [3, 4] (fun t i => ∃ k : Nat, k ≤ n ∧ i = .int .i64 k ∧ t = .int .i64 (gs.take k).sum) (fun _ i => n - (intOf i).toNat)
  case atStart => exact ⟨0, Nat.zero_le _, rfl, rfl⟩
  case round =>
    obtain ⟨k, hk, rfl, rfl⟩ := hrel
    by_cases hlt : k < n
    · obtain ⟨b, off, x, rfl, hbb, hx, c1⟩ := h.int k hlt
      have hsa := sum_abs (gs := gs.take k) fun y hy => hb y (List.mem_of_mem_take hy)
      rw [List.length_take_of_le (by rw [Hl.out]; omega)] at hsa
      have hxb := hb x (List.mem_of_getElem? hx)
      obtain ⟨u1, u2⟩ := hsa
      obtain ⟨u3, u4⟩ := hxb
      have Hx := Lib.hid hx; clear hx
      go_wp2
      go_round
      case rel => exact ⟨k + 1, by omega, by go_num, int_eq (by rw [sum_next Hx.out])⟩
      case measure => simp [intOf]; omega
    · go_wp2
      go_ret
      exact ⟨ret_eq (int_eq (by rw [List.take_of_length_le (by rw [Hl.out]; omega)])), rfl⟩
def sumG (gs : List Int) : Int := if gs = [] then 1 else gs.sum
set_option maxRecDepth 100000 in
set_option maxHeartbeats 400000 in
theorem l05Sum_c (A : Option Addr) (n c : Nat) (gs : List Int) (w : World) (h : Sl w w.heap.size 1 A n (gs.flatMap intC)) (hm : n ≤ 1048576) (hb : ∀ x ∈ gs, -1000000 ≤ x ∧ x ≤ 1000000) :
    Calls Tryz.prog 119 #[.slice A n c] w fun e w' => e = .returned (.int .i64 (sumG gs)) ∧ w = w' := by
  have hl := h.len intC 1 intC_len (by omega)
  rcases Nat.eq_zero_or_pos n with h0 | h0
  · subst h0
    obtain rfl := List.eq_nil_of_length_eq_zero hl
    go_enter Tryz.func119, Tryz.ntmps119
    go_wp2
    go_ret
    exact ⟨rfl, rfl⟩
  · have e0 : sumG gs = gs.sum := by rw [sumG, if_neg (fun e => by rw [e] at hl; simp at hl; omega)]
    rw [e0]
    have hz : ((n : Int) == 0) = false := by simp; omega
    have Hl := Lib.hid hl; clear hl
    clear e0
    go_enter Tryz.func119, Tryz.ntmps119
    go_wp2
    go_loop [3, 4] (fun t i => ∃ k : Nat, k ≤ n ∧ i = .int .i64 k ∧ t = .int .i64 (gs.take k).sum) (fun _ i => n - (intOf i).toNat)
    case atStart => exact ⟨0, Nat.zero_le _, rfl, rfl⟩
    case round =>
      obtain ⟨k, hk, rfl, rfl⟩ := hrel
      by_cases hlt : k < n
      · obtain ⟨b, off, x, rfl, hbb, hx, c1⟩ := h.int k hlt
        have hsa := sum_abs (gs := gs.take k) fun y hy => hb y (List.mem_of_mem_take hy)
        rw [List.length_take_of_le (by rw [Hl.out]; omega)] at hsa
        have hxb := hb x (List.mem_of_getElem? hx)
        obtain ⟨u1, u2⟩ := hsa
        obtain ⟨u3, u4⟩ := hxb
        have Hx := Lib.hid hx; clear hx
        go_wp2
        go_round
        case rel => exact ⟨k + 1, by omega, by go_num, int_eq (by rw [sum_next Hx.out])⟩
        case measure => simp [intOf]; omega
      · go_wp2
        go_ret
        exact ⟨ret_eq (int_eq (by rw [List.take_of_length_le (by rw [Hl.out]; omega)])), rfl⟩
theorem good_mem {gs : List Int} (h : ∀ i, i < gs.length → goodG gs i = true) : ∀ x ∈ gs, 1 ≤ x ∧ x ≤ 9 := fun x hx => by
  obtain ⟨i, hi⟩ := List.mem_iff_getElem?.1 hx
  have := h i (List.getElem?_eq_some_iff.1 hi).1
  rw [goodG_at hi] at this
  exact inB_iff.1 this
set_option maxRecDepth 100000 in
set_option maxHeartbeats 1000000 in
theorem l05Group_c (A : Option Addr) (n c : Nat) (gs : List Int) (w : World) (h : Sl w w.heap.size 1 A n (gs.flatMap intC)) (hm : n ≤ 1048576) :
    Calls Tryz.prog 100 #[.slice A n c] w fun e w' => e = .returned (.bool (groupB gs)) ∧ w = w' := by
  have hl := h.len intC 1 intC_len (by omega)
  have Hl := Lib.hid hl; clear hl
  go_enter Tryz.func100, Tryz.ntmps100
  go_wp2
  go_loop [3] (fun i => ∃ k : Nat, k ≤ n ∧ i = .int .i64 k ∧ ∀ j, j < k → goodG gs j = true) (fun i => n - (intOf i).toNat)
  case atStart => exact ⟨0, Nat.zero_le _, rfl, fun j hj => absurd hj (by omega)⟩
  case round =>
    obtain ⟨k, hk, rfl, hok⟩ := hrel
    have Hok := Lib.hid hok; clear hok
    by_cases hlt : k < n
    · obtain ⟨b, off, x, rfl, hbb, hx, c1⟩ := h.int k hlt
      have hga := goodG_at hx
      have Hx := Lib.hid hx; clear hx
      have Hga := Lib.hid hga; clear hga
      cases hin : inB x 1 9
      · go_wp2_with (first | (go_at_call 82; refine (l00In_c _ _ _ _).mono ?_; rintro e w1 ⟨rfl, rfl⟩))
        go_ret
        exact ⟨ret_eq (bool_eq (by rw [groupB, allB_no (k := k) (by rw [Hl.out]; exact hlt) (by rw [Hga.out, hin])]; rfl)), rfl⟩
      · go_wp2_with (first | (go_at_call 82; refine (l00In_c _ _ _ _).mono ?_; rintro e w1 ⟨rfl, rfl⟩))
        go_round
        case rel => exact ⟨k + 1, by omega, by go_num, all_next Hok.out (by rw [Hga.out, hin])⟩
        case measure => simp [intOf]; omega
    · obtain rfl : k = n := by omega
      have hall : ∀ j, j < gs.length → goodG gs j = true := by rw [Hl.out]; exact Hok.out
      have hgb : groupB gs = (decide (gs.length ≤ 4) && (decide (gs.sum ≤ 12) && !decide (gs = [1]))) := by rw [groupB, allB_iff.2 hall, Bool.true_and]
      have hmem := good_mem hall
      have hb : ∀ x ∈ gs, -1000000 ≤ x ∧ x ≤ 1000000 := fun x hx => by have := hmem x hx; omega
      have Hgb := Lib.hid hgb; clear hgb
      have Hmem := Lib.hid hmem; clear hmem
      have Hb := Lib.hid hb; clear hb
      clear hall
      by_cases h4 : k ≤ 4
      · by_cases h1 : k = 1
        · subst h1
          obtain ⟨x, hgx⟩ : ∃ x, gs = [x] := List.length_eq_one_iff.1 Hl.out
          obtain ⟨b, off, x', rfl, hbb, hx, c1⟩ := h.int 0 (by omega)
          have hxx : x' = x := by rw [hgx] at hx; simpa using hx.symm
          subst hxx
          have Hgx := Lib.hid hgx; clear hgx
          have Hx := Lib.hid hx; clear hx
          rw [Nat.add_zero] at c1
          by_cases hx1 : x' = 1
          · subst hx1
            go_wp2_with (first | (go_at_call 119; refine (l05Sum_c _ _ _ gs _ h (by omega) Hb.out).mono ?_; rintro e w1 ⟨rfl, rfl⟩))
            go_ret
            exact ⟨ret_eq (bool_eq (by rw [Hgb.out, Hgx.out]; simp)), rfl⟩
          · have hxe : (x' == 1) = false := by simpa using hx1
            go_wp2_with (first | (go_at_call 119; refine (l05Sum_c _ _ _ gs _ h (by omega) Hb.out).mono ?_; rintro e w1 ⟨rfl, rfl⟩))
            go_ret
            exact ⟨ret_eq (bool_eq (by rw [Hgb.out, Hgx.out]; simp [sumG, hx1])), rfl⟩
        · have hk1 : ((k : Int) == 1) = false := by simp; omega
          go_wp2_with (first | (go_at_call 119; refine (l05Sum_c _ _ _ gs _ h (by omega) Hb.out).mono ?_; rintro e w1 ⟨rfl, rfl⟩))
          go_ret
          have hl := Hl.out
          refine ⟨ret_eq (bool_eq ?_), rfl⟩
          rw [Hgb.out, hl, decide_eq_true h4, show decide (gs = [1]) = false from decide_eq_false fun e => h1 (by rw [← hl, e]; rfl), sumG]
          split
          · rename_i e; subst e; simp
          · simp
      · have hk4 : ¬ (k : Int) ≤ 4 := by omega
        go_wp2
        go_ret
        exact ⟨ret_eq (bool_eq (by rw [Hgb.out, Hl.out, decide_eq_false h4]; rfl)), rfl⟩
set_option maxRecDepth 100000 in
set_option maxHeartbeats 1000000 in
theorem l05Colors_c (s : ByteArray) (w : World) (hs : s.size ≤ maxLen) :
    Calls Tryz.prog 136 #[.string s] w fun e w' => e = .returned (.bool (colorsB s)) ∧ Below w.heap.size w w' := by
  unfold maxLen at hs
  go_enter Tryz.func136, Tryz.ntmps136
  go_wp2
  go_loopw [3] (fun i wr => ∃ k : Nat, k ≤ s.size ∧ i = .int .i64 k ∧ (∀ j, j < k → colOk s j = true) ∧ Below w.heap.size w wr) (fun i _ => s.size - (intOf i).toNat)
  case atStart => exact ⟨0, Nat.zero_le _, rfl, fun j hj => absurd hj (by omega), Below.refl _ _⟩
  case round =>
    obtain ⟨k, hk, rfl, hok, hbw⟩ := hrel
    have Hok := Lib.hid hok; clear hok
    by_cases hlt : k < s.size
    · have hb := bt_eq s k hlt
      have Hb := Lib.hid hb; clear hb
      cases hr0 : (rankI (s[k].toNat : Int) == 0)
      · have hpos : 0 < rankI (s[k].toNat : Int) := by have := (rankI_bd (s[k].toNat : Int)).1; simp at hr0; omega
        have h01 : (0 : Int) ≤ (k : Int) := by omega
        have h02 : (k : Int) < (s.size : Int) := by omega
        rcases Nat.eq_zero_or_pos k with h0 | h0
        · subst h0
          clear hpos h01 h02
          have h02 : (0 : Int) < (s.size : Int) := by omega
          go_wp2
          go_quiet ((go_at_call 153; exact quiet_c (l05Rank_c _ _)))
          go_wp2
          go_roundw
          case rel =>
            refine ⟨1, by omega, by go_num, all_next Hok.out ?_, by (repeat (first | (with_reducible assumption) | (with_reducible exact Below.refl _ _) | exact Nat.le_refl _ | exact Below.size (by with_reducible assumption) | (with_reducible refine Below.drew ?_) | (with_reducible refine below_drewN ?_ _) | (with_reducible refine Below.alloc ?_ ?_ _) | (with_reducible refine Below.setCell ?_ ?_ _) | (with_reducible refine le_alloc ?_ _) | (with_reducible refine le_set ?_ _ _) | (with_reducible refine le_drew ?_) | (with_reducible refine le_drewN ?_ _) | omega | (dsimp only; omega)))⟩
            have hb := Hb.out
            have hr : 0 < rankI (bt s 0) := by rw [hb]; have := (rankI_bd (s[0].toNat : Int)).1; simp at hr0; omega
            simp [colOk, hr]
          case measure => simp [intOf]; omega
        · obtain ⟨j, rfl⟩ : ∃ j, k = j + 1 := ⟨k - 1, by omega⟩
          have hb2 := bt_eq s j (by omega)
          have h03 : (0 : Int) ≤ (j : Int) := by omega
          have h04 : (j : Int) < (s.size : Int) := by omega
          have h05 : (j : Int) + 1 < (s.size : Int) := by omega
          have h06 : (0 : Int) ≤ (j : Int) + 1 := by omega
          have h07 : decide ((0 : Int) < (j : Int) + 1) = true := by simp <;> omega
          have hw1 : IntKind.i64.wrap ((j : Int) + 1 - 1) = (j : Int) := by rw [show (j : Int) + 1 - 1 = j by omega]; exact IntWalk.i64_in _ (by omega)
          have Hb2 := Lib.hid hb2; clear hb2
          have Hpos := Lib.hid hpos; clear hpos
          clear h01 h02
          go_wp2
          go_quiet ((go_at_call 153; exact quiet_c (l05Rank_c _ _)))
          clear hw1
          go_wp2
          · go_ret
            refine ⟨ret_eq (bool_eq ?_), by (repeat (first | (with_reducible assumption) | (with_reducible exact Below.refl _ _) | exact Nat.le_refl _ | exact Below.size (by with_reducible assumption) | (with_reducible refine Below.drew ?_) | (with_reducible refine below_drewN ?_ _) | (with_reducible refine Below.alloc ?_ ?_ _) | (with_reducible refine Below.setCell ?_ ?_ _) | (with_reducible refine le_alloc ?_ _) | (with_reducible refine le_set ?_ _ _) | (with_reducible refine le_drew ?_) | (with_reducible refine le_drewN ?_ _) | omega | (dsimp only; omega)))⟩
            have h9 : rankI (s[j + 1].toNat : Int) ≤ rankI (s[j].toNat : Int) := by assumption
            rw [colorsB, allB_no hlt]
            · rfl
            · rw [colOk, Hb.out, Nat.add_sub_cancel, Hb2.out]
              simp
              intro _; exact h9
          · go_roundw
            case rel =>
              refine ⟨j + 2, by omega, by go_num, all_next Hok.out ?_, by (repeat (first | (with_reducible assumption) | (with_reducible exact Below.refl _ _) | exact Nat.le_refl _ | exact Below.size (by with_reducible assumption) | (with_reducible refine Below.drew ?_) | (with_reducible refine below_drewN ?_ _) | (with_reducible refine Below.alloc ?_ ?_ _) | (with_reducible refine Below.setCell ?_ ?_ _) | (with_reducible refine le_alloc ?_ _) | (with_reducible refine le_set ?_ _ _) | (with_reducible refine le_drew ?_) | (with_reducible refine le_drewN ?_ _) | omega | (dsimp only; omega)))⟩
              have h9 : rankI (s[j].toNat : Int) < rankI (s[j + 1].toNat : Int) := by assumption
              have hp := Hpos.out
              rw [colOk, Hb.out, Nat.add_sub_cancel, Hb2.out]
              simp [hp, h9]
            case measure => simp [intOf]; omega
      · have h01 : (0 : Int) ≤ (k : Int) := by omega
        have h02 : (k : Int) < (s.size : Int) := by omega
        go_wp2
        go_quiet ((go_at_call 153; exact quiet_c (l05Rank_c _ _)))
        go_wp2
        go_ret
        refine ⟨ret_eq (bool_eq ?_), by (repeat (first | (with_reducible assumption) | (with_reducible exact Below.refl _ _) | exact Nat.le_refl _ | exact Below.size (by with_reducible assumption) | (with_reducible refine Below.drew ?_) | (with_reducible refine below_drewN ?_ _) | (with_reducible refine Below.alloc ?_ ?_ _) | (with_reducible refine Below.setCell ?_ ?_ _) | (with_reducible refine le_alloc ?_ _) | (with_reducible refine le_set ?_ _ _) | (with_reducible refine le_drew ?_) | (with_reducible refine le_drewN ?_ _) | omega | (dsimp only; omega)))⟩
        rw [colorsB, allB_no hlt]
        · rfl
        · rw [colOk, Hb.out]
          simp at hr0
          simp [hr0]
    · go_wp2
      all_goals
        go_ret
        refine ⟨ret_eq (bool_eq ?_), by (repeat (first | (with_reducible assumption) | (with_reducible exact Below.refl _ _) | exact Nat.le_refl _ | exact Below.size (by with_reducible assumption) | (with_reducible refine Below.drew ?_) | (with_reducible refine below_drewN ?_ _) | (with_reducible refine Below.alloc ?_ ?_ _) | (with_reducible refine Below.setCell ?_ ?_ _) | (with_reducible refine le_alloc ?_ _) | (with_reducible refine le_set ?_ _ _) | (with_reducible refine le_drew ?_) | (with_reducible refine le_drewN ?_ _) | omega | (dsimp only; omega)))⟩
        rw [colorsB, allB_end Hok.out hlt, Bool.true_and, Bool.eq_iff_iff]
        simp
        try omega
end Go.Proofs.YtpfnnjcochhklaaGreatDoor

/- Characters: the reference's functions on a pointer. -/
namespace Go.Proofs.YtpfnnjcochhklaaGreatDoor
open Go.RowKit
/-- A Character lies at block b from cell off on; its group reads as gs. -/
structure ChP (w : World) (b off : Nat) (A : Option Addr) (n c : Nat) (x : Ch) : Prop where
  c0 : w.cell? ⟨b, off, none⟩ = some (.int .i64 x.k)
  c1 : w.cell? ⟨b, off + 1, none⟩ = some (.slice A n c)
  c2 : w.cell? ⟨b, off + 2, none⟩ = some (.string x.l)
  c3 : w.cell? ⟨b, off + 3, none⟩ = some (.string x.cs)
  c4 : w.cell? ⟨b, off + 4, none⟩ = some (.int .i64 x.p)
  hb : b < w.heap.size
  sl : Sl w w.heap.size 1 A n (x.gs.flatMap intC)
  hn : n ≤ 1048576
  hl : x.l.size ≤ 1048576
  hs : x.cs.size ≤ 1048576
theorem ChP.next {w w' : World} {b off : Nat} {A : Option Addr} {n c : Nat} {x : Ch} (h : ChP w b off A n c x) (hb : Below w.heap.size w w') : ChP w' b off A n c x :=
  ⟨(keepC hb b h.hb _).trans h.c0, (keepC hb b h.hb _).trans h.c1, (keepC hb b h.hb _).trans h.c2, (keepC hb b h.hb _).trans h.c3, (keepC hb b h.hb _).trans h.c4, Nat.lt_of_lt_of_le h.hb hb.size, h.sl.next hb, h.hn, h.hl, h.hs⟩
theorem ChP.len {w : World} {b off : Nat} {A : Option Addr} {n c : Nat} {x : Ch} (h : ChP w b off A n c x) : x.gs.length = n := h.sl.len intC 1 intC_len (by omega)
set_option maxRecDepth 100000 in
set_option maxHeartbeats 400000 in
theorem l05Steady_c (b off : Nat) (A : Option Addr) (n c : Nat) (x : Ch) (w : World) (h : ChP w b off A n c x) :
    Calls Tryz.prog 102 #[.pointer (some ⟨b, off, none⟩)] w fun e w' => e = .returned (.bool (steadyB x)) ∧ w = w' := by
  have hl := h.len
  obtain ⟨c0, c1, c2, c3, c4, hb, sl, hn, hlz, hs⟩ := h
  have Hl := Lib.hid hl; clear hl
  go_enter Tryz.func102, Tryz.ntmps102
  go_wp2
  all_goals
    go_ret
    have hl := Hl.out
    have hg : x.gs = [] ↔ n = 0 := by rw [← hl]; exact List.length_eq_zero_iff.symm
    refine ⟨ret_eq (bool_eq ?_), rfl⟩
    simp only [steadyB, hg]
    simp_all
    try (rw [Bool.eq_iff_iff]; simp)
set_option maxRecDepth 100000 in
set_option maxHeartbeats 1000000 in
theorem l05Shape_c (b off : Nat) (A : Option Addr) (n c : Nat) (x : Ch) (w : World) (h : ChP w b off A n c x) :
    Calls Tryz.prog 116 #[.pointer (some ⟨b, off, none⟩)] w fun e w' => e = .returned (.bool (shapeB x)) ∧ Below w.heap.size w w' := by
  have hl := h.len
  have Hl := Lib.hid hl; clear hl
  obtain ⟨k, gs, l, cs, p⟩ := x
  obtain ⟨c0, c1, c2, c3, c4, hb, sl, hn, hlz, hs⟩ := h
  simp only at c0 c1 c2 c3 c4 sl hlz hs
  by_cases hk : 1 ≤ k ∧ k ≤ 8
  · cases hcs : colorsB cs
    · have hik : inB k 1 8 = true := inB_iff.2 hk
      go_enter Tryz.func116, Tryz.ntmps116
      go_wp2_with (first | (go_at_call 135; refine (l05Kind_c _ _).mono ?_; rintro e w1 ⟨rfl, rfl⟩) | (go_at_call 136; refine (l05Colors_c cs _ (by unfold maxLen; omega)).mono ?_; rintro e w1 ⟨rfl, hb1⟩))
      go_ret
      exact ⟨ret_eq (bool_eq (by rw [shapeB, hcs]; rfl)), hb1⟩
    · have hik : inB k 1 8 = true := inB_iff.2 hk
      have hsh : shapeB ⟨k, gs, l, cs, p⟩ = fitsB ⟨k, gs, l, cs, p⟩ := by rw [shapeB, hcs]; rfl
      rw [hsh]
      have hg : decide (gs = []) = ((n : Int) == 0) := by
        have hl := Hl.out
        rw [Bool.eq_iff_iff]; simp [← hl, List.length_eq_zero_iff]
      clear hsh
      rcases (show k = 1 ∨ k = 2 ∨ k = 3 ∨ k = 4 ∨ k = 5 ∨ k = 6 ∨ k = 7 ∨ k = 8 by omega) with rfl | rfl | rfl | rfl | rfl | rfl | rfl | rfl
      · have hf : fitsB ⟨1, gs, l, cs, p⟩ = (((n : Int) == 0) && l.toList.isEmpty) := by rw [← hg]; simp [fitsB, isE]
        have Hf := Lib.hid hf; clear hf
        have Hg := Lib.hid hg; clear hg
        go_enter Tryz.func116, Tryz.ntmps116
        go_wp2_with (first | (go_at_call 135; refine (l05Kind_c _ _).mono ?_; rintro e w1 ⟨rfl, rfl⟩) | (go_at_call 136; refine (l05Colors_c cs _ (by unfold maxLen; omega)).mono ?_; rintro e w1 ⟨rfl, hb1⟩; have q1 := keepC hb1 b hb; have sl1 := sl.next hb1) | (go_at_call 100; refine (l05Group_c A n c gs _ sl1 hn).mono ?_; rintro e w2 ⟨rfl, rfl⟩))
        all_goals
          go_ret
          refine ⟨ret_eq (bool_eq ?_), hb1⟩
          rw [Hf.out]
          simp_all
      · have hf : fitsB ⟨2, gs, l, cs, p⟩ = (l.toList.isEmpty && groupB gs) := by simp [fitsB, isE]
        have Hf := Lib.hid hf; clear hf
        have Hg := Lib.hid hg; clear hg
        go_enter Tryz.func116, Tryz.ntmps116
        go_wp2_with (first | (go_at_call 135; refine (l05Kind_c _ _).mono ?_; rintro e w1 ⟨rfl, rfl⟩) | (go_at_call 136; refine (l05Colors_c cs _ (by unfold maxLen; omega)).mono ?_; rintro e w1 ⟨rfl, hb1⟩; have q1 := keepC hb1 b hb; have sl1 := sl.next hb1) | (go_at_call 100; refine (l05Group_c A n c gs _ sl1 hn).mono ?_; rintro e w2 ⟨rfl, rfl⟩))
        all_goals
          go_ret
          refine ⟨ret_eq (bool_eq ?_), hb1⟩
          rw [Hf.out]
          simp_all
      · have hf : fitsB ⟨3, gs, l, cs, p⟩ = (((n : Int) == 0) && l.toList.isEmpty) := by rw [← hg]; simp [fitsB, isE]
        have Hf := Lib.hid hf; clear hf
        have Hg := Lib.hid hg; clear hg
        go_enter Tryz.func116, Tryz.ntmps116
        go_wp2_with (first | (go_at_call 135; refine (l05Kind_c _ _).mono ?_; rintro e w1 ⟨rfl, rfl⟩) | (go_at_call 136; refine (l05Colors_c cs _ (by unfold maxLen; omega)).mono ?_; rintro e w1 ⟨rfl, hb1⟩; have q1 := keepC hb1 b hb; have sl1 := sl.next hb1) | (go_at_call 100; refine (l05Group_c A n c gs _ sl1 hn).mono ?_; rintro e w2 ⟨rfl, rfl⟩))
        all_goals
          go_ret
          refine ⟨ret_eq (bool_eq ?_), hb1⟩
          rw [Hf.out]
          simp_all
      · have hf : fitsB ⟨4, gs, l, cs, p⟩ = (l.toList.isEmpty && groupB gs) := by simp [fitsB, isE]
        have Hf := Lib.hid hf; clear hf
        have Hg := Lib.hid hg; clear hg
        go_enter Tryz.func116, Tryz.ntmps116
        go_wp2_with (first | (go_at_call 135; refine (l05Kind_c _ _).mono ?_; rintro e w1 ⟨rfl, rfl⟩) | (go_at_call 136; refine (l05Colors_c cs _ (by unfold maxLen; omega)).mono ?_; rintro e w1 ⟨rfl, hb1⟩; have q1 := keepC hb1 b hb; have sl1 := sl.next hb1) | (go_at_call 100; refine (l05Group_c A n c gs _ sl1 hn).mono ?_; rintro e w2 ⟨rfl, rfl⟩))
        all_goals
          go_ret
          refine ⟨ret_eq (bool_eq ?_), hb1⟩
          rw [Hf.out]
          simp_all
      · have hf : fitsB ⟨5, gs, l, cs, p⟩ = (l.toList.isEmpty && groupB gs) := by simp [fitsB, isE]
        have Hf := Lib.hid hf; clear hf
        have Hg := Lib.hid hg; clear hg
        go_enter Tryz.func116, Tryz.ntmps116
        go_wp2_with (first | (go_at_call 135; refine (l05Kind_c _ _).mono ?_; rintro e w1 ⟨rfl, rfl⟩) | (go_at_call 136; refine (l05Colors_c cs _ (by unfold maxLen; omega)).mono ?_; rintro e w1 ⟨rfl, hb1⟩; have q1 := keepC hb1 b hb; have sl1 := sl.next hb1) | (go_at_call 100; refine (l05Group_c A n c gs _ sl1 hn).mono ?_; rintro e w2 ⟨rfl, rfl⟩))
        all_goals
          go_ret
          refine ⟨ret_eq (bool_eq ?_), hb1⟩
          rw [Hf.out]
          simp_all
      · by_cases hn1 : n = 1
        · subst hn1
          obtain ⟨g0, hgx⟩ : ∃ x, gs = [x] := List.length_eq_one_iff.1 Hl.out
          obtain ⟨b2, off2, x', rfl, hbb, hx, d1⟩ := sl.int 0 (by omega)
          have hxx : x' = g0 := by rw [hgx] at hx; simpa using hx.symm
          subst hxx
          have hf : fitsB ⟨6, gs, l, cs, p⟩ = (if (l.toList == [76]) = true then (x' == 6) else l.toList.isEmpty && groupB gs) := by
            simp only [fitsB, isE, isL]
            have e6 : (x' == 6) = decide (x' = 6) := by rw [Bool.eq_iff_iff]; simp
            rw [e6]
            simp [hgx]
          rw [Nat.add_zero] at d1
          clear hx hgx
          have Hf := Lib.hid hf; clear hf
          have Hg := Lib.hid hg; clear hg
          go_enter Tryz.func116, Tryz.ntmps116
          go_wp2_with (first | (go_at_call 135; refine (l05Kind_c _ _).mono ?_; rintro e w1 ⟨rfl, rfl⟩) | (go_at_call 136; refine (l05Colors_c cs _ (by unfold maxLen; omega)).mono ?_; rintro e w1 ⟨rfl, hb1⟩; have q1 := keepC hb1 b hb; have q2 := keepC hb1 b2 hbb; have sl1 := sl.next hb1) | (go_at_call 100; refine (l05Group_c _ 1 c gs _ sl1 hn).mono ?_; rintro e w2 ⟨rfl, rfl⟩))
          all_goals
            go_ret
            refine ⟨ret_eq (bool_eq ?_), hb1⟩
            rw [Hf.out]
            simp_all
        · have hf : fitsB ⟨6, gs, l, cs, p⟩ = (if (l.toList == [76]) = true then false else l.toList.isEmpty && (decide (n ≤ 1) && groupB gs)) := by
            have h6 : ¬ gs = [6] := fun e => hn1 (by rw [← Hl.out, e]; rfl)
            simp only [fitsB, isE, isL, Hl.out]
            simp [h6]
          have hk1 : ((n : Int) == 1) = false := by simp; omega
          have Hf := Lib.hid hf; clear hf
          have Hg := Lib.hid hg; clear hg
          go_enter Tryz.func116, Tryz.ntmps116
          go_wp2_with (first | (go_at_call 135; refine (l05Kind_c _ _).mono ?_; rintro e w1 ⟨rfl, rfl⟩) | (go_at_call 136; refine (l05Colors_c cs _ (by unfold maxLen; omega)).mono ?_; rintro e w1 ⟨rfl, hb1⟩; have q1 := keepC hb1 b hb; have sl1 := sl.next hb1) | (go_at_call 100; refine (l05Group_c A n c gs _ sl1 hn).mono ?_; rintro e w2 ⟨rfl, rfl⟩))
          all_goals
            go_ret
            refine ⟨ret_eq (bool_eq ?_), hb1⟩
            rw [Hf.out]
            simp_all
            try omega
      · by_cases hn1 : n = 1
        · subst hn1
          obtain ⟨g0, hgx⟩ : ∃ x, gs = [x] := List.length_eq_one_iff.1 Hl.out
          obtain ⟨b2, off2, x', rfl, hbb, hx, d1⟩ := sl.int 0 (by omega)
          have hxx : x' = g0 := by rw [hgx] at hx; simpa using hx.symm
          subst hxx
          have hf : fitsB ⟨7, gs, l, cs, p⟩ = (if (l.toList == [76]) = true then (x' == 6) else l.toList.isEmpty && groupB gs) := by
            simp only [fitsB, isE, isL]
            have e6 : (x' == 6) = decide (x' = 6) := by rw [Bool.eq_iff_iff]; simp
            rw [e6]
            simp [hgx]
          rw [Nat.add_zero] at d1
          clear hx hgx
          have Hf := Lib.hid hf; clear hf
          have Hg := Lib.hid hg; clear hg
          go_enter Tryz.func116, Tryz.ntmps116
          go_wp2_with (first | (go_at_call 135; refine (l05Kind_c _ _).mono ?_; rintro e w1 ⟨rfl, rfl⟩) | (go_at_call 136; refine (l05Colors_c cs _ (by unfold maxLen; omega)).mono ?_; rintro e w1 ⟨rfl, hb1⟩; have q1 := keepC hb1 b hb; have q2 := keepC hb1 b2 hbb; have sl1 := sl.next hb1) | (go_at_call 100; refine (l05Group_c _ 1 c gs _ sl1 hn).mono ?_; rintro e w2 ⟨rfl, rfl⟩))
          all_goals
            go_ret
            refine ⟨ret_eq (bool_eq ?_), hb1⟩
            rw [Hf.out]
            simp_all
        · have hf : fitsB ⟨7, gs, l, cs, p⟩ = (if (l.toList == [76]) = true then false else l.toList.isEmpty && (decide (n ≤ 1) && groupB gs)) := by
            have h6 : ¬ gs = [6] := fun e => hn1 (by rw [← Hl.out, e]; rfl)
            simp only [fitsB, isE, isL, Hl.out]
            simp [h6]
          have hk1 : ((n : Int) == 1) = false := by simp; omega
          have Hf := Lib.hid hf; clear hf
          have Hg := Lib.hid hg; clear hg
          go_enter Tryz.func116, Tryz.ntmps116
          go_wp2_with (first | (go_at_call 135; refine (l05Kind_c _ _).mono ?_; rintro e w1 ⟨rfl, rfl⟩) | (go_at_call 136; refine (l05Colors_c cs _ (by unfold maxLen; omega)).mono ?_; rintro e w1 ⟨rfl, hb1⟩; have q1 := keepC hb1 b hb; have sl1 := sl.next hb1) | (go_at_call 100; refine (l05Group_c A n c gs _ sl1 hn).mono ?_; rintro e w2 ⟨rfl, rfl⟩))
          all_goals
            go_ret
            refine ⟨ret_eq (bool_eq ?_), hb1⟩
            rw [Hf.out]
            simp_all
            try omega
      · have hf : fitsB ⟨8, gs, l, cs, p⟩ = (((n : Int) == 0) && letterB l) := by rw [← hg]; simp [fitsB]
        have Hf := Lib.hid hf; clear hf
        have Hg := Lib.hid hg; clear hg
        by_cases hl1 : l.size = 1
        · have hl0 : 0 < l.size := by omega
          have hb0 := bt_eq l 0 hl0
          have hle : letterB l = (decide (65 ≤ (l[0].toNat : Int)) && decide ((l[0].toNat : Int) ≤ 90)) := by simp [letterB, hl1, hb0]
          have hz : (0 : Int) < (l.size : Int) := by omega
          have hz1 : ((l.size : Int) == 1) = true := by simp [hl1]
          have Hb0 := Lib.hid hb0; clear hb0
          have Hle := Lib.hid hle; clear hle
          have Hl1 := Lib.hid hl1; clear hl1
          go_enter Tryz.func116, Tryz.ntmps116
          go_wp2_with (first | (go_at_call 135; refine (l05Kind_c _ _).mono ?_; rintro e w1 ⟨rfl, rfl⟩) | (go_at_call 136; refine (l05Colors_c cs _ (by unfold maxLen; omega)).mono ?_; rintro e w1 ⟨rfl, hb1⟩; have q1 := keepC hb1 b hb; have sl1 := sl.next hb1) | (go_at_call 100; refine (l05Group_c A n c gs _ sl1 hn).mono ?_; rintro e w2 ⟨rfl, rfl⟩))
          all_goals
            go_ret
            refine ⟨ret_eq (bool_eq ?_), hb1⟩
            rw [Hf.out, Hle.out]
            simp_all
            try omega
        · have hle : letterB l = false := by simp [letterB, hl1]
          have hz1 : ((l.size : Int) == 1) = false := by simp; omega
          have Hle := Lib.hid hle; clear hle
          go_enter Tryz.func116, Tryz.ntmps116
          go_wp2_with (first | (go_at_call 135; refine (l05Kind_c _ _).mono ?_; rintro e w1 ⟨rfl, rfl⟩) | (go_at_call 136; refine (l05Colors_c cs _ (by unfold maxLen; omega)).mono ?_; rintro e w1 ⟨rfl, hb1⟩; have q1 := keepC hb1 b hb; have sl1 := sl.next hb1) | (go_at_call 100; refine (l05Group_c A n c gs _ sl1 hn).mono ?_; rintro e w2 ⟨rfl, rfl⟩))
          all_goals
            go_ret
            refine ⟨ret_eq (bool_eq ?_), hb1⟩
            rw [Hf.out, Hle.out]
            simp_all
            try omega
  · have hik : inB k 1 8 = false := inB_no.2 hk
    go_enter Tryz.func116, Tryz.ntmps116
    go_wp2_with (first | (go_at_call 135; refine (l05Kind_c _ _).mono ?_; rintro e w1 ⟨rfl, rfl⟩))
    go_ret
    refine ⟨ret_eq (bool_eq ?_), Below.refl _ _⟩
    rw [shapeB, fitsB]
    simp only
    rw [if_neg (by omega), if_neg (by omega), if_neg (by omega), if_neg (by omega), Bool.and_false]
end Go.Proofs.YtpfnnjcochhklaaGreatDoor
