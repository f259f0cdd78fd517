/- Keepers: lists of different names; slices.Index and Contains over []string. -/
import Derived.Test.YtimbakjajglppaaName
namespace Go.Proofs.Ytimbakjajglppaa
open Go.RowKit
def keepOk (xs : List ByteArray) (i : Nat) : Bool := match xs[i]? with | none => true | some x => nameB x && !hasB (xs.take i) x
def keepersB (xs : List ByteArray) : Bool := allB xs.length (keepOk xs) && (decide (1 ≤ xs.length) && decide (xs.length ≤ 10))
theorem keepOk_at {xs : List ByteArray} {i : Nat} {x : ByteArray} (h : xs[i]? = some x) : keepOk xs i = (nameB x && !hasB (xs.take i) x) := by simp [keepOk, h]

set_option maxRecDepth 100000 in
set_option maxHeartbeats 400000 in
theorem sIndex_c (A : Option Addr) (n c : Nat) (xs : List ByteArray) (s : ByteArray) (w : World) (h : Sl w w.heap.size 1 A n (xs.flatMap strC)) (hm : n ≤ maxLen) :
    Calls Try.prog 85 #[.slice A n c, .string s] w fun e w' => ∃ r : Int, e = .returned (.int .i64 r) ∧ (0 ≤ r ↔ s ∈ xs) ∧ w = w' := by
  unfold maxLen at hm
  have hl := h.len strC 1 strC_len (by omega)
  have Hl := Lib.hid hl; clear hl
  go_enter Try.func85, Try.ntmps85
  go_wp2
  go_loop [5, 8] (fun _ i => ∃ k : Nat, k ≤ n ∧ i = .int .i64 k ∧ ¬ s ∈ xs.take k) (fun _ i => n - (intOf i).toNat)
  case atStart => exact ⟨0, Nat.zero_le _, rfl, by simp⟩
  case round =>
    obtain ⟨k, hk, rfl, hno⟩ := hrel
    have Hno := Lib.hid hno; clear hno
    by_cases hlt : k < n
    · obtain ⟨b, off, d, rfl, hb, hd, c1⟩ := h.str k hlt
      have hbb := ba_beq s d
      have Hd := Lib.hid hd; clear hd
      have Hbb := Lib.hid hbb; clear hbb
      go_wp2
      · go_ret
        rw [Hbb.out] at *
        refine ⟨k, rfl, ?_, rfl⟩
        have e : s = d := by simp_all
        subst e
        exact ⟨fun _ => List.mem_of_getElem? Hd.out, fun _ => by omega⟩
      · go_round
        case rel =>
          rw [Hbb.out] at *
          refine ⟨k + 1, by omega, by go_num, ?_⟩
          rw [mem_take_next Hd.out]
          have e : s ≠ d := by simp_all
          exact fun h => h.elim Hno.out e
        case measure => simp [intOf]; omega
    · go_wp2
      go_ret
      refine ⟨-1, rfl, ?_, rfl⟩
      have hno := Hno.out
      rw [List.take_of_length_le (by rw [Hl.out]; omega)] at hno
      exact ⟨fun h => by omega, fun h => absurd h hno⟩

set_option maxHeartbeats 400000 in
theorem sContains_c (A : Option Addr) (n c : Nat) (xs : List ByteArray) (s : ByteArray) (w : World) (h : Sl w w.heap.size 1 A n (xs.flatMap strC)) (hm : n ≤ maxLen) :
    Calls Try.prog 61 #[.slice A n c, .string s] w fun e w' => e = .returned (.bool (hasB xs s)) ∧ w = w' := by
  go_enter Try.func61, Try.ntmps61
  go_wp2_with (go_at_call 85; refine (sIndex_c A n c xs s _ h hm).mono ?_; rintro e w1 ⟨r, rfl, hr, rfl⟩)
  go_ret
  exact ⟨ret_eq (bool_eq (by rw [Bool.eq_iff_iff, hasB_iff, ← hr]; simp)), rfl⟩

set_option maxRecDepth 100000 in
set_option maxHeartbeats 400000 in
theorem areKeepers_c (A : Option Addr) (n c : Nat) (xs : List ByteArray) (w : World) (h : Sl w w.heap.size 1 A n (xs.flatMap strC)) (hm : n ≤ maxLen) (hnc : n ≤ c) (hs : ∀ s ∈ xs, s.size ≤ maxLen) :
    Calls Try.prog 40 #[.slice A n c] w fun e w' => e = .returned (.bool (keepersB xs)) ∧ w = w' := by
  unfold maxLen at hm
  have hl := h.len strC 1 strC_len (by omega)
  have Hl := Lib.hid hl; clear hl
  go_enter Try.func40, Try.ntmps40
  go_wp2
  go_loop [3, 4, 7] (fun _ _ i => ∃ k : Nat, k ≤ n ∧ i = .int .i64 k ∧ ∀ j, j < k → keepOk xs j = true) (fun _ _ i => n - (intOf i).toNat)
  case atStart => exact ⟨0, Nat.zero_le _, rfl, fun j hj => absurd hj (by omega)⟩
  case round =>
    obtain ⟨k, hk, rfl, hok⟩ := hrel
    have Hok := Lib.hid hok; clear hok
    by_cases hlt : k < n
    · have hp := h.pre strC 1 strC_len k hk
      obtain ⟨b, off, d, rfl, hb, hd, c1⟩ := h.str k hlt
      have hds := hs d (List.mem_of_getElem? hd)
      have hka := keepOk_at hd
      have j1 : (0 : Int) ≤ (k : Int) := by omega
      have j2 : (k : Int) ≤ (c : Int) := by omega
      have Hd := Lib.hid hd; clear hd
      have Hka := Lib.hid hka; clear hka
      go_wp2_with (first | (go_at_call 60; refine (isName_c d _ hds).mono ?_; rintro e w1 ⟨rfl, rfl⟩) | (go_at_call 61; refine (sContains_c _ k c (xs.take k) d _ hp (by unfold maxLen; omega)).mono ?_; rintro e w1 ⟨rfl, rfl⟩))
      all_goals
        have hka := Hka.out
        first
        | (go_ret
           exact ⟨ret_eq (bool_eq (by rw [keepersB, allB_no (k := k) (by rw [Hl.out]; exact hlt) (by rw [hka]; simp_all)]; rfl)), rfl⟩)
        | (go_round
           case rel => exact ⟨k + 1, by omega, by go_num, all_next Hok.out (by rw [hka]; simp_all)⟩
           case measure => simp [intOf]; omega)
    · go_wp2_with (first | (go_at_call 41; refine (within_c _ _ _ _).mono ?_; rintro e w1 ⟨rfl, rfl⟩))
      go_ret
      refine ⟨ret_eq (bool_eq ?_), rfl⟩
      rw [keepersB, allB_end Hok.out (by rw [Hl.out]; exact hlt), Hl.out]
      rw [Bool.true_and, inB, Bool.eq_iff_iff]
      simp
      omega

set_option maxRecDepth 100000 in
set_option maxHeartbeats 400000 in
theorem l28Keepers_c (A : Option Addr) (n c : Nat) (xs : List ByteArray) (w : World) (h : Sl w w.heap.size 1 A n (xs.flatMap strC)) (hm : n ≤ maxLen) (hs : ∀ s ∈ xs, s.size ≤ maxLen) :
    Calls Try.prog 37 #[.slice A n c] w fun e w' => e = .returned (.bool (keepersB xs)) ∧ Below w.heap.size w w' := by
  unfold maxLen at hm
  have hl := h.len strC 1 strC_len (by omega)
  have Hl := Lib.hid hl; clear hl
  go_enter Try.func37, Try.ntmps37
  go_wp2
  go_loopw [3, 4] (fun i _ wr => ∃ k : Nat, k ≤ n ∧ i = .int .i64 k ∧ (∀ j, j < k → keepOk xs j = true) ∧ Below w.heap.size w wr) (fun i _ _ => n - (intOf i).toNat)
  case atStart => exact ⟨0, Nat.zero_le _, rfl, fun j hj => absurd hj (by omega), Below.refl _ _⟩
  case round =>
    obtain ⟨k, hk, rfl, hok, hbw⟩ := hrel
    have Hok := Lib.hid hok; clear hok
    by_cases hlt : k < n
    · obtain ⟨b, off, d, rfl, hb, hd, c1⟩ := h.str k hlt
      have hds := hs d (List.mem_of_getElem? hd)
      have hka := keepOk_at hd
      have j1 : (0 : Int) ≤ (k : Int) := by omega
      have j2 : (k : Int) < (n : Int) := by omega
      have q1 := keepC hbw b hb
      have Hd := Lib.hid hd; clear hd
      have Hka := Lib.hid hka; clear hka
      cases hnm : nameB d
      · go_wp2_with (first | (go_at_call 59; refine (l01Name_c d _ hds).mono ?_; rintro e w1 ⟨rfl, rfl⟩))
        go_ret
        have hka := Hka.out
        exact ⟨ret_eq (bool_eq (by rw [keepersB, allB_no (k := k) (by rw [Hl.out]; exact hlt) (by rw [hka]; simp_all)]; rfl)), hbw⟩
      · go_wp2_with (first | (go_at_call 59; refine (l01Name_c d _ hds).mono ?_; rintro e w1 ⟨rfl, rfl⟩))
        have Hnm := Lib.hid hnm; clear hnm
        clear q1
        obtain ⟨wo, rfl⟩ : ∃ wo : World, wo = wr := ⟨_, rfl⟩
        go_loopw [4] (fun i wr => ∃ j : Nat, j ≤ k ∧ i = .int .i64 j ∧ ¬ d ∈ xs.take j ∧ Below w.heap.size w wr) (fun i _ => k - (intOf i).toNat)
        case atStart => exact ⟨0, Nat.zero_le _, rfl, by simp, hbw⟩
        case round =>
          clear hbw
          obtain ⟨j, hj, rfl, hno, hbw⟩ := hrel
          have Hno := Lib.hid hno; clear hno
          have q1 := keepC hbw b hb
          by_cases hlt2 : j < k
          · obtain ⟨b', off', d', e', hb', hd', c2⟩ := h.str j (by omega)
            injection e' with e'
            injection e' with e1 e2 _
            subst e1 e2
            have hbb := ba_beq d' d
            have Hd' := Lib.hid hd'; clear hd'
            have Hbb := Lib.hid hbb; clear hbb
            have j3 : (0 : Int) ≤ (j : Int) := by omega
            have j4 : (j : Int) < (n : Int) := by omega
            go_wp2
            go_quiet (fail)
            go_wp2
            · go_ret
              rw [Hbb.out] at *
              have e : d' = d := by simp_all
              refine ⟨ret_eq (bool_eq ?_), by (repeat (first | assumption | exact Below.refl _ _ | exact Nat.le_refl _ | exact Below.size (by assumption) | refine Below.drew ?_ | refine below_drewN ?_ _ | refine Below.alloc ?_ ?_ _ | refine Below.setCell ?_ ?_ _ | refine le_alloc ?_ _ | refine le_set ?_ _ _ | refine le_drew ?_ | refine le_drewN ?_ _ | omega))⟩
              rw [keepersB, allB_no (k := k) (by rw [Hl.out]; exact hlt)]
              · rfl
              · rw [Hka.out, hasB_iff.2]
                · simp
                · exact List.mem_of_getElem? (i := j) (by rw [List.getElem?_take, if_pos hlt2, Hd'.out, e])
            · go_roundw
              case rel =>
                rw [Hbb.out] at *
                refine ⟨j + 1, by omega, by go_num, ?_, by (repeat (first | assumption | exact Below.refl _ _ | exact Nat.le_refl _ | exact Below.size (by assumption) | refine Below.drew ?_ | refine below_drewN ?_ _ | refine Below.alloc ?_ ?_ _ | refine Below.setCell ?_ ?_ _ | refine le_alloc ?_ _ | refine le_set ?_ _ _ | refine le_drew ?_ | refine le_drewN ?_ _ | omega))⟩
                rw [mem_take_next Hd'.out]
                have e : d ≠ d' := fun e => by simp_all
                exact fun h => h.elim Hno.out e
              case measure => simp [intOf]; omega
          · obtain rfl : j = k := by omega
            go_wp2
            go_roundw
            case rel => exact ⟨j + 1, by omega, by go_num, all_next Hok.out (by rw [Hka.out, Hnm.out, hasB_no.2 Hno.out]; rfl), hbw⟩
            case measure => simp [intOf]; omega
    · go_wp2
      all_goals
        go_ret
        refine ⟨ret_eq (bool_eq ?_), hbw⟩
        rw [keepersB, allB_end Hok.out (by rw [Hl.out]; exact hlt), Hl.out]
        rw [Bool.true_and, Bool.eq_iff_iff]
        simp
        try omega
end Go.Proofs.Ytimbakjajglppaa
